/- Written by wip/tools/pack.py: the texts that FnOrder needs, without what it does not need. No conditions. -/
import Derived.Test.YtffelpdefjkeaaaGreatDoorKFnOrder7
import Derived.Test.YtffelpdefjkeaaaGreatDoorKFnOrder2
import Derived.Test.YtffelpdefjkeaaaGreatDoorKFnOrder1
import Derived.Test.YtffelpdefjkeaaaGreatDoorKFnOrder6
namespace Go.Proofs.YtffelpdefjkeaaaGreatDoor
open Go.RowKit Go.Lib
def rdC (A : Option Addr) (n c : Nat) (p : Nat) (E : Int) (m : Nat) (f : Flt) : Array Value := #[.slice A n c, .int .i64 p, .int .i64 E, .int .i64 m, .int .i64 f.code, .int .i64 f.at', .string f.path]
/-- The reader's box b: the signs L, at sign p, the text's end E, m values counted, the fault f. -/
def RdAt (L : List SignD) (E : Int) (b : Nat) (p m : Nat) (f : Flt) (w : World) : Prop :=
  ∃ (A : Option Addr) (c : Nat), w.heap[b]? = some (.cells (rdC A L.length c p E m f) 56 (0, 0)) ∧ SignsE 0 w L (.slice A L.length c) ∧ ∀ g, (Value.slice A L.length c).ownBlock = some g → g < b
theorem RdAt.lt {L : List SignD} {E : Int} {b p m : Nat} {f : Flt} {w : World} (h : RdAt L E b p m f w) : b < w.heap.size := by
  obtain ⟨A, c, h1, -, -⟩ := h
  exact row_lt h1
theorem RdAt.below {L : List SignD} {E : Int} {b p m : Nat} {f : Flt} {w w' : World} (h : RdAt L E b p m f w) (hb : Below w.heap.size w w') : RdAt L E b p m f w' := by
  obtain ⟨A, c, h1, h2, h3⟩ := h
  exact ⟨A, c, (hb.block b (row_lt h1)).trans h1, h2.below hb, h3⟩
theorem row7r {w : World} {b : Nat} {a0 a1 a2 a3 a4 a5 a6 : Value} {e : TypeId} (hr : w.heap[b]? = some (.cells #[a0, a1, a2, a3, a4, a5, a6] e (0, 0))) :
    w.cell? ⟨b, 0, none⟩ = some a0 ∧ w.cell? ⟨b, 1, none⟩ = some a1 ∧ w.cell? ⟨b, 2, none⟩ = some a2 ∧ w.cell? ⟨b, 3, none⟩ = some a3 ∧ w.cell? ⟨b, 4, none⟩ = some a4 ∧ w.cell? ⟨b, 5, none⟩ = some a5 ∧ w.cell? ⟨b, 6, none⟩ = some a6 ∧ ∀ o, w.frozen? ⟨b, o, none⟩ = false :=
  ⟨by rw [cell_of_row _ _ _ _ _ _ hr]; rfl, by rw [cell_of_row _ _ _ _ _ _ hr]; rfl, by rw [cell_of_row _ _ _ _ _ _ hr]; rfl, by rw [cell_of_row _ _ _ _ _ _ hr]; rfl, by rw [cell_of_row _ _ _ _ _ _ hr]; rfl, by rw [cell_of_row _ _ _ _ _ _ hr]; rfl, by rw [cell_of_row _ _ _ _ _ _ hr]; rfl, fun o => frozen_row hr o⟩
/-- The sign at p lies in the row. -/
theorem sign_row {w : World} {L : List SignD} {A : Option Addr} {c p : Nat} (h : SignsE 0 w L (.slice A L.length c)) (hp : p < L.length) :
    ∃ (g : Nat) (x : SignD), A = some ⟨g, 0, none⟩ ∧ L[p]? = some x ∧ L.length ≤ c ∧ g < w.heap.size ∧ w.cell? ⟨g, p * 4, none⟩ = some (.int .i64 x.kind) ∧ w.cell? ⟨g, p * 4 + 1, none⟩ = some (.string x.text) ∧ w.cell? ⟨g, p * 4 + 2, none⟩ = some (.int .i64 x.num) ∧ w.cell? ⟨g, p * 4 + 3, none⟩ = some (.int .i64 x.at') := by
  obtain ⟨g, cap, cur, hv, -, hg, h1, h2, -, h4⟩ := RowE.row encSg_len h (by omega)
  simp only [Value.slice.injEq] at hv
  obtain ⟨rfl, -, rfl⟩ := hv
  obtain ⟨x, hx⟩ : ∃ x, L[p]? = some x := ⟨L[p], List.getElem?_eq_getElem hp⟩
  exact ⟨g, x, rfl, hx, h1, row_lt hg, by rw [cell_of_row _ g _ cur _ _ hg]; exact h4 p x hx 0 (by decide), by rw [cell_of_row _ g _ cur _ _ hg]; exact h4 p x hx 1 (by decide), by rw [cell_of_row _ g _ cur _ _ hg]; exact h4 p x hx 2 (by decide), by rw [cell_of_row _ g _ cur _ _ hg]; exact h4 p x hx 3 (by decide)⟩
set_option maxHeartbeats 4000000 in
set_option maxRecDepth 20000 in
theorem c_rd_kind (L : List SignD) (E : Int) (b p m : Nat) (f : Flt) (w : World) (hp : p ≤ 1048577) (h : RdAt L E b p m f w) :
    Calls Tryz.prog 67 #[.pointer (some ⟨b, 0, none⟩)] w fun e w' => e = .returned (.int .i64 (kindAt L p)) ∧ Below w.heap.size w w' := by
  obtain ⟨A, c, hbox, hrow, hne⟩ := h
  have HB := Lib.hid hbox
  unfold rdC at hbox
  obtain ⟨a0, a1, a2, a3, a4, a5, a6, af⟩ := row7r hbox
  have l0 := row_lt hbox
  clear hbox
  by_cases hlt : (p : Int) < L.length
  · have hz0 : (0 : Int) ≤ p := by omega
    have HRow := Lib.hid hrow
    clear hrow hne
    go_enter Tryz.func67, Tryz.ntmps67
    go_wp2_with fail
    refine wp_region_det 10 (by kernel_rfl) (by kernel_rfl) (by decide) ?_
    apply Exists.intro
    refine And.intro ?_ ?_
    · (intro W hW; (try simp only [Act.put, List.setIfInBounds_toArray, List.set_cons_zero, List.set_cons_succ]); first | (go_wp2_with fail; exact ⟨rfl, rfl, Below.refl _ _⟩))
    apply Exists.intro
    refine And.intro ?_ ?_
    · (intro W hW; (try simp only [Act.put, List.setIfInBounds_toArray, List.set_cons_zero, List.set_cons_succ]); first | (go_wp2_with fail; exact ⟨rfl, rfl, Below.refl _ _⟩))
    apply Exists.intro
    refine And.intro ?_ ?_
    · (intro W hW; (try simp only [Act.put, List.setIfInBounds_toArray, List.set_cons_zero, List.set_cons_succ]); first | (go_wp2_with fail; exact ⟨rfl, rfl, Below.refl _ _⟩))
    apply Exists.intro
    refine And.intro ?_ ?_
    · (intro W hW; (try simp only [Act.put, List.setIfInBounds_toArray, List.set_cons_zero, List.set_cons_succ]); first | (obtain ⟨hcW, hfW⟩ := bcell hW; have hsW := hW.size; (try simp at hsW); (try have hsW0 := lt_of_succ_le hsW); (try (have hsW1 := lt_pred hsW; (try (have hsW2 := lt_pred hsW1)))); go_wp2_with fail; exact ⟨rfl, rfl, Below.refl _ _⟩))
    apply Exists.intro
    refine And.intro ?_ ?_
    · (intro W hW; (try simp only [Act.put, List.setIfInBounds_toArray, List.set_cons_zero, List.set_cons_succ]); first | (go_wp2_with fail; exact ⟨rfl, rfl, Below.refl _ _⟩))
    apply Exists.intro
    refine And.intro ?_ ?_
    · (intro W hW; (try simp only [Act.put, List.setIfInBounds_toArray, List.set_cons_zero, List.set_cons_succ]); first | (go_wp2_with fail; exact ⟨rfl, rfl, Below.refl _ _⟩))
    apply Exists.intro
    refine And.intro ?_ ?_
    · (intro W hW; (try simp only [Act.put, List.setIfInBounds_toArray, List.set_cons_zero, List.set_cons_succ]); first | (go_wp2_with fail; exact ⟨rfl, rfl, Below.refl _ _⟩))
    apply Exists.intro
    refine And.intro ?_ ?_
    · (intro W hW; (try simp only [Act.put, List.setIfInBounds_toArray, List.set_cons_zero, List.set_cons_succ]); first | (obtain ⟨hcW, hfW⟩ := bcell hW; have hsW := hW.size; (try simp at hsW); (try have hsW0 := lt_of_succ_le hsW); (try (have hsW1 := lt_pred hsW; (try (have hsW2 := lt_pred hsW1)))); go_wp2_with fail; exact ⟨rfl, rfl, Below.refl _ _⟩))
    apply Exists.intro
    refine And.intro ?_ ?_
    · (intro W hW; (try simp only [Act.put, List.setIfInBounds_toArray, List.set_cons_zero, List.set_cons_succ]); first | (go_wp2_with fail; exact ⟨rfl, rfl, Below.refl _ _⟩))
    apply Exists.intro
    refine And.intro ?_ ?_
    · (intro W hW; (try simp only [Act.put, List.setIfInBounds_toArray, List.set_cons_zero, List.set_cons_succ]); first | (go_wp2_with fail; exact ⟨rfl, rfl, Below.refl _ _⟩))
    intro wq hbwq
    (try simp only [Act.put, List.setIfInBounds_toArray, List.set_cons_zero, List.set_cons_succ])
    (try simp only [List.drop_succ_cons, List.drop_nil])
    have hb1 := (hbwq.block b l0).trans HB.out
    clear a0 a1 a2 a3 a4 a5 a6 af
    obtain ⟨a0, a1, a2, a3, a4, a5, a6, af⟩ := row7r (show wq.heap[b]? = some (.cells #[.slice A L.length c, .int .i64 p, .int .i64 E, .int .i64 m, .int .i64 f.code, .int .i64 f.at', .string f.path] 56 (0, 0)) from hb1)
    have l1 := row_lt hb1
    obtain ⟨g, x, rfl, hx, hlc, lg, d0, d1, d2, d3⟩ := sign_row (p := p) (HRow.out.below hbwq) (by omega)
    have HK := Lib.hid (show kindAt L p = x.kind by unfold kindAt; rw [hx])
    clear hx hb1
    go_wp2_with fail
    refine wp_region_det 11 (by kernel_rfl) (by kernel_rfl) (by decide) ?_
    apply Exists.intro
    refine And.intro ?_ ?_
    · (intro W hW; (try simp only [Act.put, List.setIfInBounds_toArray, List.set_cons_zero, List.set_cons_succ]); first | (go_wp2_with fail; exact ⟨rfl, rfl, Below.refl _ _⟩))
    apply Exists.intro
    refine And.intro ?_ ?_
    · (intro W hW; (try simp only [Act.put, List.setIfInBounds_toArray, List.set_cons_zero, List.set_cons_succ]); first | (go_wp2_with fail; exact ⟨rfl, rfl, Below.refl _ _⟩))
    apply Exists.intro
    refine And.intro ?_ ?_
    · (intro W hW; (try simp only [Act.put, List.setIfInBounds_toArray, List.set_cons_zero, List.set_cons_succ]); first | (go_wp2_with fail; exact ⟨rfl, rfl, Below.refl _ _⟩))
    apply Exists.intro
    refine And.intro ?_ ?_
    · (intro W hW; (try simp only [Act.put, List.setIfInBounds_toArray, List.set_cons_zero, List.set_cons_succ]); first | (obtain ⟨hcW, hfW⟩ := bcell hW; have hsW := hW.size; (try simp at hsW); (try have hsW0 := lt_of_succ_le hsW); (try (have hsW1 := lt_pred hsW; (try (have hsW2 := lt_pred hsW1)))); go_wp2_with fail; exact ⟨rfl, rfl, Below.refl _ _⟩))
    apply Exists.intro
    refine And.intro ?_ ?_
    · (intro W hW; (try simp only [Act.put, List.setIfInBounds_toArray, List.set_cons_zero, List.set_cons_succ]); first | (go_wp2_with fail; exact ⟨rfl, rfl, Below.refl _ _⟩))
    apply Exists.intro
    refine And.intro ?_ ?_
    · (intro W hW; (try simp only [Act.put, List.setIfInBounds_toArray, List.set_cons_zero, List.set_cons_succ]); first | (go_wp2_with fail; exact ⟨rfl, rfl, Below.refl _ _⟩))
    apply Exists.intro
    refine And.intro ?_ ?_
    · (intro W hW; (try simp only [Act.put, List.setIfInBounds_toArray, List.set_cons_zero, List.set_cons_succ]); first | (go_wp2_with fail; exact ⟨rfl, rfl, Below.refl _ _⟩))
    apply Exists.intro
    refine And.intro ?_ ?_
    · (intro W hW; (try simp only [Act.put, List.setIfInBounds_toArray, List.set_cons_zero, List.set_cons_succ]); first | (obtain ⟨hcW, hfW⟩ := bcell hW; have hsW := hW.size; (try simp at hsW); (try have hsW0 := lt_of_succ_le hsW); (try (have hsW1 := lt_pred hsW; (try (have hsW2 := lt_pred hsW1)))); go_wp2_with fail; exact ⟨rfl, rfl, Below.refl _ _⟩))
    apply Exists.intro
    refine And.intro ?_ ?_
    · (intro W hW; (try simp only [Act.put, List.setIfInBounds_toArray, List.set_cons_zero, List.set_cons_succ]); first | (go_wp2_with fail; exact ⟨rfl, rfl, Below.refl _ _⟩))
    apply Exists.intro
    refine And.intro ?_ ?_
    · (intro W hW; (try simp only [Act.put, List.setIfInBounds_toArray, List.set_cons_zero, List.set_cons_succ]); first | (go_wp2_with fail; exact ⟨rfl, rfl, Below.refl _ _⟩))
    apply Exists.intro
    refine And.intro ?_ ?_
    · (intro W hW; (try simp only [Act.put, List.setIfInBounds_toArray, List.set_cons_zero, List.set_cons_succ]); first | (obtain ⟨hcW, hfW⟩ := bcell hW; have hsW := hW.size; (try simp at hsW); (try have hsW0 := lt_of_succ_le hsW); (try (have hsW1 := lt_pred hsW; (try (have hsW2 := lt_pred hsW1)))); go_wp2_with fail; exact ⟨rfl, rfl, Below.refl _ _⟩))
    intro wr hbwr
    (try simp only [Act.put, List.setIfInBounds_toArray, List.set_cons_zero, List.set_cons_succ])
    (try simp only [List.drop_succ_cons, List.drop_zero])
    go_wp2_with fail
    exact bodyPost_ret (v := .int .i64 x.kind) (by simp only [results, Tryz.results67]; go_simp) rfl ⟨by rw [HK.out], bel⟩
  · have HK := Lib.hid (show kindAt L p = 0 by unfold kindAt; rw [List.getElem?_eq_none (by omega)])
    clear hrow hne
    go_enter Tryz.func67, Tryz.ntmps67
    go_wp2_with fail
    refine wp_region_det 10 (by kernel_rfl) (by kernel_rfl) (by decide) ?_
    apply Exists.intro
    refine And.intro ?_ ?_
    · (intro W hW; (try simp only [Act.put, List.setIfInBounds_toArray, List.set_cons_zero, List.set_cons_succ]); first | (go_wp2_with fail; exact ⟨rfl, rfl, Below.refl _ _⟩))
    apply Exists.intro
    refine And.intro ?_ ?_
    · (intro W hW; (try simp only [Act.put, List.setIfInBounds_toArray, List.set_cons_zero, List.set_cons_succ]); first | (go_wp2_with fail; exact ⟨rfl, rfl, Below.refl _ _⟩))
    apply Exists.intro
    refine And.intro ?_ ?_
    · (intro W hW; (try simp only [Act.put, List.setIfInBounds_toArray, List.set_cons_zero, List.set_cons_succ]); first | (go_wp2_with fail; exact ⟨rfl, rfl, Below.refl _ _⟩))
    apply Exists.intro
    refine And.intro ?_ ?_
    · (intro W hW; (try simp only [Act.put, List.setIfInBounds_toArray, List.set_cons_zero, List.set_cons_succ]); first | (obtain ⟨hcW, hfW⟩ := bcell hW; have hsW := hW.size; (try simp at hsW); (try have hsW0 := lt_of_succ_le hsW); (try (have hsW1 := lt_pred hsW; (try (have hsW2 := lt_pred hsW1)))); go_wp2_with fail; exact ⟨rfl, rfl, Below.refl _ _⟩))
    apply Exists.intro
    refine And.intro ?_ ?_
    · (intro W hW; (try simp only [Act.put, List.setIfInBounds_toArray, List.set_cons_zero, List.set_cons_succ]); first | (go_wp2_with fail; exact ⟨rfl, rfl, Below.refl _ _⟩))
    apply Exists.intro
    refine And.intro ?_ ?_
    · (intro W hW; (try simp only [Act.put, List.setIfInBounds_toArray, List.set_cons_zero, List.set_cons_succ]); first | (go_wp2_with fail; exact ⟨rfl, rfl, Below.refl _ _⟩))
    apply Exists.intro
    refine And.intro ?_ ?_
    · (intro W hW; (try simp only [Act.put, List.setIfInBounds_toArray, List.set_cons_zero, List.set_cons_succ]); first | (go_wp2_with fail; exact ⟨rfl, rfl, Below.refl _ _⟩))
    apply Exists.intro
    refine And.intro ?_ ?_
    · (intro W hW; (try simp only [Act.put, List.setIfInBounds_toArray, List.set_cons_zero, List.set_cons_succ]); first | (obtain ⟨hcW, hfW⟩ := bcell hW; have hsW := hW.size; (try simp at hsW); (try have hsW0 := lt_of_succ_le hsW); (try (have hsW1 := lt_pred hsW; (try (have hsW2 := lt_pred hsW1)))); go_wp2_with fail; exact ⟨rfl, rfl, Below.refl _ _⟩))
    apply Exists.intro
    refine And.intro ?_ ?_
    · (intro W hW; (try simp only [Act.put, List.setIfInBounds_toArray, List.set_cons_zero, List.set_cons_succ]); first | (go_wp2_with fail; exact ⟨rfl, rfl, Below.refl _ _⟩))
    apply Exists.intro
    refine And.intro ?_ ?_
    · (intro W hW; (try simp only [Act.put, List.setIfInBounds_toArray, List.set_cons_zero, List.set_cons_succ]); first | (go_wp2_with fail; exact ⟨rfl, rfl, Below.refl _ _⟩))
    intro wq hbwq
    (try simp only [Act.put, List.setIfInBounds_toArray, List.set_cons_zero, List.set_cons_succ])
    (try simp only [List.drop_succ_cons, List.drop_nil])
    go_wp2_with fail
    exact bodyPost_ret (v := .int .i64 0) (by simp only [results, Tryz.results67]; go_simp) rfl ⟨by rw [HK.out], bel⟩
theorem RdAt.poke {L : List SignD} {E : Int} {b p m p' m' : Nat} {f f' : Flt} {w w' : World} (h : RdAt L E b p m f w) (hF : Aside (fun q => q = b) w w') (hset : ∀ A c, w.heap[b]? = some (.cells (rdC A L.length c p E m f) 56 (0, 0)) → w'.heap[b]? = some (.cells (rdC A L.length c p' E m' f') 56 (0, 0))) : RdAt L E b p' m' f' w' := by
  obtain ⟨A, c, h1, h2, h3⟩ := h
  exact ⟨A, c, hset A c h1, h2.carry (fun q hq => hF.block q (World.ownsRow.lt h2 q hq).2 (fun e => absurd (h3 q hq) (by omega))), h3⟩
theorem RdAt.past {L : List SignD} {E : Int} {b p m : Nat} {f : Flt} {w w' : World} {S : Nat → Prop} (h : RdAt L E b p m f w) (hF : Aside S w w') (hS : ∀ q, S q → b < q) : RdAt L E b p m f w' := by
  obtain ⟨A, c, h1, h2, h3⟩ := h
  exact ⟨A, c, (hF.block b (row_lt h1) (fun h => absurd (hS b h) (Nat.lt_irrefl _))).trans h1, h2.carry (fun q hq => hF.block q (World.ownsRow.lt h2 q hq).2 (fun hs => by have := hS q hs; have := h3 q hq; omega)), h3⟩
/-- Storing the place. -/
theorem set7_1 {w : World} {b : Nat} {a0 a1 a2 a3 a4 a5 a6 u : Value} {e : TypeId} (h : w.heap[b]? = some (.cells #[a0, a1, a2, a3, a4, a5, a6] e (0, 0))) : (w.setCell ⟨b, 1, none⟩ u).heap[b]? = some (.cells #[a0, u, a2, a3, a4, a5, a6] e (0, 0)) := heap_setCell_same w b 1 _ _ u h
theorem set7_4 {w : World} {b : Nat} {a0 a1 a2 a3 a4 a5 a6 u : Value} {e : TypeId} (h : w.heap[b]? = some (.cells #[a0, a1, a2, a3, a4, a5, a6] e (0, 0))) : (w.setCell ⟨b, 4, none⟩ u).heap[b]? = some (.cells #[a0, a1, a2, a3, u, a5, a6] e (0, 0)) := heap_setCell_same w b 4 _ _ u h
theorem set7_5 {w : World} {b : Nat} {a0 a1 a2 a3 a4 a5 a6 u : Value} {e : TypeId} (h : w.heap[b]? = some (.cells #[a0, a1, a2, a3, a4, a5, a6] e (0, 0))) : (w.setCell ⟨b, 5, none⟩ u).heap[b]? = some (.cells #[a0, a1, a2, a3, a4, u, a6] e (0, 0)) := heap_setCell_same w b 5 _ _ u h
theorem set7_6 {w : World} {b : Nat} {a0 a1 a2 a3 a4 a5 a6 u : Value} {e : TypeId} (h : w.heap[b]? = some (.cells #[a0, a1, a2, a3, a4, a5, a6] e (0, 0))) : (w.setCell ⟨b, 6, none⟩ u).heap[b]? = some (.cells #[a0, a1, a2, a3, a4, a5, u] e (0, 0)) := heap_setCell_same w b 6 _ _ u h
set_option maxHeartbeats 4000000 in
set_option maxRecDepth 20000 in
theorem c_rd_skip_no (L : List SignD) (E k : Int) (b p m : Nat) (f : Flt) (w : World) (hp : p ≤ 1048577) (h : RdAt L E b p m f w) (hn : f.code ≠ 0 ∨ kindAt L p ≠ k) :
    Calls Tryz.prog 105 #[.pointer (some ⟨b, 0, none⟩), .int .i64 k] w fun e w' => e = .returned (.bool false) ∧ Below w.heap.size w w' := by
  have HRd := Lib.hid h
  obtain ⟨A, c, hbox, hrow, hne⟩ := h
  unfold rdC at hbox
  obtain ⟨a0, a1, a2, a3, a4, a5, a6, af⟩ := row7r hbox
  have l0 := row_lt hbox
  obtain ⟨z, hz⟩ : ∃ z, z = f.code := ⟨_, rfl⟩
  rw [← hz] at a4 hn
  clear hbox hrow hne hz
  by_cases hc : z = 0
  · have hk : kindAt L p ≠ k := hn.resolve_left (fun e => e hc)
    obtain rfl := hc
    obtain ⟨t, ht⟩ : ∃ t, t = kindAt L p := ⟨_, rfl⟩
    rw [← ht] at hk
    have HT := Lib.hid ht
    have d1 : (t != k) = true := bne_iff_ne.2 hk
    have d2 : (t == k) = false := beq_eq_false_iff_ne.2 hk
    clear ht hk hn
    go_enter Tryz.func105, Tryz.ntmps105
    go_wp2_with (go_at_call 67; refine (c_rd_kind L E b p m f _ hp HRd.out).mono ?_; rintro e w1 ⟨rfl, hb1⟩; rw [← HT.out])
    go_ret
    exact ⟨rfl, bel⟩
  · have d1 : (z != 0) = true := bne_iff_ne.2 hc
    have d2 : (z == 0) = false := beq_eq_false_iff_ne.2 hc
    clear hc hn
    go_enter Tryz.func105, Tryz.ntmps105
    go_wp2_with fail
    go_ret
    exact ⟨rfl, bel⟩
set_option maxHeartbeats 4000000 in
set_option maxRecDepth 20000 in
theorem c_rd_skip_yes (L : List SignD) (E k : Int) (b p m : Nat) (f : Flt) (w : World) (hp : p ≤ 1048577) (h : RdAt L E b p m f w) (hf : f.code = 0) (hk : kindAt L p = k) :
    Calls Tryz.prog 105 #[.pointer (some ⟨b, 0, none⟩), .int .i64 k] w fun e w' => e = .returned (.bool true) ∧ RdAt L E b (p + 1) m f w' ∧ Aside (fun q => q = b) w w' := by
  have HRd := Lib.hid h
  obtain ⟨A, c, hbox, hrow, hne⟩ := h
  have HBx := Lib.hid hbox
  unfold rdC at hbox
  obtain ⟨a0, a1, a2, a3, a4, a5, a6, af⟩ := row7r hbox
  have l0 := row_lt hbox
  rw [hf] at a4
  have HK := Lib.hid hk
  clear hbox hrow hne hf hk
  go_enter Tryz.func105, Tryz.ntmps105
  go_wp2_with (go_at_call 67; refine (c_rd_kind L E b p m f _ hp HRd.out).mono ?_; rintro e w1 ⟨rfl, hb1⟩; rw [HK.out]; have hx1 := (hb1.block b l0).trans HBx.out; have HX1 := Lib.hid hx1; have HB1 := Lib.hid hb1; clear a0 a1 a2 a3 a4 a5 a6 af; obtain ⟨a0, a1, a2, a3, a4, a5, a6, af⟩ := row7r (show w1.heap[b]? = some (.cells #[.slice A L.length c, .int .i64 p, .int .i64 E, .int .i64 m, .int .i64 f.code, .int .i64 f.at', .string f.path] 56 (0, 0)) from hx1); have l1 := row_lt hx1; clear hx1)
  have hF : Aside (fun q => q = b) w1 (w1.setCell ⟨b, 1, none⟩ (.int .i64 ((p : Int) + 1))) := aside_set rfl (Aside.refl _ _)
  have hR := RdAt.poke (p' := p + 1) (m' := m) (f' := f) (HRd.out.below HB1.out) hF (fun A c h => by unfold rdC at h ⊢; exact set7_1 h)
  have HF := Lib.hid ((Aside.of_below (S := fun q => q = b) HB1.out).trans hF)
  have HR := Lib.hid hR
  clear hF hR
  go_ret
  exact ⟨rfl, HR.out, HF.out⟩
set_option maxHeartbeats 4000000 in
set_option maxRecDepth 20000 in
theorem c_rd_fail_old (L : List SignD) (E k : Int) (b p m : Nat) (f : Flt) (w : World) (h : RdAt L E b p m f w) (hf : f.code ≠ 0) :
    Calls Tryz.prog 35 #[.pointer (some ⟨b, 0, none⟩), .int .i64 k] w fun e w' => e = .returned (.tuple #[]) ∧ Below w.heap.size w w' := by
  obtain ⟨A, c, hbox, hrow, hne⟩ := h
  unfold rdC at hbox
  obtain ⟨a0, a1, a2, a3, a4, a5, a6, af⟩ := row7r hbox
  have l0 := row_lt hbox
  obtain ⟨z, hz⟩ : ∃ z, z = f.code := ⟨_, rfl⟩
  rw [← hz] at a4 hf
  have d1 : (z != 0) = true := bne_iff_ne.2 hf
  have d2 : (z == 0) = false := beq_eq_false_iff_ne.2 hf
  clear hbox hrow hne hz hf
  go_enter Tryz.func35, Tryz.ntmps35
  go_wp2_with fail
  exact bodyPost_ret (v := .tuple #[]) (by simp only [results, Tryz.results35]; go_simp) rfl ⟨rfl, bel⟩
set_option maxHeartbeats 4000000 in
set_option maxRecDepth 20000 in
theorem c_rd_fail_new (L : List SignD) (E k : Int) (b p m : Nat) (f : Flt) (w : World) (hp : p ≤ 1048577) (h : RdAt L E b p m f w) (hf : f.code = 0) :
    Calls Tryz.prog 35 #[.pointer (some ⟨b, 0, none⟩), .int .i64 k] w fun e w' => e = .returned (.tuple #[]) ∧ RdAt L E b p m (badF L E k p) w' ∧ Aside (fun q => q = b) w w' := by
  have HRd := Lib.hid h
  obtain ⟨A, c, hbox, hrow, hne⟩ := h
  have HBx := Lib.hid hbox
  unfold rdC at hbox
  obtain ⟨a0, a1, a2, a3, a4, a5, a6, af⟩ := row7r hbox
  have HB0 := Lib.hid hbox
  have l0 := row_lt hbox
  rw [hf] at a4
  clear hbox hrow hne hf
  obtain ⟨wf, hwf⟩ : ∃ wf, wf = ((w.setCell ⟨b, 4, none⟩ (.int .i64 k)).setCell ⟨b, 5, none⟩ (.int .i64 E)).setCell ⟨b, 6, none⟩ (.string ⟨#[]⟩) := ⟨_, rfl⟩
  have hF : Aside (fun q => q = b) w wf := by rw [hwf]; exact aside_set rfl (aside_set rfl (aside_set rfl (Aside.refl _ _)))
  have hx : wf.heap[b]? = some (.cells #[.slice A L.length c, .int .i64 p, .int .i64 E, .int .i64 m, .int .i64 k, .int .i64 E, .string ⟨#[]⟩] 56 (0, 0)) := by rw [hwf]; exact set7_6 (set7_5 (set7_4 HB0.out))
  have hR : RdAt L E b p m ⟨k, E, ⟨#[]⟩⟩ wf := RdAt.poke HRd.out hF (fun A' c' h' => by rw [hwf]; unfold rdC at h' ⊢; exact set7_6 (set7_5 (set7_4 h')))
  have HF := Lib.hid hF
  have HX := Lib.hid hx
  have HR := Lib.hid hR
  have HW := Lib.hid hwf
  clear hF hx hR hwf
  by_cases hlt : (p : Int) < L.length
  · have hz0 : (0 : Int) ≤ p := by omega
    go_enter Tryz.func35, Tryz.ntmps35
    go_wp2_with fail
    rw [← HW.out]
    clear a0 a1 a2 a3 a4 a5 a6 af
    obtain ⟨a0, a1, a2, a3, a4, a5, a6, af⟩ := row7r HX.out
    have l1 := row_lt HX.out
    refine wp_region_det 10 (by kernel_rfl) (by kernel_rfl) (by decide) ?_
    apply Exists.intro
    refine And.intro ?_ ?_
    · (intro W hW; (try simp only [Act.put, List.setIfInBounds_toArray, List.set_cons_zero, List.set_cons_succ]); first | (go_wp2_with fail; exact ⟨rfl, rfl, Below.refl _ _⟩))
    apply Exists.intro
    refine And.intro ?_ ?_
    · (intro W hW; (try simp only [Act.put, List.setIfInBounds_toArray, List.set_cons_zero, List.set_cons_succ]); first | (go_wp2_with fail; exact ⟨rfl, rfl, Below.refl _ _⟩))
    apply Exists.intro
    refine And.intro ?_ ?_
    · (intro W hW; (try simp only [Act.put, List.setIfInBounds_toArray, List.set_cons_zero, List.set_cons_succ]); first | (go_wp2_with fail; exact ⟨rfl, rfl, Below.refl _ _⟩))
    apply Exists.intro
    refine And.intro ?_ ?_
    · (intro W hW; (try simp only [Act.put, List.setIfInBounds_toArray, List.set_cons_zero, List.set_cons_succ]); first | (obtain ⟨hcW, hfW⟩ := bcell hW; have hsW := hW.size; (try simp at hsW); (try have hsW0 := lt_of_succ_le hsW); (try (have hsW1 := lt_pred hsW; (try (have hsW2 := lt_pred hsW1)))); go_wp2_with fail; exact ⟨rfl, rfl, Below.refl _ _⟩))
    apply Exists.intro
    refine And.intro ?_ ?_
    · (intro W hW; (try simp only [Act.put, List.setIfInBounds_toArray, List.set_cons_zero, List.set_cons_succ]); first | (go_wp2_with fail; exact ⟨rfl, rfl, Below.refl _ _⟩))
    apply Exists.intro
    refine And.intro ?_ ?_
    · (intro W hW; (try simp only [Act.put, List.setIfInBounds_toArray, List.set_cons_zero, List.set_cons_succ]); first | (go_wp2_with fail; exact ⟨rfl, rfl, Below.refl _ _⟩))
    apply Exists.intro
    refine And.intro ?_ ?_
    · (intro W hW; (try simp only [Act.put, List.setIfInBounds_toArray, List.set_cons_zero, List.set_cons_succ]); first | (go_wp2_with fail; exact ⟨rfl, rfl, Below.refl _ _⟩))
    apply Exists.intro
    refine And.intro ?_ ?_
    · (intro W hW; (try simp only [Act.put, List.setIfInBounds_toArray, List.set_cons_zero, List.set_cons_succ]); first | (obtain ⟨hcW, hfW⟩ := bcell hW; have hsW := hW.size; (try simp at hsW); (try have hsW0 := lt_of_succ_le hsW); (try (have hsW1 := lt_pred hsW; (try (have hsW2 := lt_pred hsW1)))); go_wp2_with fail; exact ⟨rfl, rfl, Below.refl _ _⟩))
    apply Exists.intro
    refine And.intro ?_ ?_
    · (intro W hW; (try simp only [Act.put, List.setIfInBounds_toArray, List.set_cons_zero, List.set_cons_succ]); first | (go_wp2_with fail; exact ⟨rfl, rfl, Below.refl _ _⟩))
    apply Exists.intro
    refine And.intro ?_ ?_
    · (intro W hW; (try simp only [Act.put, List.setIfInBounds_toArray, List.set_cons_zero, List.set_cons_succ]); first | (go_wp2_with fail; exact ⟨rfl, rfl, Below.refl _ _⟩))
    intro wq hbwq
    (try simp only [Act.put, List.setIfInBounds_toArray, List.set_cons_zero, List.set_cons_succ])
    (try simp only [List.drop_succ_cons, List.drop_nil])
    have hb1 := (hbwq.block b l1).trans HX.out
    have HBq := Lib.hid hbwq
    clear a0 a1 a2 a3 a4 a5 a6 af
    obtain ⟨a0, a1, a2, a3, a4, a5, a6, af⟩ := row7r hb1
    have l2 := row_lt hb1
    have HRq := Lib.hid (HR.out.below hbwq)
    obtain ⟨A2, c2, hq1, hq2, hq3⟩ := HRq.out
    obtain ⟨rfl, rfl⟩ : A2 = A ∧ c2 = c := by
      have := hb1.symm.trans hq1
      unfold rdC at this
      simp at this
      exact ⟨this.1.symm, this.2.symm⟩
    obtain ⟨g, x, rfl, hx, hlc, lg, d0, d1, d2, d3⟩ := sign_row (p := p) hq2 (by omega)
    have HP := Lib.hid (show badF L E k p = ⟨k, x.at', ⟨#[]⟩⟩ by unfold badF placeAt; rw [hx])
    clear hx hb1 hq1 hq2 hq3
    go_wp2_with fail
    go_region_law (fail)
    all_goals
      (try go_wp2_with fail)
      have hF2 : Aside (fun q => q = b) wq (wq.setCell ⟨b, 5, none⟩ (.int .i64 x.at')) := aside_set rfl (Aside.refl _ _)
      have hR2 := RdAt.poke (p' := p) (m' := m) (f' := ⟨k, x.at', ⟨#[]⟩⟩) HRq.out hF2 (fun A' c' h' => by unfold rdC at h' ⊢; exact set7_5 h')
      have hD : Below (wq.setCell ⟨b, 5, none⟩ (.int .i64 x.at')).heap.size (wq.setCell ⟨b, 5, none⟩ (.int .i64 x.at')) (wq.setCell ⟨b, 5, none⟩ (.int .i64 x.at')).drew := bel
      exact bodyPost_end (v := .tuple #[]) (by simp only [results, Tryz.results35]; go_simp) rfl ⟨rfl, by rw [HP.out]; exact hR2.below hD, HF.out.trans ((Aside.of_below HBq.out).trans (hF2.trans (Aside.of_below hD)))⟩
  · have HP := Lib.hid (show badF L E k p = ⟨k, E, ⟨#[]⟩⟩ by unfold badF placeAt; rw [List.getElem?_eq_none (by omega)])
    go_enter Tryz.func35, Tryz.ntmps35
    go_wp2_with fail
    rw [← HW.out]
    clear a0 a1 a2 a3 a4 a5 a6 af
    obtain ⟨a0, a1, a2, a3, a4, a5, a6, af⟩ := row7r HX.out
    have l1 := row_lt HX.out
    refine wp_region_det 10 (by kernel_rfl) (by kernel_rfl) (by decide) ?_
    apply Exists.intro
    refine And.intro ?_ ?_
    · (intro W hW; (try simp only [Act.put, List.setIfInBounds_toArray, List.set_cons_zero, List.set_cons_succ]); first | (go_wp2_with fail; exact ⟨rfl, rfl, Below.refl _ _⟩))
    apply Exists.intro
    refine And.intro ?_ ?_
    · (intro W hW; (try simp only [Act.put, List.setIfInBounds_toArray, List.set_cons_zero, List.set_cons_succ]); first | (go_wp2_with fail; exact ⟨rfl, rfl, Below.refl _ _⟩))
    apply Exists.intro
    refine And.intro ?_ ?_
    · (intro W hW; (try simp only [Act.put, List.setIfInBounds_toArray, List.set_cons_zero, List.set_cons_succ]); first | (go_wp2_with fail; exact ⟨rfl, rfl, Below.refl _ _⟩))
    apply Exists.intro
    refine And.intro ?_ ?_
    · (intro W hW; (try simp only [Act.put, List.setIfInBounds_toArray, List.set_cons_zero, List.set_cons_succ]); first | (obtain ⟨hcW, hfW⟩ := bcell hW; have hsW := hW.size; (try simp at hsW); (try have hsW0 := lt_of_succ_le hsW); (try (have hsW1 := lt_pred hsW; (try (have hsW2 := lt_pred hsW1)))); go_wp2_with fail; exact ⟨rfl, rfl, Below.refl _ _⟩))
    apply Exists.intro
    refine And.intro ?_ ?_
    · (intro W hW; (try simp only [Act.put, List.setIfInBounds_toArray, List.set_cons_zero, List.set_cons_succ]); first | (go_wp2_with fail; exact ⟨rfl, rfl, Below.refl _ _⟩))
    apply Exists.intro
    refine And.intro ?_ ?_
    · (intro W hW; (try simp only [Act.put, List.setIfInBounds_toArray, List.set_cons_zero, List.set_cons_succ]); first | (go_wp2_with fail; exact ⟨rfl, rfl, Below.refl _ _⟩))
    apply Exists.intro
    refine And.intro ?_ ?_
    · (intro W hW; (try simp only [Act.put, List.setIfInBounds_toArray, List.set_cons_zero, List.set_cons_succ]); first | (go_wp2_with fail; exact ⟨rfl, rfl, Below.refl _ _⟩))
    apply Exists.intro
    refine And.intro ?_ ?_
    · (intro W hW; (try simp only [Act.put, List.setIfInBounds_toArray, List.set_cons_zero, List.set_cons_succ]); first | (obtain ⟨hcW, hfW⟩ := bcell hW; have hsW := hW.size; (try simp at hsW); (try have hsW0 := lt_of_succ_le hsW); (try (have hsW1 := lt_pred hsW; (try (have hsW2 := lt_pred hsW1)))); go_wp2_with fail; exact ⟨rfl, rfl, Below.refl _ _⟩))
    apply Exists.intro
    refine And.intro ?_ ?_
    · (intro W hW; (try simp only [Act.put, List.setIfInBounds_toArray, List.set_cons_zero, List.set_cons_succ]); first | (go_wp2_with fail; exact ⟨rfl, rfl, Below.refl _ _⟩))
    apply Exists.intro
    refine And.intro ?_ ?_
    · (intro W hW; (try simp only [Act.put, List.setIfInBounds_toArray, List.set_cons_zero, List.set_cons_succ]); first | (go_wp2_with fail; exact ⟨rfl, rfl, Below.refl _ _⟩))
    intro wq hbwq
    (try simp only [Act.put, List.setIfInBounds_toArray, List.set_cons_zero, List.set_cons_succ])
    (try simp only [List.drop_succ_cons, List.drop_nil])
    have HRq := Lib.hid (HR.out.below hbwq)
    have HBq := Lib.hid hbwq
    go_wp2_with fail
    exact bodyPost_end (v := .tuple #[]) (by simp only [results, Tryz.results35]; go_simp) rfl ⟨rfl, by rw [HP.out]; exact HRq.out, HF.out.trans (Aside.of_below HBq.out)⟩
end Go.Proofs.YtffelpdefjkeaaaGreatDoor
namespace Go.Proofs.YtffelpdefjkeaaaGreatDoor
open Go.RowKit
theorem Cum.up {a b x w : World} {n : Nat} (_h : Cum a b) (_k : Below n x w) (h : Below a.heap.size a w) : Cum a w := ⟨h⟩
end Go.Proofs.YtffelpdefjkeaaaGreatDoor
namespace Go.Proofs.YtffelpdefjkeaaaGreatDoor
open Go.RowKit
theorem takeAny_succ {D : Type} (p : D → Bool) (l : List D) (k : Nat) (d : D) (h : l[k]? = some d) : (l.take (k + 1)).any p = ((l.take k).any p || p d) := by
  rw [List.take_add_one, h]; simp
theorem takeAny_no {D : Type} (p : D → Bool) (l : List D) (k : Nat) (d : D) (h : l[k]? = some d) (ha : (l.take k).any p = false) (hp : p d = false) : (l.take (k + 1)).any p = false := by
  rw [takeAny_succ p l k d h, ha, hp]; rfl
theorem any_hit {D : Type} (p : D → Bool) (l : List D) (k : Nat) (d : D) (h : l[k]? = some d) (hp : p d = true) : l.any p = true := by
  rw [List.any_eq_true]; exact ⟨d, List.mem_of_getElem? h, hp⟩
theorem any_end {D : Type} (p : D → Bool) (l : List D) (ha : (l.take l.length).any p = false) : l.any p = false := by rw [List.take_length] at ha; exact ha
def isS (s x : ByteArray) : Bool := x.toList == s.toList
def hasS (l : List ByteArray) (s : ByteArray) : Bool := l.any (isS s)
theorem c_Index_Str (l : List ByteArray) (s : ByteArray) (v : Value) (w : World) (lo : Nat) (hs : Sl_Str lo w.heap.size w l v) :
    Calls Tryz.prog 148 #[v, .string s] w fun e w' => ∃ ix : Int, e = .returned (.int .i64 ix) ∧ decide (ix ≥ 0) = hasS l s ∧ -1 ≤ ix ∧ ix ≤ 9223372036854775807 ∧ Below w.heap.size w w' := by
  obtain ⟨A, c, rfl, hlc, hc, hA⟩ := hs
  go_enter Tryz.func148, Tryz.ntmps148
  go_wp2_with fail
  go_loopw [8] (fun i wr => ∃ k : Nat, k ≤ l.length ∧ i = .int .i64 k ∧ (l.take k).any (isS s) = false ∧ Below w.heap.size w wr) (fun i _ => l.length - (intOf i).toNat)
  case atStart => exact ⟨0, Nat.zero_le _, rfl, rfl, bel⟩
  case round =>
    obtain ⟨k, hk, rfl, hall, hbr⟩ := hrel
    have Hall := Lib.hid hall
    clear hall
    by_cases hlt : k < l.length
    · obtain ⟨b, o, rfl, -, hb2, hcell⟩ := hA (by omega)
      obtain ⟨d, hd⟩ := exists_at hlt
      obtain ⟨es, -, hcs, hC⟩ := hcell k d hd
      obtain ⟨rfl, ea0⟩ := hC
      have hc0 := (hbr.cell (p := ⟨b, o + k * 1 + 0, none⟩) (by simp; omega)).trans (hcs 0 (by omega))
      simp at hc0
      have hbl : b < wr.heap.size := Nat.lt_of_lt_of_le hb2 hbr.size
      have hk0 : (0 : Int) ≤ k := by omega
      have hk1 : (k : Int) < l.length := by omega
      have hq2 : (s.toList == d.toList) = (d.toList == s.toList) := by rw [Bool.eq_iff_iff, beq_iff_eq, beq_iff_eq]; exact eq_comm
      rcases hq : (d.toList == s.toList) with _ | _
      · have Hn := Lib.hid (takeAny_no (isS s) l k d hd Hall.out hq)
        rw [hq] at hq2
        clear hcs hcell hA hd
        go_wp2_with fail
        go_roundw
        case rel => exact ⟨k + 1, by omega, by go_num, Hn.out, bel⟩
        case measure => simp [intOf]; omega
      · have Hh := Lib.hid (show hasS l s = true from any_hit (isS s) l k d hd hq)
        rw [hq] at hq2
        clear hcs hcell hA hd
        go_wp2_with fail
        go_ret
        exact ⟨_, rfl, by rw [Hh.out]; simp, by omega, by omega, bel⟩
    · obtain rfl : k = l.length := by omega
      have Hh := Lib.hid (show hasS l s = false from any_end (isS s) l Hall.out)
      clear hA
      go_wp2_with fail
      go_ret
      exact ⟨_, rfl, by rw [Hh.out]; simp, by omega, by omega, bel⟩
theorem c_Contains_Str (l : List ByteArray) (s : ByteArray) (v : Value) (w : World) (lo : Nat) (hs : Sl_Str lo w.heap.size w l v) :
    Calls Tryz.prog 130 #[v, .string s] w fun e w' => e = .returned (.bool (hasS l s)) ∧ Below w.heap.size w w' := by
  obtain ⟨A, c, rfl⟩ := hs.form
  go_enter Tryz.func130, Tryz.ntmps130
  go_wp2_with (first | (go_at_call 148; refine (c_Index_Str _ _ _ _ _ (Sl_Str.now (by assumption) bel)).mono ?_; rintro e w1 ⟨ix, rfl, hix, hix1, hix2, hb⟩; (first | (have hcu2 := Cum.join hcu hb; (try clear hcu); (try clear hc); (try clear hfz); (try clear hsz); (try clear hs0); (try clear hs1); (try clear hs2); (try clear hs3); (try clear hs4); ) | have hcu2 := Cum.mk hb); have hcu := hcu2; clear hcu2; obtain ⟨hc, hfz⟩ := bcell hcu.h; have hsz := hcu.h.size; (try simp at hsz); (try have hs0 := lt_of_succ_le hsz); (try (have hs1 := lt_pred hsz; (try (have hs2 := lt_pred hs1; (try (have hs3 := lt_pred hs2; (try have hs4 := lt_pred hs3)))))))))
  go_ret
  exact ⟨ret_bool (by simp), bel⟩
end Go.Proofs.YtffelpdefjkeaaaGreatDoor
namespace Go.Proofs.YtffelpdefjkeaaaGreatDoor
open Go.RowKit Go.Lib
theorem aside_below {S : Nat → Prop} {a b c : World} (h : Aside S a b) (hb : Below b.heap.size b c) : Aside S a c := h.trans (Aside.of_below hb)
set_option maxHeartbeats 4000000 in
set_option maxRecDepth 20000 in
theorem c_rd_key_kind (L : List SignD) (E : Int) (b p m : Nat) (f : Flt) (v : Value) (w : World) (hp : p ≤ 1048577) (h : RdAt L E b p m f w) (hf : f.code = 0) (hk : kindAt L p ≠ 7) :
    Calls Tryz.prog 106 #[.pointer (some ⟨b, 0, none⟩), v] w fun e w' => e = .returned (.string ⟨#[]⟩) ∧ RdAt L E b p m (badF L E 4 p) w' ∧ Aside (fun q => q = b) w w' := by
  have HRd := Lib.hid h
  obtain ⟨t, ht⟩ : ∃ t, t = kindAt L p := ⟨_, rfl⟩
  rw [← ht] at hk
  have HT := Lib.hid ht
  have HFl := Lib.hid hf
  have d1 : (t != 7) = true := bne_iff_ne.2 hk
  have d2 : (t == 7) = false := beq_eq_false_iff_ne.2 hk
  clear ht hk h hf
  go_enter Tryz.func106, Tryz.ntmps106
  go_wp2_with fail
  refine (c_rd_kind L E b p m f _ hp HRd.out).mono ?_
  rintro e w1 ⟨rfl, hb1⟩
  rw [← HT.out]
  have HR1 := Lib.hid (HRd.out.below hb1)
  have HB1 := Lib.hid hb1
  clear hb1
  go_wp2_with fail
  refine (c_rd_fail_new L E 4 b p m f _ hp HR1.out HFl.out).mono ?_
  rintro e w2 ⟨rfl, hR2, hA2⟩
  have HR2 := Lib.hid hR2
  have HA2 := Lib.hid ((Aside.of_below HB1.out).trans hA2)
  clear hR2 hA2
  go_wp2_with fail
  go_ret
  exact ⟨rfl, HR2.out, HA2.out⟩
/-- The fault of a key that is there. -/
def keyF (L : List SignD) (E : Int) (ks : List ByteArray) (p : Nat) (x : SignD) (f : Flt) : Flt := if 400 < x.text.size then badF L E 8 p else if hasS ks x.text = true then badF L E 5 p else f
set_option maxHeartbeats 8000000 in
set_option maxRecDepth 20000 in
theorem c_rd_key (L : List SignD) (E : Int) (b p m lo : Nat) (f : Flt) (ks : List ByteArray) (v : Value) (x : SignD) (w : World) (hp : p ≤ 1048576) (h : RdAt L E b p m f w) (hf : f.code = 0) (hx : L[p]? = some x) (hk : x.kind = 7) (hsz : x.text.size ≤ 1048576)
    (hks : ∀ w', Aside (fun q => q = b) w w' → Sl_Str lo w'.heap.size w' ks v) :
    Calls Tryz.prog 106 #[.pointer (some ⟨b, 0, none⟩), v] w fun e w' => e = .returned (.string x.text) ∧ RdAt L E b (p + 1) m (keyF L E ks p x f) w' ∧ Aside (fun q => q = b) w w' := by
  have HRd := Lib.hid h
  have HK := Lib.hid (show kindAt L p = 7 by unfold kindAt; rw [hx]; exact hk)
  have HFl := Lib.hid hf
  have HX := Lib.hid hx
  have hpl : p < L.length := (List.getElem?_eq_some_iff.1 hx).1
  obtain ⟨t, ht⟩ : ∃ t, t = x.text := ⟨_, rfl⟩
  have HXt := Lib.hid ht
  rw [← ht] at hsz
  have hz0 : (0 : Int) ≤ p := by omega
  have hz1 : (p : Int) < L.length := by omega
  have HKs := Lib.hid hks
  clear h hf hx hk ht hks
  go_enter Tryz.func106, Tryz.ntmps106
  go_wp2_with fail
  refine (c_rd_kind L E b p m f _ (by omega) HRd.out).mono ?_
  rintro e w1 ⟨rfl, hb1⟩
  rw [HK.out]
  have HR1 := Lib.hid (HRd.out.below hb1)
  have HA1 := Lib.hid (Aside.of_below (S := fun q => q = b) hb1)
  clear hb1
  obtain ⟨A, c, hbx, hrow, -⟩ := HR1.out
  unfold rdC at hbx
  obtain ⟨a0, a1, a2, a3, a4, a5, a6, af⟩ := row7r hbx
  have l0 := row_lt hbx
  obtain ⟨g, y, rfl, hy, hlc, lg, d0, d1, d2, d3⟩ := sign_row (p := p) hrow hpl
  obtain rfl : y = x := Option.some.inj (hy.symm.trans HX.out)
  rw [← HXt.out] at d1
  clear hbx hrow hy
  go_wp2_with fail
  refine wp_region_det 11 (by kernel_rfl) (by kernel_rfl) (by decide) ?_
  apply Exists.intro
  refine And.intro ?_ ?_
  · (intro W hW; (try simp only [Act.put, List.setIfInBounds_toArray, List.set_cons_zero, List.set_cons_succ]); first | (go_wp2_with fail; exact ⟨rfl, rfl, Below.refl _ _⟩))
  apply Exists.intro
  refine And.intro ?_ ?_
  · (intro W hW; (try simp only [Act.put, List.setIfInBounds_toArray, List.set_cons_zero, List.set_cons_succ]); first | (go_wp2_with fail; exact ⟨rfl, rfl, Below.refl _ _⟩))
  apply Exists.intro
  refine And.intro ?_ ?_
  · (intro W hW; (try simp only [Act.put, List.setIfInBounds_toArray, List.set_cons_zero, List.set_cons_succ]); first | (go_wp2_with fail; exact ⟨rfl, rfl, Below.refl _ _⟩))
  apply Exists.intro
  refine And.intro ?_ ?_
  · (intro W hW; (try simp only [Act.put, List.setIfInBounds_toArray, List.set_cons_zero, List.set_cons_succ]); first | (obtain ⟨hcW, hfW⟩ := bcell hW; have hsW := hW.size; (try simp at hsW); (try have hsW0 := lt_of_succ_le hsW); (try (have hsW1 := lt_pred hsW; (try (have hsW2 := lt_pred hsW1)))); go_wp2_with fail; exact ⟨rfl, rfl, Below.refl _ _⟩))
  apply Exists.intro
  refine And.intro ?_ ?_
  · (intro W hW; (try simp only [Act.put, List.setIfInBounds_toArray, List.set_cons_zero, List.set_cons_succ]); first | (go_wp2_with fail; exact ⟨rfl, rfl, Below.refl _ _⟩))
  apply Exists.intro
  refine And.intro ?_ ?_
  · (intro W hW; (try simp only [Act.put, List.setIfInBounds_toArray, List.set_cons_zero, List.set_cons_succ]); first | (go_wp2_with fail; exact ⟨rfl, rfl, Below.refl _ _⟩))
  apply Exists.intro
  refine And.intro ?_ ?_
  · (intro W hW; (try simp only [Act.put, List.setIfInBounds_toArray, List.set_cons_zero, List.set_cons_succ]); first | (go_wp2_with fail; exact ⟨rfl, rfl, Below.refl _ _⟩))
  apply Exists.intro
  refine And.intro ?_ ?_
  · (intro W hW; (try simp only [Act.put, List.setIfInBounds_toArray, List.set_cons_zero, List.set_cons_succ]); first | (obtain ⟨hcW, hfW⟩ := bcell hW; have hsW := hW.size; (try simp at hsW); (try have hsW0 := lt_of_succ_le hsW); (try (have hsW1 := lt_pred hsW; (try (have hsW2 := lt_pred hsW1)))); go_wp2_with fail; exact ⟨rfl, rfl, Below.refl _ _⟩))
  apply Exists.intro
  refine And.intro ?_ ?_
  · (intro W hW; (try simp only [Act.put, List.setIfInBounds_toArray, List.set_cons_zero, List.set_cons_succ]); first | (go_wp2_with fail; exact ⟨rfl, rfl, Below.refl _ _⟩))
  apply Exists.intro
  refine And.intro ?_ ?_
  · (intro W hW; (try simp only [Act.put, List.setIfInBounds_toArray, List.set_cons_zero, List.set_cons_succ]); first | (go_wp2_with fail; exact ⟨rfl, rfl, Below.refl _ _⟩))
  apply Exists.intro
  refine And.intro ?_ ?_
  · (intro W hW; (try simp only [Act.put, List.setIfInBounds_toArray, List.set_cons_zero, List.set_cons_succ]); first | (obtain ⟨hcW, hfW⟩ := bcell hW; have hsW := hW.size; (try simp at hsW); (try have hsW0 := lt_of_succ_le hsW); (try (have hsW1 := lt_pred hsW; (try (have hsW2 := lt_pred hsW1)))); go_wp2_with fail; exact ⟨rfl, rfl, Below.refl _ _⟩))
  intro w2 hbw2
  (try simp only [Act.put, List.setIfInBounds_toArray, List.set_cons_zero, List.set_cons_succ])
  (try simp only [List.drop_succ_cons, List.drop_zero])
  have HR2 := Lib.hid (HR1.out.below hbw2)
  have HA2 := Lib.hid (aside_below HA1.out hbw2)
  have l2 := HR2.out.lt
  clear a0 a1 a2 a3 a4 a5 a6 af d0 d1 d2 d3
  by_cases c8 : (400 : Int) < t.size
  · have HKf := Lib.hid (show keyF L E ks p y f = badF L E 8 p by unfold keyF; rw [← HXt.out, if_pos (by omega)])
    go_wp2_with fail
    refine (c_rd_fail_new L E 8 b p m f _ (by omega) HR2.out HFl.out).mono ?_
    rintro e w3 ⟨rfl, hR3, hA3⟩
    have HR3 := Lib.hid hR3
    have HA3 := Lib.hid (HA2.out.trans hA3)
    clear hR3 hA3
    go_wp2_with fail
    refine (c_Contains_Str ks t v _ lo (HKs.out _ HA3.out)).mono ?_
    rintro e w4 ⟨rfl, hb4⟩
    obtain ⟨z, hz⟩ : ∃ z, z = hasS ks t := ⟨_, rfl⟩
    rw [← hz]
    clear hz
    have HR4 := Lib.hid (HR3.out.below hb4)
    have HA4 := Lib.hid (aside_below HA3.out hb4)
    clear hb4
    cases z
    · have HRk := Lib.hid HR4.out
      have HAk := Lib.hid HA4.out
      obtain ⟨A5, c5, hx5, -, -⟩ := HRk.out
      unfold rdC at hx5
      obtain ⟨q0, q1, q2, q3, q4, q5, q6, qf⟩ := row7r hx5
      have l5 := row_lt hx5
      clear hx5
      go_wp2_with fail
      have hF5 : Aside (fun q => q = b) w4 ((w4).setCell ⟨b, 1, none⟩ (.int .i64 ((p : Int) + 1))) := aside_set rfl (Aside.refl _ _)
      have hR5 := RdAt.poke (p' := p + 1) (m' := m) (f' := badF L E 8 p) HRk.out hF5 (fun A c h => by unfold rdC at h ⊢; exact set7_1 h)
      have HF5 := Lib.hid (HAk.out.trans hF5)
      have HR5 := Lib.hid hR5
      clear hF5 hR5
      go_ret
      exact ⟨by rw [← HXt.out]; rfl, by rw [HKf.out]; exact HR5.out, HF5.out⟩
    · go_wp2_with fail
      refine (c_rd_fail_old L E 5 b p m _ _ HR4.out (by show (8 : Int) ≠ 0; decide)).mono ?_
      rintro e w6 ⟨rfl, hb6⟩
      have HRk := Lib.hid (HR4.out.below hb6)
      have HAk := Lib.hid (aside_below HA4.out hb6)
      obtain ⟨A5, c5, hx5, -, -⟩ := HRk.out
      unfold rdC at hx5
      obtain ⟨q0, q1, q2, q3, q4, q5, q6, qf⟩ := row7r hx5
      have l5 := row_lt hx5
      clear hx5
      go_wp2_with fail
      have hF5 : Aside (fun q => q = b) w6 ((w6).setCell ⟨b, 1, none⟩ (.int .i64 ((p : Int) + 1))) := aside_set rfl (Aside.refl _ _)
      have hR5 := RdAt.poke (p' := p + 1) (m' := m) (f' := badF L E 8 p) HRk.out hF5 (fun A c h => by unfold rdC at h ⊢; exact set7_1 h)
      have HF5 := Lib.hid (HAk.out.trans hF5)
      have HR5 := Lib.hid hR5
      clear hF5 hR5
      go_ret
      exact ⟨by rw [← HXt.out]; rfl, by rw [HKf.out]; exact HR5.out, HF5.out⟩
  · have d8 : decide ((400 : Int) < t.size) = false := decide_eq_false c8
    go_wp2_with fail
    refine (c_Contains_Str ks t v _ lo (HKs.out _ HA2.out)).mono ?_
    rintro e w4 ⟨rfl, hb4⟩
    have HR4 := Lib.hid (HR2.out.below hb4)
    have HA4 := Lib.hid (aside_below HA2.out hb4)
    clear hb4
    rcases hz : hasS ks t with _ | _
    · have HKf := Lib.hid (show keyF L E ks p y f = f by unfold keyF; rw [← HXt.out, if_neg (by omega), hz]; rfl)
      clear hz
      have HRk := Lib.hid HR4.out
      have HAk := Lib.hid HA4.out
      obtain ⟨A5, c5, hx5, -, -⟩ := HRk.out
      unfold rdC at hx5
      obtain ⟨q0, q1, q2, q3, q4, q5, q6, qf⟩ := row7r hx5
      have l5 := row_lt hx5
      clear hx5
      go_wp2_with fail
      have hF5 : Aside (fun q => q = b) w4 ((w4).setCell ⟨b, 1, none⟩ (.int .i64 ((p : Int) + 1))) := aside_set rfl (Aside.refl _ _)
      have hR5 := RdAt.poke (p' := p + 1) (m' := m) (f' := f) HRk.out hF5 (fun A c h => by unfold rdC at h ⊢; exact set7_1 h)
      have HF5 := Lib.hid (HAk.out.trans hF5)
      have HR5 := Lib.hid hR5
      clear hF5 hR5
      go_ret
      exact ⟨by rw [← HXt.out]; rfl, by rw [HKf.out]; exact HR5.out, HF5.out⟩
    · have HKf := Lib.hid (show keyF L E ks p y f = badF L E 5 p by unfold keyF; rw [← HXt.out, if_neg (by omega), hz]; rfl)
      clear hz
      go_wp2_with fail
      refine (c_rd_fail_new L E 5 b p m f _ (by omega) HR4.out HFl.out).mono ?_
      rintro e w6 ⟨rfl, hR6, hA6⟩
      have HRk := Lib.hid hR6
      have HAk := Lib.hid (HA4.out.trans hA6)
      obtain ⟨A5, c5, hx5, -, -⟩ := HRk.out
      unfold rdC at hx5
      obtain ⟨q0, q1, q2, q3, q4, q5, q6, qf⟩ := row7r hx5
      have l5 := row_lt hx5
      clear hx5
      go_wp2_with fail
      have hF5 : Aside (fun q => q = b) w6 ((w6).setCell ⟨b, 1, none⟩ (.int .i64 ((p : Int) + 1))) := aside_set rfl (Aside.refl _ _)
      have hR5 := RdAt.poke (p' := p + 1) (m' := m) (f' := badF L E 5 p) HRk.out hF5 (fun A c h => by unfold rdC at h ⊢; exact set7_1 h)
      have HF5 := Lib.hid (HAk.out.trans hF5)
      have HR5 := Lib.hid hR5
      clear hF5 hR5
      go_ret
      exact ⟨by rw [← HXt.out]; rfl, by rw [HKf.out]; exact HR5.out, HF5.out⟩
end Go.Proofs.YtffelpdefjkeaaaGreatDoor
namespace Go.Proofs.YtffelpdefjkeaaaGreatDoor
open Go.RowKit
/-- What holds of the signs of a text. -/
structure SgOk (L : List SignD) : Prop where
  len : L.length ≤ 1048576
  kind : ∀ (i : Nat) (x : SignD), L[i]? = some x → 1 ≤ x.kind ∧ x.kind ≤ 11
  num : ∀ (i : Nat) (x : SignD), L[i]? = some x → I64 x.num
  text : ∀ (i : Nat) (x : SignD), L[i]? = some x → x.text.size ≤ 1048576
def GoodR (L : List SignD) (p : Nat) (r : Res) : Prop := match r with
  | .bad f => f.code ≠ 0
  | .good _ q m' => p < q ∧ q ≤ L.length ∧ m' ≤ 300
/-- The fuel that a job wants at sign p. -/
def needJ (L : List SignD) (p : Nat) : Job → Nat
  | .value _ => 2 * (L.length - p) + 1
  | .list _ _ => 2 * (L.length - p) + 2
  | .pairs _ _ _ => 2 * (L.length - p) + 2
theorem kindAt_some {L : List SignD} {p : Nat} {x : SignD} (h : L[p]? = some x) : kindAt L p = x.kind := by unfold kindAt; rw [h]
theorem kindAt_none {L : List SignD} {p : Nat} (h : L[p]? = none) : kindAt L p = 0 := by unfold kindAt; rw [h]
theorem kindAt_lt {L : List SignD} {p : Nat} (h : kindAt L p ≠ 0) : p < L.length := by
  rcases hx : L[p]? with _ | x
  · exact absurd (kindAt_none hx) h
  · exact (List.getElem?_eq_some_iff.1 hx).1
theorem readJ_value (L : List SignD) (E : Int) (n d p m : Nat) : readJ L E (n + 1) (.value d) p m =
    if ¬ (kindAt L p = 1 ∨ kindAt L p = 3 ∨ 7 ≤ kindAt L p) then .bad (badF L E 4 p)
    else if 8 < d then .bad (badF L E 6 p)
    else if 300 ≤ m then .bad (badF L E 7 p)
    else match L[p]? with
      | none => .bad flt0
      | some x =>
        if x.kind = 7 then (if 400 < x.text.size then .bad (badF L E 8 p) else .good (tText x.text) (p + 1) (m + 1))
        else if x.kind = 8 then .good (tInt x.num) (p + 1) (m + 1)
        else if x.kind = 11 then .good tNull (p + 1) (m + 1)
        else if x.kind = 3 then (if kindAt L (p + 1) = 4 then .good (tList []) (p + 2) (m + 1) else readJ L E n (.list d []) (p + 1) (m + 1))
        else if x.kind = 1 then (if kindAt L (p + 1) = 2 then .good (tMap [] []) (p + 2) (m + 1) else readJ L E n (.pairs d [] []) (p + 1) (m + 1))
        else .good (tFlag (x.kind == 9)) (p + 1) (m + 1) := by rw [readJ]; rfl
theorem readJ_list (L : List SignD) (E : Int) (n d : Nat) (acc : List TreeD) (p m : Nat) : readJ L E (n + 1) (.list d acc) p m =
    match readJ L E n (.value (d + 1)) p m with
    | .bad f => .bad f
    | .good t q m' =>
      if kindAt L q = 4 then .good (tList (acc ++ [t])) (q + 1) m'
      else if kindAt L q = 6 then readJ L E n (.list d (acc ++ [t])) (q + 1) m'
      else .bad (badF L E 4 q) := by rw [readJ]; rfl
theorem readJ_pairs (L : List SignD) (E : Int) (n d : Nat) (ks : List ByteArray) (acc : List TreeD) (p m : Nat) : readJ L E (n + 1) (.pairs d ks acc) p m =
    match L[p]? with
    | none => .bad (badF L E 4 p)
    | some x =>
      if x.kind ≠ 7 then .bad (badF L E 4 p)
      else if 400 < x.text.size then .bad (badF L E 8 p)
      else if ks.contains x.text then .bad (badF L E 5 p)
      else if kindAt L (p + 1) ≠ 5 then .bad (badF L E 4 (p + 1))
      else match readJ L E n (.value (d + 1)) (p + 2) m with
        | .bad f => .bad f
        | .good t q m' =>
          if kindAt L q = 2 then .good (tMap (insL ks (posK ks x.text) x.text) (insL acc (posK ks x.text) t)) (q + 1) m'
          else if kindAt L q = 6 then readJ L E n (.pairs d (insL ks (posK ks x.text) x.text) (insL acc (posK ks x.text) t)) (q + 1) m'
          else .bad (badF L E 4 q) := by rw [readJ]; rfl
theorem good_more {L : List SignD} {p p' : Nat} {r : Res} (h : GoodR L p' r) (hp : p ≤ p') : GoodR L p r := by
  cases r with
  | bad f => exact h
  | good t q m' => exact ⟨Nat.lt_of_le_of_lt hp h.1, h.2.1, h.2.2⟩
theorem bad_code (L : List SignD) (E : Int) (c : Int) (p q : Nat) (hc : c ≠ 0) : GoodR L q (.bad (badF L E c p)) := hc
theorem readJ_good (L : List SignD) (E : Int) : ∀ (n : Nat) (j : Job) (p m : Nat), p ≤ L.length → m ≤ 300 → needJ L p j ≤ n → GoodR L p (readJ L E n j p m)
  | 0, j, p, m, _, _, hn => by cases j <;> simp [needJ] at hn
  | n + 1, .value d, p, m, hp, hm, hn => by
    rw [readJ_value]
    by_cases c1 : ¬ (kindAt L p = 1 ∨ kindAt L p = 3 ∨ 7 ≤ kindAt L p)
    · rw [if_pos c1]; exact bad_code _ _ _ _ _ (by decide)
    · rw [if_neg c1]
      have c1 := Classical.not_not.1 c1
      by_cases c2 : 8 < d
      · rw [if_pos c2]; exact bad_code _ _ _ _ _ (by decide)
      · rw [if_neg c2]
        by_cases c3 : 300 ≤ m
        · rw [if_pos c3]; exact bad_code _ _ _ _ _ (by decide)
        · rw [if_neg c3]
          have hlt : p < L.length := kindAt_lt (L := L) (p := p) (by omega)
          unfold needJ at hn
          simp only at hn
          rcases hx : L[p]? with _ | x
          · rw [List.getElem?_eq_getElem hlt] at hx; cases hx
          · simp only
            by_cases c4 : x.kind = 7
            · rw [if_pos c4]
              by_cases c5 : 400 < x.text.size
              · rw [if_pos c5]; exact bad_code _ _ _ _ _ (by decide)
              · rw [if_neg c5]; exact ⟨by omega, by omega, by omega⟩
            · rw [if_neg c4]
              by_cases c6 : x.kind = 8
              · rw [if_pos c6]; exact ⟨by omega, by omega, by omega⟩
              · rw [if_neg c6]
                by_cases c7 : x.kind = 11
                · rw [if_pos c7]; exact ⟨by omega, by omega, by omega⟩
                · rw [if_neg c7]
                  by_cases c8 : x.kind = 3
                  · rw [if_pos c8]
                    by_cases c9 : kindAt L (p + 1) = 4
                    · rw [if_pos c9]
                      have := kindAt_lt (L := L) (p := p + 1) (by omega)
                      exact ⟨by omega, by omega, by omega⟩
                    · rw [if_neg c9]
                      exact good_more (readJ_good L E n _ (p + 1) (m + 1) (by omega) (by omega) (by unfold needJ; simp only; omega)) (by omega)
                  · rw [if_neg c8]
                    by_cases c10 : x.kind = 1
                    · rw [if_pos c10]
                      by_cases c9 : kindAt L (p + 1) = 2
                      · rw [if_pos c9]
                        have := kindAt_lt (L := L) (p := p + 1) (by omega)
                        exact ⟨by omega, by omega, by omega⟩
                      · rw [if_neg c9]
                        exact good_more (readJ_good L E n _ (p + 1) (m + 1) (by omega) (by omega) (by unfold needJ; simp only; omega)) (by omega)
                    · rw [if_neg c10]; exact ⟨by omega, by omega, by omega⟩
  | n + 1, .list d acc, p, m, hp, hm, hn => by
    rw [readJ_list]
    unfold needJ at hn
    simp only at hn
    have h1 := readJ_good L E n (.value (d + 1)) p m hp hm (by unfold needJ; simp only; omega)
    rcases hr : readJ L E n (.value (d + 1)) p m with f | ⟨t, q, m'⟩
    · rw [hr] at h1; exact h1
    · rw [hr] at h1
      obtain ⟨h2, h3, h4⟩ := h1
      simp only
      by_cases c1 : kindAt L q = 4
      · rw [if_pos c1]
        have := kindAt_lt (L := L) (p := q) (by omega)
        exact ⟨by omega, by omega, h4⟩
      · rw [if_neg c1]
        by_cases c2 : kindAt L q = 6
        · rw [if_pos c2]
          have := kindAt_lt (L := L) (p := q) (by omega)
          exact good_more (readJ_good L E n _ (q + 1) m' (by omega) h4 (by unfold needJ; simp only; omega)) (by omega)
        · rw [if_neg c2]; exact bad_code _ _ _ _ _ (by decide)
  | n + 1, .pairs d ks acc, p, m, hp, hm, hn => by
    rw [readJ_pairs]
    unfold needJ at hn
    simp only at hn
    rcases hx : L[p]? with _ | x
    · exact bad_code _ _ _ _ _ (by decide)
    · simp only
      have hlt := (List.getElem?_eq_some_iff.1 hx).1
      by_cases c1 : x.kind ≠ 7
      · rw [if_pos c1]; exact bad_code _ _ _ _ _ (by decide)
      · rw [if_neg c1]
        by_cases c2 : 400 < x.text.size
        · rw [if_pos c2]; exact bad_code _ _ _ _ _ (by decide)
        · rw [if_neg c2]
          by_cases c3 : ks.contains x.text = true
          · rw [if_pos c3]; exact bad_code _ _ _ _ _ (by decide)
          · rw [if_neg c3]
            by_cases c4 : kindAt L (p + 1) ≠ 5
            · rw [if_pos c4]; exact bad_code _ _ _ _ _ (by decide)
            · rw [if_neg c4]
              have hlt2 := kindAt_lt (L := L) (p := p + 1) (by omega)
              have h1 := readJ_good L E n (.value (d + 1)) (p + 2) m (by omega) hm (by unfold needJ; simp only; omega)
              rcases hr : readJ L E n (.value (d + 1)) (p + 2) m with f | ⟨t, q, m'⟩
              · rw [hr] at h1; exact h1
              · rw [hr] at h1
                obtain ⟨h2, h3, h4⟩ := h1
                simp only
                by_cases c5 : kindAt L q = 2
                · rw [if_pos c5]
                  have := kindAt_lt (L := L) (p := q) (by omega)
                  exact ⟨by omega, by omega, h4⟩
                · rw [if_neg c5]
                  by_cases c6 : kindAt L q = 6
                  · rw [if_pos c6]
                    have := kindAt_lt (L := L) (p := q) (by omega)
                    exact good_more (readJ_good L E n _ (q + 1) m' (by omega) h4 (by unfold needJ; simp only; omega)) (by omega)
                  · rw [if_neg c6]; exact bad_code _ _ _ _ _ (by decide)
theorem readP_kind {L : List SignD} {E : Int} {n d p m : Nat} {ks : List ByteArray} {acc : List TreeD} (h : kindAt L p ≠ 7) : readJ L E (n + 1) (.pairs d ks acc) p m = .bad (badF L E 4 p) := by
  rw [readJ_pairs]
  rcases hx : L[p]? with _ | x
  · rfl
  · simp only
    rw [if_pos (by rw [← kindAt_some hx]; exact h)]
theorem readP_wide {L : List SignD} {E : Int} {n d p m : Nat} {ks : List ByteArray} {acc : List TreeD} {x : SignD} (hx : L[p]? = some x) (hk : x.kind = 7) (hs : 400 < x.text.size) : readJ L E (n + 1) (.pairs d ks acc) p m = .bad (badF L E 8 p) := by
  rw [readJ_pairs, hx]
  simp only
  rw [if_neg (fun h => h hk), if_pos hs]
theorem readP_twice {L : List SignD} {E : Int} {n d p m : Nat} {ks : List ByteArray} {acc : List TreeD} {x : SignD} (hx : L[p]? = some x) (hk : x.kind = 7) (hs : ¬ 400 < x.text.size) (hn : ks.contains x.text = true) : readJ L E (n + 1) (.pairs d ks acc) p m = .bad (badF L E 5 p) := by
  rw [readJ_pairs, hx]
  simp only
  rw [if_neg (fun h => h hk), if_neg hs, if_pos hn]
theorem readP_colon {L : List SignD} {E : Int} {n d p m : Nat} {ks : List ByteArray} {acc : List TreeD} {x : SignD} (hx : L[p]? = some x) (hk : x.kind = 7) (hs : ¬ 400 < x.text.size) (hn : ks.contains x.text = false) (h5 : kindAt L (p + 1) ≠ 5) : readJ L E (n + 1) (.pairs d ks acc) p m = .bad (badF L E 4 (p + 1)) := by
  rw [readJ_pairs, hx]
  simp only
  rw [if_neg (fun h => h hk), if_neg hs, if_neg (by rw [hn]; decide), if_pos h5]
theorem readP_bad {L : List SignD} {E : Int} {n d p m : Nat} {ks : List ByteArray} {acc : List TreeD} {x : SignD} {f : Flt} (hx : L[p]? = some x) (hk : x.kind = 7) (hs : ¬ 400 < x.text.size) (hn : ks.contains x.text = false) (h5 : kindAt L (p + 1) = 5) (hq : readJ L E n (.value (d + 1)) (p + 2) m = .bad f) : readJ L E (n + 1) (.pairs d ks acc) p m = .bad f := by
  rw [readJ_pairs, hx]
  simp only
  rw [if_neg (fun h => h hk), if_neg hs, if_neg (by rw [hn]; decide), if_neg (fun h => h h5), hq]
theorem readP_good {L : List SignD} {E : Int} {n d p m : Nat} {ks : List ByteArray} {acc : List TreeD} {x : SignD} {t : TreeD} {q m' : Nat} (hx : L[p]? = some x) (hk : x.kind = 7) (hs : ¬ 400 < x.text.size) (hn : ks.contains x.text = false) (h5 : kindAt L (p + 1) = 5) (hq : readJ L E n (.value (d + 1)) (p + 2) m = .good t q m') : readJ L E (n + 1) (.pairs d ks acc) p m =
    if kindAt L q = 2 then .good (tMap (insL ks (posK ks x.text) x.text) (insL acc (posK ks x.text) t)) (q + 1) m'
    else if kindAt L q = 6 then readJ L E n (.pairs d (insL ks (posK ks x.text) x.text) (insL acc (posK ks x.text) t)) (q + 1) m'
    else .bad (badF L E 4 q) := by
  rw [readJ_pairs, hx]
  simp only
  rw [if_neg (fun h => h hk), if_neg hs, if_neg (by rw [hn]; decide), if_neg (fun h => h h5), hq]
end Go.Proofs.YtffelpdefjkeaaaGreatDoor
