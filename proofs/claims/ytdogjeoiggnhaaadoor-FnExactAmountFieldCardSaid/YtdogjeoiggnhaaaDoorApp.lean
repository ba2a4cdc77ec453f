/- An append of a slice of strings that may be empty or nil. No conditions. -/
import Derived.Test.YtdogjeoiggnhaaaDoorCopy
namespace Go.Proofs.YtdogjeoiggnhaaaDoor
open Go.RowKit

theorem GrowK.empty {n base B : Nat} {w : World} (hB : B = w.heap.size) (hb : base ≤ w.heap.size) : GrowK n base (w.alloc (.cells #[] 33)).heap.size (w.alloc (.cells #[] 33)) [] (.slice (some ⟨B, 0, none⟩) 0 0) :=
  ⟨[], fun _ _ => False, rfl, fun _ h => (by cases h), own_empty hB hb, fun g h => (by simp [Value.ownBlock] at h; simp; omega), fun _ _ h => h.elim, fun _ _ _ h => h.elim, fun i d es h => (by simp at h)⟩
theorem bcellN {B : Nat} {W w1 : World} (hb : Below B W w1) : (∀ b o, b < B → w1.cell? ⟨b, o, none⟩ = W.cell? ⟨b, o, none⟩) ∧ (∀ b o, b < B → w1.frozen? ⟨b, o, none⟩ = W.frozen? ⟨b, o, none⟩) :=
  ⟨fun b o h => hb.cell (p := ⟨b, o, none⟩) h, fun b o h => hb.frozen (p := ⟨b, o, none⟩) h⟩
/-! Cells of old blocks, but for one row, are as they were. -/
theorem s3_refl {r : Option Nat} {wr : World} : (wr.heap.size ≤ wr.heap.size ∧ (∀ xb xo, xb < wr.heap.size → r ≠ some xb → wr.cell? ⟨xb, xo, none⟩ = wr.cell? ⟨xb, xo, none⟩) ∧ (∀ xb xo, xb < wr.heap.size → r ≠ some xb → wr.frozen? ⟨xb, xo, none⟩ = wr.frozen? ⟨xb, xo, none⟩)) := ⟨Nat.le_refl _, fun _ _ _ _ => rfl, fun _ _ _ _ => rfl⟩
theorem s3_drew {r : Option Nat} {wr a : World} (h : (wr.heap.size ≤ a.heap.size ∧ (∀ xb xo, xb < wr.heap.size → r ≠ some xb → a.cell? ⟨xb, xo, none⟩ = wr.cell? ⟨xb, xo, none⟩) ∧ (∀ xb xo, xb < wr.heap.size → r ≠ some xb → a.frozen? ⟨xb, xo, none⟩ = wr.frozen? ⟨xb, xo, none⟩))) : (wr.heap.size ≤ a.drew.heap.size ∧ (∀ xb xo, xb < wr.heap.size → r ≠ some xb → a.drew.cell? ⟨xb, xo, none⟩ = wr.cell? ⟨xb, xo, none⟩) ∧ (∀ xb xo, xb < wr.heap.size → r ≠ some xb → a.drew.frozen? ⟨xb, xo, none⟩ = wr.frozen? ⟨xb, xo, none⟩)) := h
theorem s3_alloc {r : Option Nat} {wr a : World} {o : Obj} (h : (wr.heap.size ≤ a.heap.size ∧ (∀ xb xo, xb < wr.heap.size → r ≠ some xb → a.cell? ⟨xb, xo, none⟩ = wr.cell? ⟨xb, xo, none⟩) ∧ (∀ xb xo, xb < wr.heap.size → r ≠ some xb → a.frozen? ⟨xb, xo, none⟩ = wr.frozen? ⟨xb, xo, none⟩))) : (wr.heap.size ≤ (a.alloc o).heap.size ∧ (∀ xb xo, xb < wr.heap.size → r ≠ some xb → (a.alloc o).cell? ⟨xb, xo, none⟩ = wr.cell? ⟨xb, xo, none⟩) ∧ (∀ xb xo, xb < wr.heap.size → r ≠ some xb → (a.alloc o).frozen? ⟨xb, xo, none⟩ = wr.frozen? ⟨xb, xo, none⟩)) :=
  ⟨by have := h.1; simp; omega, fun b o' hb hr => (World.cell?_of_block (a := ⟨b, o', none⟩) (Below.heap_alloc a o b (Nat.lt_of_lt_of_le hb h.1))).trans (h.2.1 b o' hb hr), fun b o' hb hr => (World.frozen?_of_block (a := ⟨b, o', none⟩) (Below.heap_alloc a o b (Nat.lt_of_lt_of_le hb h.1))).trans (h.2.2 b o' hb hr)⟩
theorem s3_below {r : Option Nat} {wr a c : World} (h : (wr.heap.size ≤ a.heap.size ∧ (∀ xb xo, xb < wr.heap.size → r ≠ some xb → a.cell? ⟨xb, xo, none⟩ = wr.cell? ⟨xb, xo, none⟩) ∧ (∀ xb xo, xb < wr.heap.size → r ≠ some xb → a.frozen? ⟨xb, xo, none⟩ = wr.frozen? ⟨xb, xo, none⟩))) (k : Below a.heap.size a c) : (wr.heap.size ≤ c.heap.size ∧ (∀ xb xo, xb < wr.heap.size → r ≠ some xb → c.cell? ⟨xb, xo, none⟩ = wr.cell? ⟨xb, xo, none⟩) ∧ (∀ xb xo, xb < wr.heap.size → r ≠ some xb → c.frozen? ⟨xb, xo, none⟩ = wr.frozen? ⟨xb, xo, none⟩)) :=
  ⟨Nat.le_trans h.1 k.size, fun b o hb hr => (k.cell (p := ⟨b, o, none⟩) (Nat.lt_of_lt_of_le hb h.1)).trans (h.2.1 b o hb hr), fun b o hb hr => (k.frozen (p := ⟨b, o, none⟩) (Nat.lt_of_lt_of_le hb h.1)).trans (h.2.2 b o hb hr)⟩
theorem s3_grown {r : Option Nat} {wr a c : World} (h : (wr.heap.size ≤ a.heap.size ∧ (∀ xb xo, xb < wr.heap.size → r ≠ some xb → a.cell? ⟨xb, xo, none⟩ = wr.cell? ⟨xb, xo, none⟩) ∧ (∀ xb xo, xb < wr.heap.size → r ≠ some xb → a.frozen? ⟨xb, xo, none⟩ = wr.frozen? ⟨xb, xo, none⟩))) (k : a.grownBy c r) : (wr.heap.size ≤ c.heap.size ∧ (∀ xb xo, xb < wr.heap.size → r ≠ some xb → c.cell? ⟨xb, xo, none⟩ = wr.cell? ⟨xb, xo, none⟩) ∧ (∀ xb xo, xb < wr.heap.size → r ≠ some xb → c.frozen? ⟨xb, xo, none⟩ = wr.frozen? ⟨xb, xo, none⟩)) :=
  ⟨Nat.le_trans h.1 k.size, fun b o hb hr => (k.cell_far ⟨b, o, none⟩ (Nat.lt_of_lt_of_le hb h.1) (fun e => hr e.symm)).trans (h.2.1 b o hb hr), fun b o hb hr => (k.frozen_far ⟨b, o, none⟩ (Nat.lt_of_lt_of_le hb h.1) (fun e => hr e.symm)).trans (h.2.2 b o hb hr)⟩
theorem s3_tree {n lo : Nat} {r : Option Nat} {w wr w' : World} {d : TreeD} {cs : List Value} (hw : Below w.heap.size w wr) (hr : ∀ q, r = some q → w.heap.size ≤ q) (hC : C_Tree n lo w.heap.size w d cs) (h : (wr.heap.size ≤ w'.heap.size ∧ (∀ xb xo, xb < wr.heap.size → r ≠ some xb → w'.cell? ⟨xb, xo, none⟩ = wr.cell? ⟨xb, xo, none⟩) ∧ (∀ xb xo, xb < wr.heap.size → r ≠ some xb → w'.frozen? ⟨xb, xo, none⟩ = wr.frozen? ⟨xb, xo, none⟩))) : C_Tree n lo w'.heap.size w' d cs :=
  hC.keep (fun b o _ h2 => (h.2.1 b o (Nat.lt_of_lt_of_le h2 hw.size) (fun e => absurd (hr b e) (by omega))).trans (hw.cell (p := ⟨b, o, none⟩) h2)) (Nat.le_refl _) (Nat.le_trans hw.size h.1)
theorem own9 {wr W9 w9 : World} {o : Obj} {base n m size : Nat} {e : TypeId} {v : Value} {xs : List Value} (h : wr.ownsRow base e size v n xs) (hb : Below W9.heap.size W9 w9) (he : W9.heap = wr.heap) (hn : n = m) : (w9.alloc o).ownsRow base e size v m xs := by
  subst hn
  refine World.ownsRow.alloc (ownsRow_carry h (fun q hq => ?_)) o
  have := (h.lt q hq).2
  rw [← he] at this
  rw [hb.block q this, he]
theorem grown_at {w w' : World} {r q : Option Nat} (h : r = q) (k : w.grownBy w' q) : w.grownBy w' r := by subst h; exact k
theorem row9 {wr W9 w9 w2 : World} {o row : Obj} {r q : Option Nat} {b : Nat} (hrow : wr.heap[b]? = some row) (hb : Below W9.heap.size W9 w9) (he : W9.heap = wr.heap) (hg : (w9.alloc o).grownBy w2 q) (hr : r = q) (hn : r ≠ some b) : w2.heap[b]? = some row := by
  subst hr
  have h1 : b < W9.heap.size := by rw [he]; exact row_lt hrow
  have h2 := hb.size
  rw [hg.block b (by simp; omega) (fun e => hn e.symm), Below.heap_alloc w9 o b (by omega), hb.block b h1, he, hrow]
theorem blk9 {wr W9 w9 w2 : World} {o : Obj} {r q : Option Nat} {b : Nat} (hrow : b < wr.heap.size) (hb : Below W9.heap.size W9 w9) (he : W9.heap = wr.heap) (hg : (w9.alloc o).grownBy w2 q) (hr : r = q) (hn : r ≠ some b) : w2.heap[b]? = wr.heap[b]? := by
  subst hr
  have h1 : b < W9.heap.size := by rw [he]; exact hrow
  have h2 := hb.size
  rw [hg.block b (by simp; omega) (fun e => hn e.symm), Below.heap_alloc w9 o b (by omega), hb.block b h1, he]
theorem old9 {wr W9 w9 : World} {o : Obj} {b : Nat} (hrow : b < wr.heap.size) (hb : Below W9.heap.size W9 w9) (he : W9.heap = wr.heap) : (w9.alloc o).heap[b]? = wr.heap[b]? := by
  have h1 : b < W9.heap.size := by rw [he]; exact hrow
  have h2 := hb.size
  rw [Below.heap_alloc w9 o b (by omega), hb.block b h1, he]
end Go.Proofs.YtdogjeoiggnhaaaDoor
