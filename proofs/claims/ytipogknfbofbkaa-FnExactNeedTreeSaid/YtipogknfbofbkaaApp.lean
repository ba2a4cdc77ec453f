/- An append of a slice of strings that may be empty or nil. No conditions. -/
import Derived.Test.YtipogknfbofbkaaCopy
namespace Go.Proofs.Ytipogknfbofbkaa
open Go.RowKit

theorem run_append_none {P : Program} (w : World) (t ty : TypeId) (base : Nat) (e : TypeId) (i : TypeInfo) (size : Nat) (ht : P.underlying t = some (.slice e)) (hi : P.info? e = some i)
    (v : Value) (n : Nat) (xs : List Value) (hown : w.ownsRow base e size v n xs) (c : Nat) :
    (Builtin.append_ #[t, t] ty #[v, .slice none 0 c]).run P w = .ok v w := by
  rcases hown.2 with ⟨rfl, rfl⟩ | ⟨g, cap, cur, rfl, hb, hg, hnc, _⟩
  · simp [Builtin.append_, run_underlying ht, sizeOf, typeInfo, hi, Builtin.lenOf, Builtin.firstCells]
  · simp [Builtin.append_, run_underlying ht, sizeOf, typeInfo, hi, Builtin.lenOf, Builtin.firstCells, loadCells, storeCells, hnc]
theorem wpList_append_of {P : Program} {w : World} {ops : Array Oper} {rest : List Oper} {o : Oper} {a : Act} {Q : Exit → Act → World → Prop} (hgd : o.guard = none) (s x : Operand) (t : TypeId)
    (ho : o.op = .call { callee := .builtin .append, args := #[s, x], argTypes := #[t, t] }) (v u v' : Value) (w' : World) (hs : a.eval s = v) (hx : a.eval x = u)
    (hr : (Builtin.append_ #[t, t] o.type #[v, u]).run P w = .ok v' w') (h : wpList P ops Q rest (a.put o.dst v') w') : wpList P ops Q (o :: rest) a w :=
  wpList_plain hgd fun K hK => by
    unfold Oper.wp execOp
    simp only [ho, resolve, invoke, builtin, Sem.run_bind, Sem.run_pure, Result.andThen_ok, List.map_toArray, List.map_cons, List.map_nil, hs, hx, hr]
    exact hK _ _ h
/-- Appending a slice of strings, whatever it is. -/
theorem wpList_append_strs {P : Program} {w : World} {ops : Array Oper} {rest : List Oper} {o : Oper} {a : Act} {Q : Exit → Act → World → Prop} (hgd : o.guard = none) (s x : Operand) (t : TypeId)
    (ho : o.op = .call { callee := .builtin .append, args := #[s, x], argTypes := #[t, t] }) (base : Nat) (e : TypeId) (i : TypeInfo) (z : Value) (bytes : Nat) (ht : P.underlying t = some (.slice e)) (hi : P.info? e = some i) (hz : i.zero = some z)
    (hsize : i.size = 1) (hby : i.bytes = bytes) (hzs : z.cells.size = 1) (v : Value) (n : Nat) (xs : List Value) (hs : a.eval s = v) (hown : w.ownsRow base e 1 v n xs)
    (l : List ByteArray) (A : Option Addr) (c lo hi' : Nat) (hx : a.eval x = .slice A l.length c) (hl : Sl_Str lo hi' w l (.slice A l.length c)) (h63 : n + l.length ≤ 9223372036854775807) (hbytes : (n + l.length) * bytes ≤ 140737488355328) (hbase : base ≤ w.heap.size)
    (h : ∀ v' w', w'.ownsRow base e 1 v' (n + l.length) (xs ++ l.map Value.string) → w.grownBy w' v.ownBlock → (v'.ownBlock = v.ownBlock ∨ v'.ownBlock = some w.heap.size) → wpList P ops Q rest (a.put o.dst v') w') : wpList P ops Q (o :: rest) a w := by
  by_cases hp : 0 < l.length
  · have hl2 := hl
    obtain ⟨A', c', hv, -, -, hA⟩ := hl
    obtain ⟨b, off, rfl, -⟩ := hA hp
    simp only [Value.slice.injEq] at hv
    obtain ⟨rfl, -, rfl⟩ := hv
    exact wpList_append_own_at w hgd s x t ho base e i z 1 bytes ht hi hz hsize hby hzs (by decide) v n xs hs hown ⟨b, off, none⟩ l.length c (l.map Value.string) hx (by simp) (news_strs hl2 hp) (one_strs l) (by unfold maxLen; omega) hbytes hbase (fun v' w' h1 h2 _ h4 => h v' w' h1 h2 h4)
  · obtain rfl : l = [] := List.eq_nil_of_length_eq_zero (by omega)
    rcases A with _ | ad
    · refine wpList_append_of hgd s x t ho v _ v w hs hx (run_append_none w t _ base e i 1 ht hi v n xs hown c) (h v w (by simpa using hown) (World.grownBy.refl _ _) (.inl rfl))
    · exact wpList_append_own_at w hgd s x t ho base e i z 1 bytes ht hi hz hsize hby hzs (by decide) v n xs hs hown ad 0 c [] hx rfl (fun j u h => by simp at h) (fun u h => by simp at h) (by unfold maxLen; omega) hbytes hbase (fun v' w' h1 h2 _ h4 => h v' w' h1 h2 h4)
theorem own_empty {w : World} {e : TypeId} {size base B : Nat} (hB : B = w.heap.size) (hb : base ≤ w.heap.size) : (w.alloc (.cells #[] e)).ownsRow base e size (.slice (some ⟨B, 0, none⟩) 0 0) 0 [] := by
  subst hB
  exact World.ownsRow_made w #[] 0 hb (by decide) (by simp)
theorem GrowK.empty {n base B : Nat} {w : World} (hB : B = w.heap.size) (hb : base ≤ w.heap.size) : GrowK n base (w.alloc (.cells #[] 40)).heap.size (w.alloc (.cells #[] 40)) [] (.slice (some ⟨B, 0, none⟩) 0 0) :=
  ⟨[], fun _ _ => False, rfl, fun _ h => (by cases h), own_empty hB hb, fun g h => (by simp [Value.ownBlock] at h; simp; omega), fun _ _ h => h.elim, fun _ _ _ h => h.elim, fun i d es h => (by simp at h)⟩
theorem bcellN {B : Nat} {W w1 : World} (hb : Below B W w1) : (∀ b o, b < B → w1.cell? ⟨b, o, none⟩ = W.cell? ⟨b, o, none⟩) ∧ (∀ b o, b < B → w1.frozen? ⟨b, o, none⟩ = W.frozen? ⟨b, o, none⟩) :=
  ⟨fun b o h => hb.cell (p := ⟨b, o, none⟩) h, fun b o h => hb.frozen (p := ⟨b, o, none⟩) h⟩
/-! Cells of old blocks, but for one row, are as they were. -/
theorem s3_refl {r : Option Nat} {wr : World} : (wr.heap.size ≤ wr.heap.size ∧ (∀ xb xo, xb < wr.heap.size → r ≠ some xb → wr.cell? ⟨xb, xo, none⟩ = wr.cell? ⟨xb, xo, none⟩) ∧ (∀ xb xo, xb < wr.heap.size → r ≠ some xb → wr.frozen? ⟨xb, xo, none⟩ = wr.frozen? ⟨xb, xo, none⟩)) := ⟨Nat.le_refl _, fun _ _ _ _ => rfl, fun _ _ _ _ => rfl⟩
theorem s3_drew {r : Option Nat} {wr a : World} (h : (wr.heap.size ≤ a.heap.size ∧ (∀ xb xo, xb < wr.heap.size → r ≠ some xb → a.cell? ⟨xb, xo, none⟩ = wr.cell? ⟨xb, xo, none⟩) ∧ (∀ xb xo, xb < wr.heap.size → r ≠ some xb → a.frozen? ⟨xb, xo, none⟩ = wr.frozen? ⟨xb, xo, none⟩))) : (wr.heap.size ≤ a.drew.heap.size ∧ (∀ xb xo, xb < wr.heap.size → r ≠ some xb → a.drew.cell? ⟨xb, xo, none⟩ = wr.cell? ⟨xb, xo, none⟩) ∧ (∀ xb xo, xb < wr.heap.size → r ≠ some xb → a.drew.frozen? ⟨xb, xo, none⟩ = wr.frozen? ⟨xb, xo, none⟩)) := h
theorem s3_alloc {r : Option Nat} {wr a : World} {o : Obj} (h : (wr.heap.size ≤ a.heap.size ∧ (∀ xb xo, xb < wr.heap.size → r ≠ some xb → a.cell? ⟨xb, xo, none⟩ = wr.cell? ⟨xb, xo, none⟩) ∧ (∀ xb xo, xb < wr.heap.size → r ≠ some xb → a.frozen? ⟨xb, xo, none⟩ = wr.frozen? ⟨xb, xo, none⟩))) : (wr.heap.size ≤ (a.alloc o).heap.size ∧ (∀ xb xo, xb < wr.heap.size → r ≠ some xb → (a.alloc o).cell? ⟨xb, xo, none⟩ = wr.cell? ⟨xb, xo, none⟩) ∧ (∀ xb xo, xb < wr.heap.size → r ≠ some xb → (a.alloc o).frozen? ⟨xb, xo, none⟩ = wr.frozen? ⟨xb, xo, none⟩)) :=
  ⟨by have := h.1; simp; omega, fun b o' hb hr => (World.cell?_of_block (a := ⟨b, o', none⟩) (Below.heap_alloc a o b (Nat.lt_of_lt_of_le hb h.1))).trans (h.2.1 b o' hb hr), fun b o' hb hr => (World.frozen?_of_block (a := ⟨b, o', none⟩) (Below.heap_alloc a o b (Nat.lt_of_lt_of_le hb h.1))).trans (h.2.2 b o' hb hr)⟩
theorem s3_below {r : Option Nat} {wr a c : World} (h : (wr.heap.size ≤ a.heap.size ∧ (∀ xb xo, xb < wr.heap.size → r ≠ some xb → a.cell? ⟨xb, xo, none⟩ = wr.cell? ⟨xb, xo, none⟩) ∧ (∀ xb xo, xb < wr.heap.size → r ≠ some xb → a.frozen? ⟨xb, xo, none⟩ = wr.frozen? ⟨xb, xo, none⟩))) (k : Below a.heap.size a c) : (wr.heap.size ≤ c.heap.size ∧ (∀ xb xo, xb < wr.heap.size → r ≠ some xb → c.cell? ⟨xb, xo, none⟩ = wr.cell? ⟨xb, xo, none⟩) ∧ (∀ xb xo, xb < wr.heap.size → r ≠ some xb → c.frozen? ⟨xb, xo, none⟩ = wr.frozen? ⟨xb, xo, none⟩)) :=
  ⟨Nat.le_trans h.1 k.size, fun b o hb hr => (k.cell (p := ⟨b, o, none⟩) (Nat.lt_of_lt_of_le hb h.1)).trans (h.2.1 b o hb hr), fun b o hb hr => (k.frozen (p := ⟨b, o, none⟩) (Nat.lt_of_lt_of_le hb h.1)).trans (h.2.2 b o hb hr)⟩
theorem s3_grown {r : Option Nat} {wr a c : World} (h : (wr.heap.size ≤ a.heap.size ∧ (∀ xb xo, xb < wr.heap.size → r ≠ some xb → a.cell? ⟨xb, xo, none⟩ = wr.cell? ⟨xb, xo, none⟩) ∧ (∀ xb xo, xb < wr.heap.size → r ≠ some xb → a.frozen? ⟨xb, xo, none⟩ = wr.frozen? ⟨xb, xo, none⟩))) (k : a.grownBy c r) : (wr.heap.size ≤ c.heap.size ∧ (∀ xb xo, xb < wr.heap.size → r ≠ some xb → c.cell? ⟨xb, xo, none⟩ = wr.cell? ⟨xb, xo, none⟩) ∧ (∀ xb xo, xb < wr.heap.size → r ≠ some xb → c.frozen? ⟨xb, xo, none⟩ = wr.frozen? ⟨xb, xo, none⟩)) :=
  ⟨Nat.le_trans h.1 k.size, fun b o hb hr => (k.cell_far ⟨b, o, none⟩ (Nat.lt_of_lt_of_le hb h.1) (fun e => hr e.symm)).trans (h.2.1 b o hb hr), fun b o hb hr => (k.frozen_far ⟨b, o, none⟩ (Nat.lt_of_lt_of_le hb h.1) (fun e => hr e.symm)).trans (h.2.2 b o hb hr)⟩
theorem s3_tree {n lo : Nat} {r : Option Nat} {w wr w' : World} {d : TreeD} {cs : List Value} (hw : Below w.heap.size w wr) (hr : ∀ q, r = some q → w.heap.size ≤ q) (hC : C_Tree n lo w.heap.size w d cs) (h : (wr.heap.size ≤ w'.heap.size ∧ (∀ xb xo, xb < wr.heap.size → r ≠ some xb → w'.cell? ⟨xb, xo, none⟩ = wr.cell? ⟨xb, xo, none⟩) ∧ (∀ xb xo, xb < wr.heap.size → r ≠ some xb → w'.frozen? ⟨xb, xo, none⟩ = wr.frozen? ⟨xb, xo, none⟩))) : C_Tree n lo w'.heap.size w' d cs :=
  hC.keep (fun b o _ h2 => (h.2.1 b o (Nat.lt_of_lt_of_le h2 hw.size) (fun e => absurd (hr b e) (by omega))).trans (hw.cell (p := ⟨b, o, none⟩) h2)) (Nat.le_refl _) (Nat.le_trans hw.size h.1)
theorem own9 {wr W9 w9 : World} {o : Obj} {base n m size : Nat} {e : TypeId} {v : Value} {xs : List Value} (h : wr.ownsRow base e size v n xs) (hb : Below W9.heap.size W9 w9) (he : W9.heap = wr.heap) (hn : n = m) : (w9.alloc o).ownsRow base e size v m xs := by
  subst hn
  refine World.ownsRow.alloc (ownsRow_carry h (fun q hq => ?_)) o
  have := (h.lt q hq).2
  rw [← he] at this
  rw [hb.block q this, he]
theorem grown_at {w w' : World} {r q : Option Nat} (h : r = q) (k : w.grownBy w' q) : w.grownBy w' r := by subst h; exact k
theorem row9 {wr W9 w9 w2 : World} {o row : Obj} {r q : Option Nat} {b : Nat} (hrow : wr.heap[b]? = some row) (hb : Below W9.heap.size W9 w9) (he : W9.heap = wr.heap) (hg : (w9.alloc o).grownBy w2 q) (hr : r = q) (hn : r ≠ some b) : w2.heap[b]? = some row := by
  subst hr
  have h1 : b < W9.heap.size := by rw [he]; exact row_lt hrow
  have h2 := hb.size
  rw [hg.block b (by simp; omega) (fun e => hn e.symm), Below.heap_alloc w9 o b (by omega), hb.block b h1, he, hrow]
theorem blk9 {wr W9 w9 w2 : World} {o : Obj} {r q : Option Nat} {b : Nat} (hrow : b < wr.heap.size) (hb : Below W9.heap.size W9 w9) (he : W9.heap = wr.heap) (hg : (w9.alloc o).grownBy w2 q) (hr : r = q) (hn : r ≠ some b) : w2.heap[b]? = wr.heap[b]? := by
  subst hr
  have h1 : b < W9.heap.size := by rw [he]; exact hrow
  have h2 := hb.size
  rw [hg.block b (by simp; omega) (fun e => hn e.symm), Below.heap_alloc w9 o b (by omega), hb.block b h1, he]
theorem old9 {wr W9 w9 : World} {o : Obj} {b : Nat} (hrow : b < wr.heap.size) (hb : Below W9.heap.size W9 w9) (he : W9.heap = wr.heap) : (w9.alloc o).heap[b]? = wr.heap[b]? := by
  have h1 : b < W9.heap.size := by rw [he]; exact hrow
  have h2 := hb.size
  rw [Below.heap_alloc w9 o b (by omega), hb.block b h1, he]
end Go.Proofs.Ytipogknfbofbkaa
