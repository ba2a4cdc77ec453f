/- The program's structs as data: structures, what their cells hold, and how an argument is opened. No conditions. Written by wip/tools/gentypes.py. -/
import Derived.Test.YtmhlnbihppojmaaMem
import Derived.RowKit
namespace Go.Proofs.Ytmhlnbihppojmaa
open Go.RowKit Go.ChangeShapes Go.WideShapes Go.Deep

structure Taint where
  key : ByteArray
  value : ByteArray
  effect : Int
def C_Taint (d : Taint) (cs : List Value) : Prop := cs = [.string d.key, .string d.value, .int .i64 d.effect] ∧ d.key.size ≤ 9223372036854775807 ∧ d.value.size ≤ 9223372036854775807 ∧ I64 d.effect
abbrev Sl_Taint (lo hi : Nat) (w : World) (l : List Taint) (v : Value) : Prop := SlOf (C_Taint) 3 lo hi w l v
theorem Sl_Taint.keep {lo hi lo' hi' : Nat} {w w' : World} {l : List Taint} {v : Value} (h : Sl_Taint lo hi w l v) (hs : Same lo hi w w') (h1 : lo' ≤ lo) (h2 : hi ≤ hi') : Sl_Taint lo' hi' w' l v := SlOf.keep h hs h1 h2 (fun _ _ _ h => h)
theorem Sl_Taint.now {lo : Nat} {w w' : World} {l : List Taint} {v : Value} (h : Sl_Taint lo w.heap.size w l v) (hb : Below w.heap.size w w') : Sl_Taint lo w'.heap.size w' l v := h.keep (same_below hb) (Nat.le_refl _) hb.size

structure Tolerance where
  key : ByteArray
  equal : Bool
  value : ByteArray
  effect : Int
def C_Tolerance (d : Tolerance) (cs : List Value) : Prop := cs = [.string d.key, .bool d.equal, .string d.value, .int .i64 d.effect] ∧ d.key.size ≤ 9223372036854775807 ∧ d.value.size ≤ 9223372036854775807 ∧ I64 d.effect
abbrev Sl_Tolerance (lo hi : Nat) (w : World) (l : List Tolerance) (v : Value) : Prop := SlOf (C_Tolerance) 4 lo hi w l v
theorem Sl_Tolerance.keep {lo hi lo' hi' : Nat} {w w' : World} {l : List Tolerance} {v : Value} (h : Sl_Tolerance lo hi w l v) (hs : Same lo hi w w') (h1 : lo' ≤ lo) (h2 : hi ≤ hi') : Sl_Tolerance lo' hi' w' l v := SlOf.keep h hs h1 h2 (fun _ _ _ h => h)
theorem Sl_Tolerance.now {lo : Nat} {w w' : World} {l : List Tolerance} {v : Value} (h : Sl_Tolerance lo w.heap.size w l v) (hb : Below w.heap.size w w') : Sl_Tolerance lo w'.heap.size w' l v := h.keep (same_below hb) (Nat.le_refl _) hb.size

structure Label where
  key : ByteArray
  value : ByteArray
def C_Label (d : Label) (cs : List Value) : Prop := cs = [.string d.key, .string d.value] ∧ d.key.size ≤ 9223372036854775807 ∧ d.value.size ≤ 9223372036854775807
abbrev Sl_Label (lo hi : Nat) (w : World) (l : List Label) (v : Value) : Prop := SlOf (C_Label) 2 lo hi w l v
theorem Sl_Label.keep {lo hi lo' hi' : Nat} {w w' : World} {l : List Label} {v : Value} (h : Sl_Label lo hi w l v) (hs : Same lo hi w w') (h1 : lo' ≤ lo) (h2 : hi ≤ hi') : Sl_Label lo' hi' w' l v := SlOf.keep h hs h1 h2 (fun _ _ _ h => h)
theorem Sl_Label.now {lo : Nat} {w w' : World} {l : List Label} {v : Value} (h : Sl_Label lo w.heap.size w l v) (hb : Below w.heap.size w w') : Sl_Label lo w'.heap.size w' l v := h.keep (same_below hb) (Nat.le_refl _) hb.size

structure Need where
  key : ByteArray
  op : Int
  values : List ByteArray
def C_Need (lo hi : Nat) (w : World) (d : Need) (cs : List Value) : Prop := ∃ v2, cs = [.string d.key, .int .i64 d.op, v2] ∧ d.key.size ≤ 9223372036854775807 ∧ I64 d.op ∧ Sl_Str lo hi w d.values v2
abbrev Sl_Need (lo hi : Nat) (w : World) (l : List Need) (v : Value) : Prop := SlOf (C_Need lo hi w) 3 lo hi w l v
theorem C_Need.keep {lo hi lo' hi' : Nat} {w w' : World} {d : Need} {cs : List Value} (h : C_Need lo hi w d cs) (hs : Same lo hi w w') (h1 : lo' ≤ lo) (h2 : hi ≤ hi') : C_Need lo' hi' w' d cs := by
  obtain ⟨v2, hc, a0, a1, a2⟩ := h
  exact ⟨v2, hc, a0, a1, a2.keep hs h1 h2⟩
theorem Sl_Need.keep {lo hi lo' hi' : Nat} {w w' : World} {l : List Need} {v : Value} (h : Sl_Need lo hi w l v) (hs : Same lo hi w w') (h1 : lo' ≤ lo) (h2 : hi ≤ hi') : Sl_Need lo' hi' w' l v := SlOf.keep h hs h1 h2 (fun _ _ _ h => C_Need.keep h hs h1 h2)
theorem Sl_Need.now {lo : Nat} {w w' : World} {l : List Need} {v : Value} (h : Sl_Need lo w.heap.size w l v) (hb : Below w.heap.size w w') : Sl_Need lo w'.heap.size w' l v := h.keep (same_below hb) (Nat.le_refl _) hb.size
theorem C_Need.now {lo : Nat} {w w' : World} {d : Need} {cs : List Value} (h : C_Need lo w.heap.size w d cs) (hb : Below w.heap.size w w') : C_Need lo w'.heap.size w' d cs := h.keep (same_below hb) (Nat.le_refl _) hb.size

structure Host where
  name : ByteArray
  labels : List Label
  cpu : Int
  mem : Int
  slots : Int
  taints : List Taint
def C_Host (lo hi : Nat) (w : World) (d : Host) (cs : List Value) : Prop := ∃ v1 v5, cs = [.string d.name, v1, .int .i64 d.cpu, .int .i64 d.mem, .int .i64 d.slots, v5] ∧ d.name.size ≤ 9223372036854775807 ∧ Sl_Label lo hi w d.labels v1 ∧ I64 d.cpu ∧ I64 d.mem ∧ I64 d.slots ∧ Sl_Taint lo hi w d.taints v5
abbrev Sl_Host (lo hi : Nat) (w : World) (l : List Host) (v : Value) : Prop := SlOf (C_Host lo hi w) 6 lo hi w l v
theorem C_Host.keep {lo hi lo' hi' : Nat} {w w' : World} {d : Host} {cs : List Value} (h : C_Host lo hi w d cs) (hs : Same lo hi w w') (h1 : lo' ≤ lo) (h2 : hi ≤ hi') : C_Host lo' hi' w' d cs := by
  obtain ⟨v1, v5, hc, a0, a1, a2, a3, a4, a5⟩ := h
  exact ⟨v1, v5, hc, a0, a1.keep hs h1 h2, a2, a3, a4, a5.keep hs h1 h2⟩
theorem Sl_Host.keep {lo hi lo' hi' : Nat} {w w' : World} {l : List Host} {v : Value} (h : Sl_Host lo hi w l v) (hs : Same lo hi w w') (h1 : lo' ≤ lo) (h2 : hi ≤ hi') : Sl_Host lo' hi' w' l v := SlOf.keep h hs h1 h2 (fun _ _ _ h => C_Host.keep h hs h1 h2)
theorem Sl_Host.now {lo : Nat} {w w' : World} {l : List Host} {v : Value} (h : Sl_Host lo w.heap.size w l v) (hb : Below w.heap.size w w') : Sl_Host lo w'.heap.size w' l v := h.keep (same_below hb) (Nat.le_refl _) hb.size
theorem C_Host.now {lo : Nat} {w w' : World} {d : Host} {cs : List Value} (h : C_Host lo w.heap.size w d cs) (hb : Below w.heap.size w w') : C_Host lo w'.heap.size w' d cs := h.keep (same_below hb) (Nat.le_refl _) hb.size

structure Pod where
  name : ByteArray
  labels : List Label
  cpu : Int
  mem : Int
  rank : Int
  needs : List Need
  tolerances : List Tolerance
def C_Pod (lo hi : Nat) (w : World) (d : Pod) (cs : List Value) : Prop := ∃ v1 v5 v6, cs = [.string d.name, v1, .int .i64 d.cpu, .int .i64 d.mem, .int .i64 d.rank, v5, v6] ∧ d.name.size ≤ 9223372036854775807 ∧ Sl_Label lo hi w d.labels v1 ∧ I64 d.cpu ∧ I64 d.mem ∧ I64 d.rank ∧ Sl_Need lo hi w d.needs v5 ∧ Sl_Tolerance lo hi w d.tolerances v6
abbrev Sl_Pod (lo hi : Nat) (w : World) (l : List Pod) (v : Value) : Prop := SlOf (C_Pod lo hi w) 7 lo hi w l v
theorem C_Pod.keep {lo hi lo' hi' : Nat} {w w' : World} {d : Pod} {cs : List Value} (h : C_Pod lo hi w d cs) (hs : Same lo hi w w') (h1 : lo' ≤ lo) (h2 : hi ≤ hi') : C_Pod lo' hi' w' d cs := by
  obtain ⟨v1, v5, v6, hc, a0, a1, a2, a3, a4, a5, a6⟩ := h
  exact ⟨v1, v5, v6, hc, a0, a1.keep hs h1 h2, a2, a3, a4, a5.keep hs h1 h2, a6.keep hs h1 h2⟩
theorem Sl_Pod.keep {lo hi lo' hi' : Nat} {w w' : World} {l : List Pod} {v : Value} (h : Sl_Pod lo hi w l v) (hs : Same lo hi w w') (h1 : lo' ≤ lo) (h2 : hi ≤ hi') : Sl_Pod lo' hi' w' l v := SlOf.keep h hs h1 h2 (fun _ _ _ h => C_Pod.keep h hs h1 h2)
theorem Sl_Pod.now {lo : Nat} {w w' : World} {l : List Pod} {v : Value} (h : Sl_Pod lo w.heap.size w l v) (hb : Below w.heap.size w w') : Sl_Pod lo w'.heap.size w' l v := h.keep (same_below hb) (Nat.le_refl _) hb.size
theorem C_Pod.now {lo : Nat} {w w' : World} {d : Pod} {cs : List Value} (h : C_Pod lo w.heap.size w d cs) (hb : Below w.heap.size w w') : C_Pod lo w'.heap.size w' d cs := h.keep (same_below hb) (Nat.le_refl _) hb.size


section
variable {H : Type} {enc : TypeId × Value → H} {w : World} {base : Nat} {spare : Nat → Bool} {held : Bool} {fuel : Nat} {cs : List Value} {x : DataW H × List MemPlace}
theorem o_Strs (h : DataW.trod enc Try.prog w base spare held fuel 94 cs = some x) : ∃ v l, cs = [v] ∧ Sl_Str 0 w.heap.size w l v :=
  slice_cells C_Str Try.underlying94 (by kernel_rfl) (by decide) h (fun _ _ _ h' => by
    obtain ⟨s, h1, h2⟩ := cell_str Try.underlying9 h'
    exact ⟨s, h1, h2⟩)
theorem o_Taint (h : DataW.trod enc Try.prog w base spare held fuel 73 cs = some x) : ∃ d, C_Taint d cs := by
  obtain ⟨hl, n, -, hf⟩ := struct_cells Try.underlying73 h
  rw [show Try.prog.cellsOf 73 = 3 from by kernel_rfl] at hl
  obtain ⟨c0, c1, c2, rfl⟩ := list3 hl
  have e0 : ∃ y, DataW.trod enc Try.prog w base spare held n 9 ((c0 :: [c1, c2]).take (Try.prog.cellsOf 9)) = some y := hf 0 _ rfl
  rw [take1 (show Try.prog.cellsOf 9 = 1 from by kernel_rfl)] at e0
  obtain ⟨y0, e0⟩ := e0
  have e1 : ∃ y, DataW.trod enc Try.prog w base spare held n 9 ((c1 :: [c2]).take (Try.prog.cellsOf 9)) = some y := hf 1 _ rfl
  rw [take1 (show Try.prog.cellsOf 9 = 1 from by kernel_rfl)] at e1
  obtain ⟨y1, e1⟩ := e1
  have e2 : ∃ y, DataW.trod enc Try.prog w base spare held n 3 ((c2 :: []).take (Try.prog.cellsOf 3)) = some y := hf 2 _ rfl
  rw [take1 (show Try.prog.cellsOf 3 = 1 from by kernel_rfl)] at e2
  obtain ⟨y2, e2⟩ := e2
  obtain ⟨d0, g0, b0⟩ := cell_str Try.underlying9 e0
  simp only [List.cons.injEq, and_true] at g0
  subst g0
  obtain ⟨d1, g1, b1⟩ := cell_str Try.underlying9 e1
  simp only [List.cons.injEq, and_true] at g1
  subst g1
  obtain ⟨d2, g2, b2⟩ := cell_int Try.underlying3 e2
  simp only [List.cons.injEq, and_true] at g2
  subst g2
  exact ⟨⟨d0, d1, d2⟩, rfl, b0, b1, b2⟩
theorem o_Taints (h : DataW.trod enc Try.prog w base spare held fuel 22 cs = some x) : ∃ v l, cs = [v] ∧ Sl_Taint 0 w.heap.size w l v :=
  slice_cells (C_Taint) Try.underlying22 (by kernel_rfl) (by decide) h (fun _ _ _ h' => o_Taint h')
theorem o_Tolerance (h : DataW.trod enc Try.prog w base spare held fuel 81 cs = some x) : ∃ d, C_Tolerance d cs := by
  obtain ⟨hl, n, -, hf⟩ := struct_cells Try.underlying81 h
  rw [show Try.prog.cellsOf 81 = 4 from by kernel_rfl] at hl
  obtain ⟨c0, c1, c2, c3, rfl⟩ := list4 hl
  have e0 : ∃ y, DataW.trod enc Try.prog w base spare held n 9 ((c0 :: [c1, c2, c3]).take (Try.prog.cellsOf 9)) = some y := hf 0 _ rfl
  rw [take1 (show Try.prog.cellsOf 9 = 1 from by kernel_rfl)] at e0
  obtain ⟨y0, e0⟩ := e0
  have e1 : ∃ y, DataW.trod enc Try.prog w base spare held n 4 ((c1 :: [c2, c3]).take (Try.prog.cellsOf 4)) = some y := hf 1 _ rfl
  rw [take1 (show Try.prog.cellsOf 4 = 1 from by kernel_rfl)] at e1
  obtain ⟨y1, e1⟩ := e1
  have e2 : ∃ y, DataW.trod enc Try.prog w base spare held n 9 ((c2 :: [c3]).take (Try.prog.cellsOf 9)) = some y := hf 2 _ rfl
  rw [take1 (show Try.prog.cellsOf 9 = 1 from by kernel_rfl)] at e2
  obtain ⟨y2, e2⟩ := e2
  have e3 : ∃ y, DataW.trod enc Try.prog w base spare held n 3 ((c3 :: []).take (Try.prog.cellsOf 3)) = some y := hf 3 _ rfl
  rw [take1 (show Try.prog.cellsOf 3 = 1 from by kernel_rfl)] at e3
  obtain ⟨y3, e3⟩ := e3
  obtain ⟨d0, g0, b0⟩ := cell_str Try.underlying9 e0
  simp only [List.cons.injEq, and_true] at g0
  subst g0
  obtain ⟨d1, g1⟩ := cell_bool Try.underlying4 e1
  simp only [List.cons.injEq, and_true] at g1
  subst g1
  obtain ⟨d2, g2, b2⟩ := cell_str Try.underlying9 e2
  simp only [List.cons.injEq, and_true] at g2
  subst g2
  obtain ⟨d3, g3, b3⟩ := cell_int Try.underlying3 e3
  simp only [List.cons.injEq, and_true] at g3
  subst g3
  exact ⟨⟨d0, d1, d2, d3⟩, rfl, b0, b2, b3⟩
theorem o_Tolerances (h : DataW.trod enc Try.prog w base spare held fuel 31 cs = some x) : ∃ v l, cs = [v] ∧ Sl_Tolerance 0 w.heap.size w l v :=
  slice_cells (C_Tolerance) Try.underlying31 (by kernel_rfl) (by decide) h (fun _ _ _ h' => o_Tolerance h')
theorem o_Label (h : DataW.trod enc Try.prog w base spare held fuel 141 cs = some x) : ∃ d, C_Label d cs := by
  obtain ⟨hl, n, -, hf⟩ := struct_cells Try.underlying141 h
  rw [show Try.prog.cellsOf 141 = 2 from by kernel_rfl] at hl
  obtain ⟨c0, c1, rfl⟩ := list2 hl
  have e0 : ∃ y, DataW.trod enc Try.prog w base spare held n 9 ((c0 :: [c1]).take (Try.prog.cellsOf 9)) = some y := hf 0 _ rfl
  rw [take1 (show Try.prog.cellsOf 9 = 1 from by kernel_rfl)] at e0
  obtain ⟨y0, e0⟩ := e0
  have e1 : ∃ y, DataW.trod enc Try.prog w base spare held n 9 ((c1 :: []).take (Try.prog.cellsOf 9)) = some y := hf 1 _ rfl
  rw [take1 (show Try.prog.cellsOf 9 = 1 from by kernel_rfl)] at e1
  obtain ⟨y1, e1⟩ := e1
  obtain ⟨d0, g0, b0⟩ := cell_str Try.underlying9 e0
  simp only [List.cons.injEq, and_true] at g0
  subst g0
  obtain ⟨d1, g1, b1⟩ := cell_str Try.underlying9 e1
  simp only [List.cons.injEq, and_true] at g1
  subst g1
  exact ⟨⟨d0, d1⟩, rfl, b0, b1⟩
theorem o_Labels (h : DataW.trod enc Try.prog w base spare held fuel 59 cs = some x) : ∃ v l, cs = [v] ∧ Sl_Label 0 w.heap.size w l v :=
  slice_cells (C_Label) Try.underlying59 (by kernel_rfl) (by decide) h (fun _ _ _ h' => o_Label h')
theorem o_Need (h : DataW.trod enc Try.prog w base spare held fuel 96 cs = some x) : ∃ d, C_Need 0 w.heap.size w d cs := by
  obtain ⟨hl, n, -, hf⟩ := struct_cells Try.underlying96 h
  rw [show Try.prog.cellsOf 96 = 3 from by kernel_rfl] at hl
  obtain ⟨c0, c1, c2, rfl⟩ := list3 hl
  have e0 : ∃ y, DataW.trod enc Try.prog w base spare held n 9 ((c0 :: [c1, c2]).take (Try.prog.cellsOf 9)) = some y := hf 0 _ rfl
  rw [take1 (show Try.prog.cellsOf 9 = 1 from by kernel_rfl)] at e0
  obtain ⟨y0, e0⟩ := e0
  have e1 : ∃ y, DataW.trod enc Try.prog w base spare held n 3 ((c1 :: [c2]).take (Try.prog.cellsOf 3)) = some y := hf 1 _ rfl
  rw [take1 (show Try.prog.cellsOf 3 = 1 from by kernel_rfl)] at e1
  obtain ⟨y1, e1⟩ := e1
  have e2 : ∃ y, DataW.trod enc Try.prog w base spare held n 94 ((c2 :: []).take (Try.prog.cellsOf 94)) = some y := hf 2 _ rfl
  rw [take1 (show Try.prog.cellsOf 94 = 1 from by kernel_rfl)] at e2
  obtain ⟨y2, e2⟩ := e2
  obtain ⟨d0, g0, b0⟩ := cell_str Try.underlying9 e0
  simp only [List.cons.injEq, and_true] at g0
  subst g0
  obtain ⟨d1, g1, b1⟩ := cell_int Try.underlying3 e1
  simp only [List.cons.injEq, and_true] at g1
  subst g1
  obtain ⟨u2, d2, g2, b2⟩ := o_Strs e2
  simp only [List.cons.injEq, and_true] at g2
  subst g2
  exact ⟨⟨d0, d1, d2⟩, _, rfl, b0, b1, b2⟩
theorem o_Needs (h : DataW.trod enc Try.prog w base spare held fuel 50 cs = some x) : ∃ v l, cs = [v] ∧ Sl_Need 0 w.heap.size w l v :=
  slice_cells (C_Need 0 w.heap.size w) Try.underlying50 (by kernel_rfl) (by decide) h (fun _ _ _ h' => o_Need h')
theorem o_Host (h : DataW.trod enc Try.prog w base spare held fuel 61 cs = some x) : ∃ d, C_Host 0 w.heap.size w d cs := by
  obtain ⟨hl, n, -, hf⟩ := struct_cells Try.underlying61 h
  rw [show Try.prog.cellsOf 61 = 6 from by kernel_rfl] at hl
  obtain ⟨c0, c1, c2, c3, c4, c5, rfl⟩ := list6 hl
  have e0 : ∃ y, DataW.trod enc Try.prog w base spare held n 9 ((c0 :: [c1, c2, c3, c4, c5]).take (Try.prog.cellsOf 9)) = some y := hf 0 _ rfl
  rw [take1 (show Try.prog.cellsOf 9 = 1 from by kernel_rfl)] at e0
  obtain ⟨y0, e0⟩ := e0
  have e1 : ∃ y, DataW.trod enc Try.prog w base spare held n 59 ((c1 :: [c2, c3, c4, c5]).take (Try.prog.cellsOf 59)) = some y := hf 1 _ rfl
  rw [take1 (show Try.prog.cellsOf 59 = 1 from by kernel_rfl)] at e1
  obtain ⟨y1, e1⟩ := e1
  have e2 : ∃ y, DataW.trod enc Try.prog w base spare held n 3 ((c2 :: [c3, c4, c5]).take (Try.prog.cellsOf 3)) = some y := hf 2 _ rfl
  rw [take1 (show Try.prog.cellsOf 3 = 1 from by kernel_rfl)] at e2
  obtain ⟨y2, e2⟩ := e2
  have e3 : ∃ y, DataW.trod enc Try.prog w base spare held n 3 ((c3 :: [c4, c5]).take (Try.prog.cellsOf 3)) = some y := hf 3 _ rfl
  rw [take1 (show Try.prog.cellsOf 3 = 1 from by kernel_rfl)] at e3
  obtain ⟨y3, e3⟩ := e3
  have e4 : ∃ y, DataW.trod enc Try.prog w base spare held n 3 ((c4 :: [c5]).take (Try.prog.cellsOf 3)) = some y := hf 4 _ rfl
  rw [take1 (show Try.prog.cellsOf 3 = 1 from by kernel_rfl)] at e4
  obtain ⟨y4, e4⟩ := e4
  have e5 : ∃ y, DataW.trod enc Try.prog w base spare held n 22 ((c5 :: []).take (Try.prog.cellsOf 22)) = some y := hf 5 _ rfl
  rw [take1 (show Try.prog.cellsOf 22 = 1 from by kernel_rfl)] at e5
  obtain ⟨y5, e5⟩ := e5
  obtain ⟨d0, g0, b0⟩ := cell_str Try.underlying9 e0
  simp only [List.cons.injEq, and_true] at g0
  subst g0
  obtain ⟨u1, d1, g1, b1⟩ := o_Labels e1
  simp only [List.cons.injEq, and_true] at g1
  subst g1
  obtain ⟨d2, g2, b2⟩ := cell_int Try.underlying3 e2
  simp only [List.cons.injEq, and_true] at g2
  subst g2
  obtain ⟨d3, g3, b3⟩ := cell_int Try.underlying3 e3
  simp only [List.cons.injEq, and_true] at g3
  subst g3
  obtain ⟨d4, g4, b4⟩ := cell_int Try.underlying3 e4
  simp only [List.cons.injEq, and_true] at g4
  subst g4
  obtain ⟨u5, d5, g5, b5⟩ := o_Taints e5
  simp only [List.cons.injEq, and_true] at g5
  subst g5
  exact ⟨⟨d0, d1, d2, d3, d4, d5⟩, _, _, rfl, b0, b1, b2, b3, b4, b5⟩
variable {r : Reach} {b0 : Nat} {v : Value} {d : DataW H} {p : List MemPlace}
def R_Str (_w : World) (s : ByteArray) (v : Value) : Prop := v = .string s ∧ s.size ≤ 9223372036854775807
def R_Int (_w : World) (n : Int) (v : Value) : Prop := v = .int .i64 n ∧ I64 n
def R_Bool (_w : World) (b : Bool) (v : Value) : Prop := v = .bool b
set_option maxRecDepth 100000 in
theorem r_Str (hv : Value.okWide Try.prog w r b0 9 v) (h : DataW.Trod enc Try.prog w base spare held 9 v d p) : ∃ x, R_Str w x v := by
  obtain ⟨s, rfl, _, _, hs⟩ := Go.ChangeMaps.open_string Try.underlying9 hv h
  exact ⟨s, rfl, by unfold maxLen at hs; omega⟩
set_option maxRecDepth 100000 in
theorem r_Int (hv : Value.okWide Try.prog w r b0 3 v) (h : DataW.Trod enc Try.prog w base spare held 3 v d p) : ∃ x, R_Int w x v := by
  obtain ⟨s, rfl, _, _, hs⟩ := open_int Try.underlying3 hv h
  exact ⟨s, rfl, int_bounds hs⟩
set_option maxRecDepth 100000 in
theorem r_Bool (hv : Value.okWide Try.prog w r b0 4 v) (h : DataW.Trod enc Try.prog w base spare held 4 v d p) : ∃ x, R_Bool w x v := by
  obtain ⟨s, rfl, _, _⟩ := open_bool Try.underlying4 hv h
  exact ⟨s, rfl⟩
abbrev R_Strs (w : World) (l : List ByteArray) (v : Value) : Prop := Sl_Str 0 w.heap.size w l v
set_option maxRecDepth 100000 in
theorem r_Strs (hv : Value.okWide Try.prog w r b0 94 v) (h : DataW.Trod enc Try.prog w base spare held 94 v d p) : ∃ x, R_Strs w x v := by
  obtain ⟨a, len, cap, rfl⟩ := okWide_slice Try.underlying94 hv
  obtain ⟨fuel, hf⟩ := h
  obtain ⟨v', l, he, hs⟩ := o_Strs hf
  simp [Value.cells] at he
  subst he
  exact ⟨l, hs⟩
def R_Taint (_w : World) (d : Taint) (v : Value) : Prop := ∃ cs, v = .agg cs.toArray ∧ C_Taint d cs
abbrev R_Taints (w : World) (l : List Taint) (v : Value) : Prop := Sl_Taint 0 w.heap.size w l v
set_option maxRecDepth 100000 in
theorem r_Taint (hv : Value.okWide Try.prog w r b0 73 v) (h : DataW.Trod enc Try.prog w base spare held 73 v d p) : ∃ x, R_Taint w x v := by
  obtain ⟨cs, rfl, _⟩ := okWide_struct Try.underlying73 hv
  obtain ⟨fuel, hf⟩ := h
  obtain ⟨x, hx⟩ := o_Taint hf
  exact ⟨x, cs.toList, by simp, hx⟩
set_option maxRecDepth 100000 in
theorem r_Taints (hv : Value.okWide Try.prog w r b0 22 v) (h : DataW.Trod enc Try.prog w base spare held 22 v d p) : ∃ x, R_Taints w x v := by
  obtain ⟨a, len, cap, rfl⟩ := okWide_slice Try.underlying22 hv
  obtain ⟨fuel, hf⟩ := h
  obtain ⟨v', l, he, hs⟩ := o_Taints hf
  simp [Value.cells] at he
  subst he
  exact ⟨l, hs⟩
def R_Tolerance (_w : World) (d : Tolerance) (v : Value) : Prop := ∃ cs, v = .agg cs.toArray ∧ C_Tolerance d cs
abbrev R_Tolerances (w : World) (l : List Tolerance) (v : Value) : Prop := Sl_Tolerance 0 w.heap.size w l v
set_option maxRecDepth 100000 in
theorem r_Tolerance (hv : Value.okWide Try.prog w r b0 81 v) (h : DataW.Trod enc Try.prog w base spare held 81 v d p) : ∃ x, R_Tolerance w x v := by
  obtain ⟨cs, rfl, _⟩ := okWide_struct Try.underlying81 hv
  obtain ⟨fuel, hf⟩ := h
  obtain ⟨x, hx⟩ := o_Tolerance hf
  exact ⟨x, cs.toList, by simp, hx⟩
set_option maxRecDepth 100000 in
theorem r_Tolerances (hv : Value.okWide Try.prog w r b0 31 v) (h : DataW.Trod enc Try.prog w base spare held 31 v d p) : ∃ x, R_Tolerances w x v := by
  obtain ⟨a, len, cap, rfl⟩ := okWide_slice Try.underlying31 hv
  obtain ⟨fuel, hf⟩ := h
  obtain ⟨v', l, he, hs⟩ := o_Tolerances hf
  simp [Value.cells] at he
  subst he
  exact ⟨l, hs⟩
def R_Label (_w : World) (d : Label) (v : Value) : Prop := ∃ cs, v = .agg cs.toArray ∧ C_Label d cs
abbrev R_Labels (w : World) (l : List Label) (v : Value) : Prop := Sl_Label 0 w.heap.size w l v
set_option maxRecDepth 100000 in
theorem r_Label (hv : Value.okWide Try.prog w r b0 141 v) (h : DataW.Trod enc Try.prog w base spare held 141 v d p) : ∃ x, R_Label w x v := by
  obtain ⟨cs, rfl, _⟩ := okWide_struct Try.underlying141 hv
  obtain ⟨fuel, hf⟩ := h
  obtain ⟨x, hx⟩ := o_Label hf
  exact ⟨x, cs.toList, by simp, hx⟩
set_option maxRecDepth 100000 in
theorem r_Labels (hv : Value.okWide Try.prog w r b0 59 v) (h : DataW.Trod enc Try.prog w base spare held 59 v d p) : ∃ x, R_Labels w x v := by
  obtain ⟨a, len, cap, rfl⟩ := okWide_slice Try.underlying59 hv
  obtain ⟨fuel, hf⟩ := h
  obtain ⟨v', l, he, hs⟩ := o_Labels hf
  simp [Value.cells] at he
  subst he
  exact ⟨l, hs⟩
def R_Need (w : World) (d : Need) (v : Value) : Prop := ∃ cs, v = .agg cs.toArray ∧ C_Need 0 w.heap.size w d cs
abbrev R_Needs (w : World) (l : List Need) (v : Value) : Prop := Sl_Need 0 w.heap.size w l v
set_option maxRecDepth 100000 in
theorem r_Need (hv : Value.okWide Try.prog w r b0 96 v) (h : DataW.Trod enc Try.prog w base spare held 96 v d p) : ∃ x, R_Need w x v := by
  obtain ⟨cs, rfl, _⟩ := okWide_struct Try.underlying96 hv
  obtain ⟨fuel, hf⟩ := h
  obtain ⟨x, hx⟩ := o_Need hf
  exact ⟨x, cs.toList, by simp, hx⟩
set_option maxRecDepth 100000 in
theorem r_Needs (hv : Value.okWide Try.prog w r b0 50 v) (h : DataW.Trod enc Try.prog w base spare held 50 v d p) : ∃ x, R_Needs w x v := by
  obtain ⟨a, len, cap, rfl⟩ := okWide_slice Try.underlying50 hv
  obtain ⟨fuel, hf⟩ := h
  obtain ⟨v', l, he, hs⟩ := o_Needs hf
  simp [Value.cells] at he
  subst he
  exact ⟨l, hs⟩
def R_Host (w : World) (d : Host) (v : Value) : Prop := ∃ cs, v = .agg cs.toArray ∧ C_Host 0 w.heap.size w d cs
abbrev R_Hosts (w : World) (l : List Host) (v : Value) : Prop := Sl_Host 0 w.heap.size w l v
set_option maxRecDepth 100000 in
theorem r_Host (hv : Value.okWide Try.prog w r b0 61 v) (h : DataW.Trod enc Try.prog w base spare held 61 v d p) : ∃ x, R_Host w x v := by
  obtain ⟨cs, rfl, _⟩ := okWide_struct Try.underlying61 hv
  obtain ⟨fuel, hf⟩ := h
  obtain ⟨x, hx⟩ := o_Host hf
  exact ⟨x, cs.toList, by simp, hx⟩
def R_Pod (w : World) (d : Pod) (v : Value) : Prop := ∃ cs, v = .agg cs.toArray ∧ C_Pod 0 w.heap.size w d cs
abbrev R_Pods (w : World) (l : List Pod) (v : Value) : Prop := Sl_Pod 0 w.heap.size w l v
end
end Go.Proofs.Ytmhlnbihppojmaa
