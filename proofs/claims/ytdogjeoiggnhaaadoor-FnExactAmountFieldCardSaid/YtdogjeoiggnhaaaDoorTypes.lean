/- The program's structs as data: structures, what their cells hold, and how an argument is opened. No conditions. Written by wip/tools/gentypes.py. -/
import Derived.Test.YtdogjeoiggnhaaaDoorMem
import Derived.RowKit
namespace Go.Proofs.YtdogjeoiggnhaaaDoor
open Go.RowKit Go.ChangeShapes Go.WideShapes Go.Deep

structure Taint where
  key : ByteArray
  value : ByteArray
  effect : Int
def C_Taint (d : Taint) (cs : List Value) : Prop := cs = [.string d.key, .string d.value, .int .i64 d.effect] ∧ d.key.size ≤ 9223372036854775807 ∧ d.value.size ≤ 9223372036854775807 ∧ I64 d.effect
abbrev Sl_Taint (lo hi : Nat) (w : World) (l : List Taint) (v : Value) : Prop := SlOf (C_Taint) 3 lo hi w l v
theorem Sl_Taint.keep {lo hi lo' hi' : Nat} {w w' : World} {l : List Taint} {v : Value} (h : Sl_Taint lo hi w l v) (hs : Same lo hi w w') (h1 : lo' ≤ lo) (h2 : hi ≤ hi') : Sl_Taint lo' hi' w' l v := SlOf.keep h hs h1 h2 (fun _ _ _ h => h)
theorem Sl_Taint.now {lo : Nat} {w w' : World} {l : List Taint} {v : Value} (h : Sl_Taint lo w.heap.size w l v) (hb : Below w.heap.size w w') : Sl_Taint lo w'.heap.size w' l v := h.keep (same_below hb) (Nat.le_refl _) hb.size

structure Tolerance where
  key : ByteArray
  equal : Bool
  value : ByteArray
  effect : Int
def C_Tolerance (d : Tolerance) (cs : List Value) : Prop := cs = [.string d.key, .bool d.equal, .string d.value, .int .i64 d.effect] ∧ d.key.size ≤ 9223372036854775807 ∧ d.value.size ≤ 9223372036854775807 ∧ I64 d.effect
abbrev Sl_Tolerance (lo hi : Nat) (w : World) (l : List Tolerance) (v : Value) : Prop := SlOf (C_Tolerance) 4 lo hi w l v
theorem Sl_Tolerance.keep {lo hi lo' hi' : Nat} {w w' : World} {l : List Tolerance} {v : Value} (h : Sl_Tolerance lo hi w l v) (hs : Same lo hi w w') (h1 : lo' ≤ lo) (h2 : hi ≤ hi') : Sl_Tolerance lo' hi' w' l v := SlOf.keep h hs h1 h2 (fun _ _ _ h => h)
theorem Sl_Tolerance.now {lo : Nat} {w w' : World} {l : List Tolerance} {v : Value} (h : Sl_Tolerance lo w.heap.size w l v) (hb : Below w.heap.size w w') : Sl_Tolerance lo w'.heap.size w' l v := h.keep (same_below hb) (Nat.le_refl _) hb.size

structure Label where
  key : ByteArray
  value : ByteArray
def C_Label (d : Label) (cs : List Value) : Prop := cs = [.string d.key, .string d.value] ∧ d.key.size ≤ 9223372036854775807 ∧ d.value.size ≤ 9223372036854775807
abbrev Sl_Label (lo hi : Nat) (w : World) (l : List Label) (v : Value) : Prop := SlOf (C_Label) 2 lo hi w l v
theorem Sl_Label.keep {lo hi lo' hi' : Nat} {w w' : World} {l : List Label} {v : Value} (h : Sl_Label lo hi w l v) (hs : Same lo hi w w') (h1 : lo' ≤ lo) (h2 : hi ≤ hi') : Sl_Label lo' hi' w' l v := SlOf.keep h hs h1 h2 (fun _ _ _ h => h)
theorem Sl_Label.now {lo : Nat} {w w' : World} {l : List Label} {v : Value} (h : Sl_Label lo w.heap.size w l v) (hb : Below w.heap.size w w') : Sl_Label lo w'.heap.size w' l v := h.keep (same_below hb) (Nat.le_refl _) hb.size

structure Need where
  key : ByteArray
  op : Int
  values : List ByteArray
def C_Need (lo hi : Nat) (w : World) (d : Need) (cs : List Value) : Prop := ∃ v2, cs = [.string d.key, .int .i64 d.op, v2] ∧ d.key.size ≤ 9223372036854775807 ∧ I64 d.op ∧ Sl_Str lo hi w d.values v2
abbrev Sl_Need (lo hi : Nat) (w : World) (l : List Need) (v : Value) : Prop := SlOf (C_Need lo hi w) 3 lo hi w l v
theorem C_Need.keep {lo hi lo' hi' : Nat} {w w' : World} {d : Need} {cs : List Value} (h : C_Need lo hi w d cs) (hs : Same lo hi w w') (h1 : lo' ≤ lo) (h2 : hi ≤ hi') : C_Need lo' hi' w' d cs := by
  obtain ⟨v2, hc, a0, a1, a2⟩ := h
  exact ⟨v2, hc, a0, a1, a2.keep hs h1 h2⟩
theorem Sl_Need.keep {lo hi lo' hi' : Nat} {w w' : World} {l : List Need} {v : Value} (h : Sl_Need lo hi w l v) (hs : Same lo hi w w') (h1 : lo' ≤ lo) (h2 : hi ≤ hi') : Sl_Need lo' hi' w' l v := SlOf.keep h hs h1 h2 (fun _ _ _ h => C_Need.keep h hs h1 h2)
theorem Sl_Need.now {lo : Nat} {w w' : World} {l : List Need} {v : Value} (h : Sl_Need lo w.heap.size w l v) (hb : Below w.heap.size w w') : Sl_Need lo w'.heap.size w' l v := h.keep (same_below hb) (Nat.le_refl _) hb.size
theorem C_Need.now {lo : Nat} {w w' : World} {d : Need} {cs : List Value} (h : C_Need lo w.heap.size w d cs) (hb : Below w.heap.size w w') : C_Need lo w'.heap.size w' d cs := h.keep (same_below hb) (Nat.le_refl _) hb.size

structure Host where
  name : ByteArray
  labels : List Label
  cpu : Int
  mem : Int
  slots : Int
  taints : List Taint
def C_Host (lo hi : Nat) (w : World) (d : Host) (cs : List Value) : Prop := ∃ v1 v5, cs = [.string d.name, v1, .int .i64 d.cpu, .int .i64 d.mem, .int .i64 d.slots, v5] ∧ d.name.size ≤ 9223372036854775807 ∧ Sl_Label lo hi w d.labels v1 ∧ I64 d.cpu ∧ I64 d.mem ∧ I64 d.slots ∧ Sl_Taint lo hi w d.taints v5
abbrev Sl_Host (lo hi : Nat) (w : World) (l : List Host) (v : Value) : Prop := SlOf (C_Host lo hi w) 6 lo hi w l v
theorem C_Host.keep {lo hi lo' hi' : Nat} {w w' : World} {d : Host} {cs : List Value} (h : C_Host lo hi w d cs) (hs : Same lo hi w w') (h1 : lo' ≤ lo) (h2 : hi ≤ hi') : C_Host lo' hi' w' d cs := by
  obtain ⟨v1, v5, hc, a0, a1, a2, a3, a4, a5⟩ := h
  exact ⟨v1, v5, hc, a0, a1.keep hs h1 h2, a2, a3, a4, a5.keep hs h1 h2⟩
theorem Sl_Host.keep {lo hi lo' hi' : Nat} {w w' : World} {l : List Host} {v : Value} (h : Sl_Host lo hi w l v) (hs : Same lo hi w w') (h1 : lo' ≤ lo) (h2 : hi ≤ hi') : Sl_Host lo' hi' w' l v := SlOf.keep h hs h1 h2 (fun _ _ _ h => C_Host.keep h hs h1 h2)
theorem Sl_Host.now {lo : Nat} {w w' : World} {l : List Host} {v : Value} (h : Sl_Host lo w.heap.size w l v) (hb : Below w.heap.size w w') : Sl_Host lo w'.heap.size w' l v := h.keep (same_below hb) (Nat.le_refl _) hb.size
theorem C_Host.now {lo : Nat} {w w' : World} {d : Host} {cs : List Value} (h : C_Host lo w.heap.size w d cs) (hb : Below w.heap.size w w') : C_Host lo w'.heap.size w' d cs := h.keep (same_below hb) (Nat.le_refl _) hb.size

structure Pod where
  name : ByteArray
  labels : List Label
  cpu : Int
  mem : Int
  rank : Int
  needs : List Need
  tolerances : List Tolerance
def C_Pod (lo hi : Nat) (w : World) (d : Pod) (cs : List Value) : Prop := ∃ v1 v5 v6, cs = [.string d.name, v1, .int .i64 d.cpu, .int .i64 d.mem, .int .i64 d.rank, v5, v6] ∧ d.name.size ≤ 9223372036854775807 ∧ Sl_Label lo hi w d.labels v1 ∧ I64 d.cpu ∧ I64 d.mem ∧ I64 d.rank ∧ Sl_Need lo hi w d.needs v5 ∧ Sl_Tolerance lo hi w d.tolerances v6
abbrev Sl_Pod (lo hi : Nat) (w : World) (l : List Pod) (v : Value) : Prop := SlOf (C_Pod lo hi w) 7 lo hi w l v
theorem C_Pod.keep {lo hi lo' hi' : Nat} {w w' : World} {d : Pod} {cs : List Value} (h : C_Pod lo hi w d cs) (hs : Same lo hi w w') (h1 : lo' ≤ lo) (h2 : hi ≤ hi') : C_Pod lo' hi' w' d cs := by
  obtain ⟨v1, v5, v6, hc, a0, a1, a2, a3, a4, a5, a6⟩ := h
  exact ⟨v1, v5, v6, hc, a0, a1.keep hs h1 h2, a2, a3, a4, a5.keep hs h1 h2, a6.keep hs h1 h2⟩
theorem Sl_Pod.keep {lo hi lo' hi' : Nat} {w w' : World} {l : List Pod} {v : Value} (h : Sl_Pod lo hi w l v) (hs : Same lo hi w w') (h1 : lo' ≤ lo) (h2 : hi ≤ hi') : Sl_Pod lo' hi' w' l v := SlOf.keep h hs h1 h2 (fun _ _ _ h => C_Pod.keep h hs h1 h2)
theorem Sl_Pod.now {lo : Nat} {w w' : World} {l : List Pod} {v : Value} (h : Sl_Pod lo w.heap.size w l v) (hb : Below w.heap.size w w') : Sl_Pod lo w'.heap.size w' l v := h.keep (same_below hb) (Nat.le_refl _) hb.size
theorem C_Pod.now {lo : Nat} {w w' : World} {d : Pod} {cs : List Value} (h : C_Pod lo w.heap.size w d cs) (hb : Below w.heap.size w w') : C_Pod lo w'.heap.size w' d cs := h.keep (same_below hb) (Nat.le_refl _) hb.size


section
variable {H : Type} {enc : TypeId × Value → H} {w : World} {base : Nat} {spare : Nat → Bool} {held : Bool} {fuel : Nat} {cs : List Value} {x : DataW H × List MemPlace}
theorem o_Strs (h : DataW.trod enc Tryd.prog w base spare held fuel 22 cs = some x) : ∃ v l, cs = [v] ∧ Sl_Str 0 w.heap.size w l v :=
  slice_cells C_Str Tryd.underlying22 (by kernel_rfl) (by decide) h (fun _ _ _ h' => by
    obtain ⟨s, h1, h2⟩ := cell_str Tryd.underlying9 h'
    exact ⟨s, h1, h2⟩)
variable {r : Reach} {b0 : Nat} {v : Value} {d : DataW H} {p : List MemPlace}
def R_Str (_w : World) (s : ByteArray) (v : Value) : Prop := v = .string s ∧ s.size ≤ 9223372036854775807
def R_Int (_w : World) (n : Int) (v : Value) : Prop := v = .int .i64 n ∧ I64 n
def R_Bool (_w : World) (b : Bool) (v : Value) : Prop := v = .bool b
set_option maxRecDepth 100000 in
theorem r_Str (hv : Value.okWide Tryd.prog w r b0 9 v) (h : DataW.Trod enc Tryd.prog w base spare held 9 v d p) : ∃ x, R_Str w x v := by
  obtain ⟨s, rfl, _, _, hs⟩ := Go.ChangeMaps.open_string Tryd.underlying9 hv h
  exact ⟨s, rfl, by unfold maxLen at hs; omega⟩
set_option maxRecDepth 100000 in
theorem r_Int (hv : Value.okWide Tryd.prog w r b0 3 v) (h : DataW.Trod enc Tryd.prog w base spare held 3 v d p) : ∃ x, R_Int w x v := by
  obtain ⟨s, rfl, _, _, hs⟩ := open_int Tryd.underlying3 hv h
  exact ⟨s, rfl, int_bounds hs⟩
set_option maxRecDepth 100000 in
theorem r_Bool (hv : Value.okWide Tryd.prog w r b0 4 v) (h : DataW.Trod enc Tryd.prog w base spare held 4 v d p) : ∃ x, R_Bool w x v := by
  obtain ⟨s, rfl, _, _⟩ := open_bool Tryd.underlying4 hv h
  exact ⟨s, rfl⟩
abbrev R_Strs (w : World) (l : List ByteArray) (v : Value) : Prop := Sl_Str 0 w.heap.size w l v
set_option maxRecDepth 100000 in
theorem r_Strs (hv : Value.okWide Tryd.prog w r b0 22 v) (h : DataW.Trod enc Tryd.prog w base spare held 22 v d p) : ∃ x, R_Strs w x v := by
  obtain ⟨a, len, cap, rfl⟩ := okWide_slice Tryd.underlying22 hv
  obtain ⟨fuel, hf⟩ := h
  obtain ⟨v', l, he, hs⟩ := o_Strs hf
  simp [Value.cells] at he
  subst he
  exact ⟨l, hs⟩
def R_Taint (_w : World) (d : Taint) (v : Value) : Prop := ∃ cs, v = .agg cs.toArray ∧ C_Taint d cs
abbrev R_Taints (w : World) (l : List Taint) (v : Value) : Prop := Sl_Taint 0 w.heap.size w l v
def R_Tolerance (_w : World) (d : Tolerance) (v : Value) : Prop := ∃ cs, v = .agg cs.toArray ∧ C_Tolerance d cs
abbrev R_Tolerances (w : World) (l : List Tolerance) (v : Value) : Prop := Sl_Tolerance 0 w.heap.size w l v
def R_Label (_w : World) (d : Label) (v : Value) : Prop := ∃ cs, v = .agg cs.toArray ∧ C_Label d cs
abbrev R_Labels (w : World) (l : List Label) (v : Value) : Prop := Sl_Label 0 w.heap.size w l v
def R_Need (w : World) (d : Need) (v : Value) : Prop := ∃ cs, v = .agg cs.toArray ∧ C_Need 0 w.heap.size w d cs
abbrev R_Needs (w : World) (l : List Need) (v : Value) : Prop := Sl_Need 0 w.heap.size w l v
def R_Host (w : World) (d : Host) (v : Value) : Prop := ∃ cs, v = .agg cs.toArray ∧ C_Host 0 w.heap.size w d cs
abbrev R_Hosts (w : World) (l : List Host) (v : Value) : Prop := Sl_Host 0 w.heap.size w l v
def R_Pod (w : World) (d : Pod) (v : Value) : Prop := ∃ cs, v = .agg cs.toArray ∧ C_Pod 0 w.heap.size w d cs
abbrev R_Pods (w : World) (l : List Pod) (v : Value) : Prop := Sl_Pod 0 w.heap.size w l v
end
end Go.Proofs.YtdogjeoiggnhaaaDoor
