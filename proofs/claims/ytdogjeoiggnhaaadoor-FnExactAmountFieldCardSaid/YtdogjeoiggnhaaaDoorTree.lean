/- Trees as data: what a tree's cells hold, to a given height; how an argument is opened. No conditions. -/
import Derived.Test.YtdogjeoiggnhaaaDoorStrs
namespace Go.Proofs.YtdogjeoiggnhaaaDoor
open Go.RowKit Go.ChangeShapes Go.WideShapes Go.Deep

structure TreeD where
  kind : Int
  flag : Bool
  num : Int
  text : ByteArray
  keys : List ByteArray
  kids : List TreeD

/-- The cells cs hold the tree d, whose height is at most n. -/
def C_Tree : Nat → Nat → Nat → World → TreeD → List Value → Prop
  | 0, _, _, _, _, _ => False
  | n + 1, lo, hi, w, d, cs => ∃ v4 v5, cs = [.int .i64 d.kind, .bool d.flag, .int .i64 d.num, .string d.text, v4, v5] ∧ I64 d.kind ∧ I64 d.num ∧ d.text.size ≤ 9223372036854775807 ∧ Sl_Str lo hi w d.keys v4 ∧ SlOf (C_Tree n lo hi w) 6 lo hi w d.kids v5
abbrev Sl_Tree (n lo hi : Nat) (w : World) (l : List TreeD) (v : Value) : Prop := SlOf (C_Tree n lo hi w) 6 lo hi w l v
theorem C_Tree.out {n lo hi : Nat} {w : World} {d : TreeD} {cs : List Value} (h : C_Tree (n + 1) lo hi w d cs) : ∃ v4 v5, cs = [.int .i64 d.kind, .bool d.flag, .int .i64 d.num, .string d.text, v4, v5] ∧ I64 d.kind ∧ I64 d.num ∧ d.text.size ≤ 9223372036854775807 ∧ Sl_Str lo hi w d.keys v4 ∧ Sl_Tree n lo hi w d.kids v5 := h
theorem C_Tree.into {n lo hi : Nat} {w : World} {d : TreeD} {cs : List Value} (h : ∃ v4 v5, cs = [.int .i64 d.kind, .bool d.flag, .int .i64 d.num, .string d.text, v4, v5] ∧ I64 d.kind ∧ I64 d.num ∧ d.text.size ≤ 9223372036854775807 ∧ Sl_Str lo hi w d.keys v4 ∧ Sl_Tree n lo hi w d.kids v5) : C_Tree (n + 1) lo hi w d cs := h
theorem C_Tree.none {lo hi : Nat} {w : World} {d : TreeD} {cs : List Value} (h : C_Tree 0 lo hi w d cs) : False := h
theorem C_Tree.any {n lo hi : Nat} {w : World} {d : TreeD} {cs : List Value} (h : C_Tree n lo hi w d cs) : ∃ m, n = m + 1 := by
  cases n with
  | zero => exact h.none.elim
  | succ m => exact ⟨m, rfl⟩
theorem C_Tree.open {n lo hi : Nat} {w : World} {d : TreeD} {cs : List Value} (h : C_Tree n lo hi w d cs) : ∃ A4 c4 A5 c5, cs = [.int .i64 d.kind, .bool d.flag, .int .i64 d.num, .string d.text, .slice A4 d.keys.length c4, .slice A5 d.kids.length c5] := by
  obtain ⟨m, rfl⟩ := h.any
  obtain ⟨v4, v5, rfl, a0, a2, a3, a4, a5⟩ := h.out
  obtain ⟨A4, c4, rfl⟩ := a4.form
  obtain ⟨A5, c5, rfl⟩ := a5.form
  exact ⟨A4, c4, A5, c5, rfl⟩
theorem C_Tree.flat {n lo hi : Nat} {w : World} {d : TreeD} {cs : List Value} (h : C_Tree n lo hi w d cs) : ∃ A4 c4 A5 c5, cs = [.int .i64 d.kind, .bool d.flag, .int .i64 d.num, .string d.text, .slice A4 d.keys.length c4, .slice A5 d.kids.length c5] ∧ I64 d.kind ∧ I64 d.num ∧ d.text.size ≤ 9223372036854775807 := by
  obtain ⟨m, rfl⟩ := h.any
  obtain ⟨v4, v5, rfl, a0, a2, a3, a4, a5⟩ := h.out
  obtain ⟨A4, c4, rfl⟩ := a4.form
  obtain ⟨A5, c5, rfl⟩ := a5.form
  exact ⟨A4, c4, A5, c5, rfl, a0, a2, a3⟩
theorem C_Tree.keep : ∀ {n lo hi lo' hi' : Nat} {w w' : World} {d : TreeD} {cs : List Value}, C_Tree n lo hi w d cs → Same lo hi w w' → lo' ≤ lo → hi ≤ hi' → C_Tree n lo' hi' w' d cs
  | 0, _, _, _, _, _, _, _, _, h, _, _, _ => h.none.elim
  | n + 1, _, _, _, _, _, _, _, _, h, hs, h1, h2 => by
    obtain ⟨v4, v5, rfl, a0, a2, a3, a4, a5⟩ := h.out
    exact C_Tree.into ⟨v4, v5, rfl, a0, a2, a3, a4.keep hs h1 h2, SlOf.keep a5 hs h1 h2 (fun _ _ _ h => C_Tree.keep h hs h1 h2)⟩
theorem C_Tree.up : ∀ {n m lo hi : Nat} {w : World} {d : TreeD} {cs : List Value}, C_Tree n lo hi w d cs → n ≤ m → C_Tree m lo hi w d cs
  | 0, _, _, _, _, _, _, h, _ => h.none.elim
  | n + 1, 0, _, _, _, _, _, _, hm => absurd hm (by omega)
  | n + 1, m + 1, _, _, _, _, _, h, hm => by
    obtain ⟨v4, v5, rfl, a0, a2, a3, a4, a5⟩ := h.out
    exact C_Tree.into ⟨v4, v5, rfl, a0, a2, a3, a4, SlOf.keep a5 (Same.refl _ _ _) (Nat.le_refl _) (Nat.le_refl _) (fun _ _ _ h => C_Tree.up h (by omega))⟩
theorem C_Tree.now {n lo : Nat} {w w' : World} {d : TreeD} {cs : List Value} (h : C_Tree n lo w.heap.size w d cs) (hb : Below w.heap.size w w') : C_Tree n lo w'.heap.size w' d cs := h.keep (same_below hb) (Nat.le_refl _) hb.size
theorem Sl_Tree.keep {n lo hi lo' hi' : Nat} {w w' : World} {l : List TreeD} {v : Value} (h : Sl_Tree n lo hi w l v) (hs : Same lo hi w w') (h1 : lo' ≤ lo) (h2 : hi ≤ hi') : Sl_Tree n lo' hi' w' l v := SlOf.keep h hs h1 h2 (fun _ _ _ h => C_Tree.keep h hs h1 h2)
theorem Sl_Tree.now {n lo : Nat} {w w' : World} {l : List TreeD} {v : Value} (h : Sl_Tree n lo w.heap.size w l v) (hb : Below w.heap.size w w') : Sl_Tree n lo w'.heap.size w' l v := h.keep (same_below hb) (Nat.le_refl _) hb.size

/-- The size by which the laws measure a tree. -/
def nTree : Nat → TreeD → Nat
  | 0, _ => 0
  | n + 1, d => d.text.size + nL ByteArray.size d.keys + nL (nTree n) d.kids
theorem nTree_succ (n : Nat) (d : TreeD) : nTree (n + 1) d = d.text.size + nL ByteArray.size d.keys + nL (nTree n) d.kids := rfl

section
variable {H : Type} {enc : TypeId × Value → H} {w : World} {base : Nat} {spare : Nat → Bool} {held : Bool}
theorem slice_cells_at {P : Program} {t e : TypeId} {fuel size : Nat} {cs : List Value} {x : DataW H × List MemPlace} {D : Type} (C : D → List Value → Prop) (ht : P.underlying t = some (.slice e)) (hsz : P.cellsOf e = size) (hpos : 0 < size)
    (h : DataW.trod enc P w base spare held fuel t cs = some x)
    (hC : ∀ n cs' y, n < fuel → DataW.trod enc P w base spare held n e cs' = some y → ∃ d, C d cs') :
    ∃ v l, cs = [v] ∧ SlOf C size 0 w.heap.size w l v := by
  rcases DataW.trod_slice ht h with ⟨hcs, _⟩ | ⟨a, len, cap, elems, rest, n, hf, hcs, _, _, hl, hm, hlen, hi, _, _⟩
  · exact ⟨_, [], hcs, none, 0, rfl, by simp, by simp, fun h => by simp at h⟩
  · obtain ⟨l, hll, hP⟩ := choose_list len (fun i d => ∃ cs', w.cells? base (a.add (i * size)) size = some cs' ∧ C d cs') (fun i hlt => by
      have h1 := hi i (by omega)
      rw [hsz, List.getElem?_eq_getElem (by omega)] at h1
      obtain ⟨cs', h2, h3⟩ := Option.bind_eq_some_iff.1 h1
      obtain ⟨d, hd⟩ := hC n cs' _ (by omega) h3
      exact ⟨d, cs', h2, hd⟩)
    refine ⟨_, l, hcs, some a, cap, by rw [hll], by omega, by unfold maxLen at hm; omega, fun hp => ?_⟩
    have hget : ∀ i d, l[i]? = some d → ∃ cs', w.cells? base (a.add (i * size)) size = some cs' ∧ C d cs' := hP
    have hspot : a.spot = none := by
      obtain ⟨d0, h0⟩ : ∃ d, l[0]? = some d := ⟨l[0], List.getElem?_eq_getElem hp⟩
      obtain ⟨cs', h1, _⟩ := hget 0 d0 h0
      obtain ⟨_, hlen, hat⟩ := World.cells?_some h1
      have := hat (i := 0) (by omega)
      rw [Go.Deep.add_add] at this
      have hh := spot_none (this.trans (List.getElem?_eq_getElem (by omega)))
      simpa [Addr.add] using hh
    obtain ⟨b, o, s⟩ := a
    simp at hspot
    subst hspot
    have hblk : b < w.heap.size := by
      obtain ⟨d0, h0⟩ : ∃ d, l[0]? = some d := ⟨l[0], List.getElem?_eq_getElem hp⟩
      obtain ⟨cs', h1, _⟩ := hget 0 d0 h0
      obtain ⟨_, hlen, hat⟩ := World.cells?_some h1
      have := hat (i := 0) (by omega)
      have hh := block_lt_of_cell (this.trans (List.getElem?_eq_getElem (by omega)))
      simpa [Addr.add] using hh
    refine ⟨b, o, rfl, Nat.zero_le _, hblk, fun i d hid => ?_⟩
    obtain ⟨cs', h1, hd⟩ := hget i d hid
    obtain ⟨_, hlen, hat⟩ := World.cells?_some h1
    refine ⟨cs', hlen, fun j hj => ?_, hd⟩
    have := hat (i := j) (by omega)
    rw [Go.Deep.add_add] at this
    have e : (⟨b, o, none⟩ : Addr).add (i * size + j) = ⟨b, o + i * size + j, none⟩ := by
      rw [Nat.add_assoc]
      unfold Addr.add
      split
      · simp_all
      · rfl
    rw [e] at this
    exact this

theorem o_Tree : ∀ (fuel : Nat) (cs : List Value) (x : DataW H × List MemPlace), DataW.trod enc Tryd.prog w base spare held fuel 25 cs = some x → ∃ d, C_Tree fuel 0 w.heap.size w d cs := by
  intro fuel
  induction fuel using Nat.strongRecOn with
  | ind fuel ih =>
    intro cs x h
    obtain ⟨hl, n, hn, hf⟩ := struct_cells Tryd.underlying25 h
    rw [show Tryd.prog.cellsOf 25 = 6 from by kernel_rfl] at hl
    obtain ⟨c0, c1, c2, c3, c4, c5, rfl⟩ := list6 hl
    have e0 : ∃ y, DataW.trod enc Tryd.prog w base spare held n 3 ((c0 :: [c1, c2, c3, c4, c5]).take (Tryd.prog.cellsOf 3)) = some y := hf 0 _ rfl
    rw [take1 (show Tryd.prog.cellsOf 3 = 1 from by kernel_rfl)] at e0
    obtain ⟨y0, e0⟩ := e0
    have e1 : ∃ y, DataW.trod enc Tryd.prog w base spare held n 4 ((c1 :: [c2, c3, c4, c5]).take (Tryd.prog.cellsOf 4)) = some y := hf 1 _ rfl
    rw [take1 (show Tryd.prog.cellsOf 4 = 1 from by kernel_rfl)] at e1
    obtain ⟨y1, e1⟩ := e1
    have e2 : ∃ y, DataW.trod enc Tryd.prog w base spare held n 3 ((c2 :: [c3, c4, c5]).take (Tryd.prog.cellsOf 3)) = some y := hf 2 _ rfl
    rw [take1 (show Tryd.prog.cellsOf 3 = 1 from by kernel_rfl)] at e2
    obtain ⟨y2, e2⟩ := e2
    have e3 : ∃ y, DataW.trod enc Tryd.prog w base spare held n 9 ((c3 :: [c4, c5]).take (Tryd.prog.cellsOf 9)) = some y := hf 3 _ rfl
    rw [take1 (show Tryd.prog.cellsOf 9 = 1 from by kernel_rfl)] at e3
    obtain ⟨y3, e3⟩ := e3
    have e4 : ∃ y, DataW.trod enc Tryd.prog w base spare held n 22 ((c4 :: [c5]).take (Tryd.prog.cellsOf 22)) = some y := hf 4 _ rfl
    rw [take1 (show Tryd.prog.cellsOf 22 = 1 from by kernel_rfl)] at e4
    obtain ⟨y4, e4⟩ := e4
    have e5 : ∃ y, DataW.trod enc Tryd.prog w base spare held n 23 ((c5 :: []).take (Tryd.prog.cellsOf 23)) = some y := hf 5 _ rfl
    rw [take1 (show Tryd.prog.cellsOf 23 = 1 from by kernel_rfl)] at e5
    obtain ⟨y5, e5⟩ := e5
    obtain ⟨d0, g0, b0⟩ := cell_int Tryd.underlying3 e0
    simp only [List.cons.injEq, and_true] at g0
    subst g0
    obtain ⟨d1, g1⟩ := cell_bool Tryd.underlying4 e1
    simp only [List.cons.injEq, and_true] at g1
    subst g1
    obtain ⟨d2, g2, b2⟩ := cell_int Tryd.underlying3 e2
    simp only [List.cons.injEq, and_true] at g2
    subst g2
    obtain ⟨d3, g3, b3⟩ := cell_str Tryd.underlying9 e3
    simp only [List.cons.injEq, and_true] at g3
    subst g3
    obtain ⟨v4, d4, g4, b4⟩ := o_Strs e4
    simp only [List.cons.injEq, and_true] at g4
    subst g4
    obtain ⟨v5, d5, g5, b5⟩ := slice_cells_at (size := 6) (C_Tree n 0 w.heap.size w) Tryd.underlying23 (by kernel_rfl) (by decide) e5 (fun m cs' y hm hy => by
      obtain ⟨d, hd⟩ := ih m (by omega) cs' y hy
      exact ⟨d, hd.up (by omega)⟩)
    simp only [List.cons.injEq, and_true] at g5
    subst g5
    subst hn
    exact ⟨⟨d0, d1, d2, d3, d4, d5⟩, C_Tree.into ⟨_, _, rfl, b0, b2, b3, b4, b5⟩⟩
def R_Tree (w : World) (d : TreeD) (v : Value) : Prop := ∃ n cs, v = .agg cs.toArray ∧ C_Tree n 0 w.heap.size w d cs
variable {r : Reach} {b0 : Nat} {v : Value} {d : DataW H} {p : List MemPlace}
set_option maxRecDepth 100000 in
theorem r_Tree (hv : Value.okWide Tryd.prog w r b0 25 v) (h : DataW.Trod enc Tryd.prog w base spare held 25 v d p) : ∃ x, R_Tree w x v := by
  obtain ⟨cs, rfl, _⟩ := okWide_struct Tryd.underlying25 hv
  obtain ⟨fuel, hf⟩ := h
  obtain ⟨x, hx⟩ := o_Tree _ _ _ hf
  exact ⟨x, fuel, cs.toList, by simp, hx⟩
def R_Trees (w : World) (l : List TreeD) (v : Value) : Prop := ∃ n, Sl_Tree n 0 w.heap.size w l v
set_option maxRecDepth 100000 in
theorem r_Trees (hv : Value.okWide Tryd.prog w r b0 23 v) (h : DataW.Trod enc Tryd.prog w base spare held 23 v d p) : ∃ x, R_Trees w x v := by
  obtain ⟨a, len, cap, rfl⟩ := okWide_slice Tryd.underlying23 hv
  obtain ⟨fuel, hf⟩ := h
  obtain ⟨v', l, he, hs⟩ := slice_cells_at (size := 6) (C_Tree fuel 0 w.heap.size w) Tryd.underlying23 (by kernel_rfl) (by decide) hf (fun m cs' y hm hy => by
      obtain ⟨d, hd⟩ := o_Tree m cs' y hy
      exact ⟨d, hd.up (by omega)⟩)
  simp [Value.cells] at he
  subst he
  exact ⟨l, fuel, hs⟩
end
end Go.Proofs.YtdogjeoiggnhaaaDoor
