/- Slices in memory: a slice whose elements read as a list; kept over whatever leaves its blocks alone. No conditions. -/
import Derived.Test.YtdogjeoiggnhaaaDoorBase
import Derived.Deep.Slices
import Derived.Lib.SmallJoins
import Derived.ChangeArms
namespace Go.Proofs.YtdogjeoiggnhaaaDoor
open Go.RowKit Go.ChangeShapes Go.WideShapes Go.Deep

/-- The slice value v has the elements l; element i's cells satisfy C; they lie in a block from lo on, below hi. -/
def SlOf {D : Type} (C : D → List Value → Prop) (size lo hi : Nat) (w : World) (l : List D) (v : Value) : Prop :=
  ∃ A c, v = .slice A l.length c ∧ l.length ≤ c ∧ c ≤ 9223372036854775807 ∧ (0 < l.length → ∃ b o, A = some ⟨b, o, none⟩ ∧ lo ≤ b ∧ b < hi ∧
    ∀ i d, l[i]? = some d → ∃ cs, cs.length = size ∧ (∀ j, j < size → w.cell? ⟨b, o + i * size + j, none⟩ = cs[j]?) ∧ C d cs)

/-- Blocks from lo on and below hi are the same in both worlds. -/
def Same (lo hi : Nat) (w w' : World) : Prop := ∀ b o, lo ≤ b → b < hi → w'.cell? ⟨b, o, none⟩ = w.cell? ⟨b, o, none⟩

theorem Same.refl (lo hi : Nat) (w : World) : Same lo hi w w := fun _ _ _ _ => rfl
theorem Same.trans {lo hi : Nat} {a b c : World} (h : Same lo hi a b) (k : Same lo hi b c) : Same lo hi a c := fun x o h1 h2 => (k x o h1 h2).trans (h x o h1 h2)
theorem same_below {lo hi : Nat} {w w' : World} (h : Below hi w w') : Same lo hi w w' := fun b o _ h2 => h.cell (p := ⟨b, o, none⟩) h2
theorem same_below' {lo hi B : Nat} {w w' : World} (h : Below B w w') (hB : hi ≤ B) : Same lo hi w w' := same_below (h.mono hB)
theorem Same.mono {lo hi lo' hi' : Nat} {w w' : World} (h : Same lo hi w w') (h1 : lo ≤ lo') (h2 : hi' ≤ hi) : Same lo' hi' w w' := fun b o a c => h b o (by omega) (by omega)

theorem same_setCell {lo hi : Nat} {a b : World} {p : Addr} {u : Value} (hp : p.block < lo) (h : Same lo hi a b) : Same lo hi a (b.setCell p u) :=
  h.trans (fun x o h1 h2 => World.cell?_of_block (Below.heap_setCell b p u x (by omega)))
theorem same_alloc {lo hi : Nat} {a b : World} {o : Obj} (hb : hi ≤ b.heap.size) (h : Same lo hi a b) : Same lo hi a (b.alloc o) :=
  h.trans (fun x _ _ h2 => World.cell?_of_block (Below.heap_alloc b o x (by omega)))
theorem same_drewN {lo hi : Nat} {a b : World} (h : Same lo hi a b) (n : Nat) : Same lo hi a (b.drewN n) := h
theorem same_step {lo hi : Nat} {a b c : World} (k : Below b.heap.size b c) (hb : hi ≤ b.heap.size) (h : Same lo hi a b) : Same lo hi a c := h.trans (same_below' k hb)
theorem SlOf.keep {D : Type} {C C' : D → List Value → Prop} {size lo hi lo' hi' : Nat} {w w' : World} {l : List D} {v : Value}
    (h : SlOf C size lo hi w l v) (hs : Same lo hi w w') (h1 : lo' ≤ lo) (h2 : hi ≤ hi') (hC : ∀ d cs, d ∈ l → C d cs → C' d cs) : SlOf C' size lo' hi' w' l v := by
  obtain ⟨A, c, hv, hlc, hc, hA⟩ := h
  refine ⟨A, c, hv, hlc, hc, fun hp => ?_⟩
  obtain ⟨b, o, hA, hb1, hb2, hcell⟩ := hA hp
  refine ⟨b, o, hA, by omega, by omega, fun i d hi => ?_⟩
  obtain ⟨cs, hl, hcs, hd⟩ := hcell i d hi
  exact ⟨cs, hl, fun j hj => (hs b _ hb1 hb2).trans (hcs j hj), hC d cs (List.mem_of_getElem? hi) hd⟩

theorem SlOf.form {D : Type} {C : D → List Value → Prop} {size lo hi : Nat} {w : World} {l : List D} {v : Value} (h : SlOf C size lo hi w l v) : ∃ A c, v = .slice A l.length c := by
  obtain ⟨A, c, hv, _⟩ := h
  exact ⟨A, c, hv⟩
theorem choose_list {D : Type} (n : Nat) (P : Nat → D → Prop) (h : ∀ i, i < n → ∃ d, P i d) : ∃ l : List D, l.length = n ∧ ∀ i d, l[i]? = some d → P i d := by
  induction n with
  | zero => exact ⟨[], rfl, fun i d hi => by simp at hi⟩
  | succ n ih =>
    obtain ⟨l, hl, hP⟩ := ih (fun i hi => h i (by omega))
    obtain ⟨d, hd⟩ := h n (by omega)
    refine ⟨l ++ [d], by simp [hl], fun i x hi => ?_⟩
    by_cases hlt : i < n
    · rw [List.getElem?_append_left (by omega)] at hi
      exact hP i x hi
    · by_cases he : i = n
      · subst he
        rw [List.getElem?_append_right (by omega), hl] at hi
        simp at hi
        subst hi
        exact hd
      · rw [List.getElem?_eq_none (by simp; omega)] at hi
        cases hi

section
variable {H : Type} {enc : TypeId × Value → H} {P : Program} {w : World} {base : Nat} {spare : Nat → Bool} {held : Bool}

theorem spot_none {w : World} {a : Addr} {v : Value} (h : w.cell? a = some v) : a.spot = none := World.cell?_spot h

theorem slice_cells {t e : TypeId} {fuel size : Nat} {cs : List Value} {x : DataW H × List MemPlace} {D : Type} (C : D → List Value → Prop) (ht : P.underlying t = some (.slice e)) (hsz : P.cellsOf e = size) (hpos : 0 < size)
    (h : DataW.trod enc P w base spare held fuel t cs = some x)
    (hC : ∀ n cs' y, DataW.trod enc P w base spare held n e cs' = some y → ∃ d, C d cs') :
    ∃ v l, cs = [v] ∧ SlOf C size 0 w.heap.size w l v := by
  rcases open_slice ht h with ⟨hcs, _⟩ | ⟨a, len, cap, m, n, D', Pl, hcs, _, hl, hm, hmm, _, hi⟩
  · exact ⟨_, [], hcs, none, 0, rfl, by simp, by simp, fun h => by simp at h⟩
  · have hlm : len ≤ m := by rw [hmm]; split <;> omega
    obtain ⟨l, hll, hP⟩ := choose_list len (fun i d => ∃ cs', w.cells? base (a.add (i * size)) size = some cs' ∧ C d cs') (fun i hlt => by
      obtain ⟨cs', h1, h2⟩ := hi i (by omega)
      obtain ⟨d, hd⟩ := hC n cs' _ h2
      rw [hsz] at h1
      exact ⟨d, cs', h1, hd⟩)
    refine ⟨_, l, hcs, some a, cap, by rw [hll], by omega, by unfold maxLen at hm; omega, fun hp => ?_⟩
    have hget : ∀ i d, l[i]? = some d → ∃ cs', w.cells? base (a.add (i * size)) size = some cs' ∧ C d cs' := hP
    have hspot : a.spot = none := by
      obtain ⟨d0, h0⟩ : ∃ d, l[0]? = some d := ⟨l[0], List.getElem?_eq_getElem hp⟩
      obtain ⟨cs', h1, _⟩ := hget 0 d0 h0
      obtain ⟨_, hlen, hat⟩ := World.cells?_some h1
      have := hat (i := 0) (by omega)
      rw [Go.Deep.add_add] at this
      have hh := spot_none (this.trans (List.getElem?_eq_getElem (by omega)))
      simpa [Addr.add] using hh
    obtain ⟨b, o, s⟩ := a
    simp at hspot
    subst hspot
    have hblk : b < w.heap.size := by
      obtain ⟨d0, h0⟩ : ∃ d, l[0]? = some d := ⟨l[0], List.getElem?_eq_getElem hp⟩
      obtain ⟨cs', h1, _⟩ := hget 0 d0 h0
      obtain ⟨_, hlen, hat⟩ := World.cells?_some h1
      have := hat (i := 0) (by omega)
      have hh := block_lt_of_cell (this.trans (List.getElem?_eq_getElem (by omega)))
      simpa [Addr.add] using hh
    refine ⟨b, o, rfl, Nat.zero_le _, hblk, fun i d hid => ?_⟩
    obtain ⟨cs', h1, hd⟩ := hget i d hid
    obtain ⟨_, hlen, hat⟩ := World.cells?_some h1
    refine ⟨cs', hlen, fun j hj => ?_, hd⟩
    have := hat (i := j) (by omega)
    rw [Go.Deep.add_add] at this
    have e : (⟨b, o, none⟩ : Addr).add (i * size + j) = ⟨b, o + i * size + j, none⟩ := by
      rw [Nat.add_assoc]
      unfold Addr.add
      split
      · simp_all
      · rfl
    rw [e] at this
    exact this

theorem struct_cells {t : TypeId} {fs : Array Field} {fuel : Nat} {cs : List Value} {x : DataW H × List MemPlace} (ht : P.underlying t = some (.struct fs)) (h : DataW.trod enc P w base spare held fuel t cs = some x) :
    cs.length = P.cellsOf t ∧ ∃ n, fuel = n + 1 ∧ ∀ (i : Nat) (f : Field), fs[i]? = some f → ∃ y, DataW.trod enc P w base spare held n f.type ((cs.drop f.offset).take (P.cellsOf f.type)) = some y := by
  obtain ⟨xs, n, hn, _, hl, hxs, hf⟩ := DataW.trod_struct ht h
  refine ⟨hl, n, hn, fun i f hi => ?_⟩
  have hlt : i < xs.length := by rw [hxs]; exact (Array.getElem?_eq_some_iff.1 hi).1
  exact ⟨xs[i], (hf i f hi).trans (List.getElem?_eq_getElem hlt)⟩

theorem int_bounds {n : Int} (h : (Lit.int .i64 n).wf = true) : -9223372036854775808 ≤ n ∧ n ≤ 9223372036854775807 := by
  simp [Lit.wf, IntKind.min, IntKind.max, IntKind.signed, IntKind.bits] at h
  omega
def I64 (n : Int) : Prop := -9223372036854775808 ≤ n ∧ n ≤ 9223372036854775807
theorem cell_int {t : TypeId} {fuel : Nat} {cs : List Value} {x : DataW H × List MemPlace} (ht : P.underlying t = some (.int .i64)) (h : DataW.trod enc P w base spare held fuel t cs = some x) : ∃ n, cs = [.int .i64 n] ∧ I64 n := by
  obtain ⟨n, h1, _, h2⟩ := DataW.trod_int ht h
  exact ⟨n, h1, int_bounds h2⟩
theorem cell_bool {t : TypeId} {fuel : Nat} {cs : List Value} {x : DataW H × List MemPlace} (ht : P.underlying t = some .bool) (h : DataW.trod enc P w base spare held fuel t cs = some x) : ∃ n, cs = [.bool n] := by
  obtain ⟨n, h1, _⟩ := DataW.trod_bool ht h
  exact ⟨n, h1⟩
theorem cell_str {t : TypeId} {fuel : Nat} {cs : List Value} {x : DataW H × List MemPlace} (ht : P.underlying t = some .string) (h : DataW.trod enc P w base spare held fuel t cs = some x) : ∃ s : ByteArray, cs = [.string s] ∧ s.size ≤ 9223372036854775807 := by
  obtain ⟨n, h1, _, h2⟩ := DataW.trod_string ht h
  exact ⟨n, h1, by unfold maxLen at h2; omega⟩
end

/-! ### A row under construction -/
def Part {D : Type} (C : D → List Value → Prop) (size : Nat) (l : List D) (k : Nat) (cs : Array Value) : Prop :=
  cs.size = l.length * size ∧ ∀ i d, i < k → l[i]? = some d → ∃ es, es.length = size ∧ (∀ j, j < size → cs[i * size + j]? = es[j]?) ∧ C d es
def putAt (cs : Array Value) (off : Nat) : List Value → Array Value
  | [] => cs
  | v :: vs => putAt (cs.setIfInBounds off v) (off + 1) vs
def putCells (w : World) (g off : Nat) : List Value → World
  | [] => w
  | v :: vs => putCells (w.setCell ⟨g, off, none⟩ v) g (off + 1) vs
theorem size_putAt (vs : List Value) : ∀ (cs : Array Value) (off : Nat), (putAt cs off vs).size = cs.size := by
  induction vs with
  | nil => intro cs off; rfl
  | cons v vs ih => intro cs off; rw [putAt, ih]; simp
theorem get_putAt_lt (vs : List Value) : ∀ (cs : Array Value) (off i : Nat), i < off → (putAt cs off vs)[i]? = cs[i]? := by
  induction vs with
  | nil => intro cs off i _; rfl
  | cons v vs ih => intro cs off i h; rw [putAt, ih _ _ _ (by omega)]; simp [Array.getElem?_setIfInBounds]; omega
theorem get_putAt_ge (vs : List Value) : ∀ (cs : Array Value) (off i : Nat), off + vs.length ≤ i → (putAt cs off vs)[i]? = cs[i]? := by
  induction vs with
  | nil => intro cs off i _; rfl
  | cons v vs ih => intro cs off i h; simp at h; rw [putAt, ih _ _ _ (by omega)]; simp [Array.getElem?_setIfInBounds]; omega
theorem get_putAt (vs : List Value) : ∀ (cs : Array Value) (off j : Nat), j < vs.length → off + vs.length ≤ cs.size → (putAt cs off vs)[off + j]? = vs[j]? := by
  induction vs with
  | nil => intro cs off j h; simp at h
  | cons v vs ih =>
    intro cs off j h hs
    simp at hs
    rw [putAt]
    cases j with
    | zero => rw [get_putAt_lt _ _ _ _ (by omega)]; simp [Array.getElem?_setIfInBounds]; omega
    | succ j =>
      have e : off + (j + 1) = off + 1 + j := by omega
      rw [e, ih _ _ j (by simpa using h) (by simp; omega)]
      simp
theorem Part.store {D : Type} {C : D → List Value → Prop} {size k : Nat} {l : List D} {cs : Array Value} (h : Part C size l k cs) {d : D} {es : List Value} (hd : l[k]? = some d) (hl : es.length = size) (hC : C d es) : Part C size l (k + 1) (putAt cs (k * size) es) := by
  have hk : k < l.length := (List.getElem?_eq_some_iff.1 hd).1
  have hks : (k + 1) * size ≤ l.length * size := Nat.mul_le_mul_right _ hk
  rw [Nat.succ_mul] at hks
  refine ⟨by rw [size_putAt]; exact h.1, fun i d' hi hd' => ?_⟩
  by_cases he : i = k
  · subst he
    rw [hd] at hd'
    obtain rfl := Option.some.inj hd'
    exact ⟨es, hl, fun j hj => get_putAt es cs _ j (by omega) (by rw [hl, h.1]; omega), hC⟩
  · obtain ⟨es', hl', hcs, hC'⟩ := h.2 i d' (by omega) hd'
    refine ⟨es', hl', fun j hj => ?_, hC'⟩
    have : (i + 1) * size ≤ k * size := Nat.mul_le_mul_right _ (by omega)
    rw [Nat.succ_mul] at this
    rw [get_putAt_lt _ _ _ _ (by omega)]
    exact hcs j hj
theorem Part.mono {D : Type} {C C' : D → List Value → Prop} {size k : Nat} {l : List D} {cs : Array Value} (h : Part C size l k cs) (hC : ∀ d es, C d es → C' d es) : Part C' size l k cs :=
  ⟨h.1, fun i d hi hd => let ⟨es, a, b, c⟩ := h.2 i d hi hd; ⟨es, a, b, hC d es c⟩⟩
theorem Part.zero {D : Type} {C : D → List Value → Prop} {size : Nat} {l : List D} {cs : Array Value} (h : cs.size = l.length * size) : Part C size l 0 cs := ⟨h, fun i _ hi => by omega⟩
theorem SlOf.of_part {D : Type} {C : D → List Value → Prop} {size lo hi : Nat} {w : World} {l : List D} {cs : Array Value} {g c : Nat} {e : TypeId} (h : Part C size l l.length cs) (hg : w.heap[g]? = some (.cells cs e (0, 0))) (h1 : lo ≤ g) (h2 : g < hi) (hc : l.length ≤ c) (hc2 : c ≤ 9223372036854775807) :
    SlOf C size lo hi w l (.slice (some ⟨g, 0, none⟩) l.length c) := by
  refine ⟨_, c, rfl, hc, hc2, fun hp => ⟨g, 0, rfl, h1, h2, fun i d hd => ?_⟩⟩
  obtain ⟨es, hl, hcs, hC⟩ := h.2 i d (List.getElem?_eq_some_iff.1 hd).1 hd
  refine ⟨es, hl, fun j hj => ?_, hC⟩
  rw [cell_of_row w g _ cs e _ hg, Nat.zero_add]
  exact hcs j hj
theorem heap_putCells (vs : List Value) : ∀ (w : World) (g off : Nat) (cs : Array Value) (e : TypeId), w.heap[g]? = some (.cells cs e (0, 0)) → (putCells w g off vs).heap[g]? = some (.cells (putAt cs off vs) e (0, 0)) := by
  induction vs with
  | nil => intro w g off cs e h; exact h
  | cons v vs ih => intro w g off cs e h; exact ih _ _ _ _ _ (heap_setCell_same w g off cs e v h)
theorem size_putCells (vs : List Value) : ∀ (w : World) (g off : Nat), (putCells w g off vs).heap.size = w.heap.size := by
  induction vs with
  | nil => intro w g off; rfl
  | cons v vs ih => intro w g off; rw [putCells, ih]; simp [World.setCell]
theorem same_putCells (vs : List Value) : ∀ (w : World) (g off lo hi : Nat), (g < lo ∨ hi ≤ g) → Same lo hi w (putCells w g off vs) := by
  induction vs with
  | nil => intro w g off lo hi _; exact Same.refl _ _ _
  | cons v vs ih =>
    intro w g off lo hi h
    refine Same.trans ?_ (ih _ _ _ _ _ h)
    intro b o h1 h2
    exact World.cell?_of_block (Below.heap_setCell w _ _ _ (by simp; omega))
theorem below_putCells (vs : List Value) : ∀ (w : World) (g off B : Nat), B ≤ g → Below B w (putCells w g off vs) := by
  induction vs with
  | nil => intro w g off B _; exact Below.refl _ _
  | cons v vs ih =>
    intro w g off B h
    exact Below.trans ((Below.refl B w).setCell (p := ⟨g, off, none⟩) h v) (ih _ _ _ _ h)
theorem frozen_row {w : World} {g : Nat} {cs : Array Value} {e : TypeId} (h : w.heap[g]? = some (.cells cs e (0, 0))) (o : Nat) : w.frozen? ⟨g, o, none⟩ = false := frozen_of_row w g o cs e h
theorem row_cell {w : World} {g o : Nat} {cs : Array Value} {e : TypeId} (h : w.heap[g]? = some (.cells cs e (0, 0))) (ho : o < cs.size) : ∃ v, w.cell? ⟨g, o, none⟩ = some v :=
  ⟨cs[o], by rw [cell_of_row w g _ cs e _ h]; exact Array.getElem?_eq_getElem ho⟩
theorem row_lt {w : World} {g : Nat} {o : Obj} (h : w.heap[g]? = some o) : g < w.heap.size := (Array.getElem?_eq_some_iff.1 h).1
theorem run_make_slice {P : Program} {t e : TypeId} {z : Value} {size bytes : Nat} (ht : P.underlying t = some (.slice e)) (hi : (P.info? e).map (fun i => (i.zero, i.size, i.bytes)) = some (some z, size, bytes)) (n : Nat) (hb : n * bytes ≤ 281474976710656) (hn : n ≤ 9223372036854775807) (w : World) :
    (Instr.makeSlice t (.int .i64 (n : Int)) (.int .i64 (n : Int))).run P w = .ok (.slice (some ⟨w.heap.size, 0, none⟩) n n) (w.alloc (.cells (madeCells z.cells (n * size)) e)) := by
  obtain ⟨i, h1, h2, h3, h4⟩ := info_parts hi
  have := run_make (P := P) w t e i z ht h1 h2 .i64 .i64 n n (by omega) (by omega) (by rw [h4, Int.mul_comm, ← Int.natCast_mul]; omega) (by omega)
  rw [this, h3, Int.toNat_natCast]

def C_Str (s : ByteArray) (cs : List Value) : Prop := cs = [.string s] ∧ s.size ≤ 9223372036854775807
abbrev Sl_Str (lo hi : Nat) (w : World) (l : List ByteArray) (v : Value) : Prop := SlOf C_Str 1 lo hi w l v
theorem Sl_Str.keep {lo hi lo' hi' : Nat} {w w' : World} {l : List ByteArray} {v : Value} (h : Sl_Str lo hi w l v) (hs : Same lo hi w w') (h1 : lo' ≤ lo) (h2 : hi ≤ hi') : Sl_Str lo' hi' w' l v := SlOf.keep h hs h1 h2 (fun _ _ _ h => h)
theorem Sl_Str.now {lo : Nat} {w w' : World} {l : List ByteArray} {v : Value} (h : Sl_Str lo w.heap.size w l v) (hb : Below w.heap.size w w') : Sl_Str lo w'.heap.size w' l v := h.keep (same_below hb) (Nat.le_refl _) hb.size

theorem take1 {α : Type} {k : Nat} {a : α} {l : List α} (h : k = 1) : (a :: l).take k = [a] := by subst h; rfl
theorem list1 {α : Type} {l : List α} (h : l.length = 1) : ∃ a, l = [a] := by
  match l, h with | [a], _ => exact ⟨a, rfl⟩
theorem list2 {α : Type} {l : List α} (h : l.length = 2) : ∃ a b, l = [a, b] := by
  match l, h with | [a, b], _ => exact ⟨a, b, rfl⟩
theorem list3 {α : Type} {l : List α} (h : l.length = 3) : ∃ a b c, l = [a, b, c] := by
  match l, h with | [a, b, c], _ => exact ⟨a, b, c, rfl⟩
theorem list4 {α : Type} {l : List α} (h : l.length = 4) : ∃ a b c d, l = [a, b, c, d] := by
  match l, h with | [a, b, c, d], _ => exact ⟨a, b, c, d, rfl⟩
theorem list6 {α : Type} {l : List α} (h : l.length = 6) : ∃ a b c d e f, l = [a, b, c, d, e, f] := by
  match l, h with | [a, b, c, d, e, f], _ => exact ⟨a, b, c, d, e, f, rfl⟩
theorem list7 {α : Type} {l : List α} (h : l.length = 7) : ∃ a b c d e f g, l = [a, b, c, d, e, f, g] := by
  match l, h with | [a, b, c, d, e, f, g], _ => exact ⟨a, b, c, d, e, f, g, rfl⟩

end Go.Proofs.YtdogjeoiggnhaaaDoor
