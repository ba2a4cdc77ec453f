/- Written by wip/tools/pack.py: the texts that FnBraced needs, without what it does not need. No conditions. -/
import Derived.Test.YtffelpdefjkeaaaGreatDoorKFnBraced1
import Derived.Deep.Slices
import Derived.Lib.SmallJoins
import Derived.ChangeArms
import Derived.RowKit
import Derived.Deep.AppendLies
import Derived.OwnWalk
import Derived.Sort.Statements
namespace Go.Proofs.YtffelpdefjkeaaaGreatDoor
open Go.RowKit Go.ChangeShapes Go.WideShapes Go.Deep
/-- The slice value v has the elements l; element i's cells satisfy C; they lie in a block from lo on, below hi. -/
def SlOf {D : Type} (C : D → List Value → Prop) (size lo hi : Nat) (w : World) (l : List D) (v : Value) : Prop :=
  ∃ A c, v = .slice A l.length c ∧ l.length ≤ c ∧ c ≤ 9223372036854775807 ∧ (0 < l.length → ∃ b o, A = some ⟨b, o, none⟩ ∧ lo ≤ b ∧ b < hi ∧
    ∀ i d, l[i]? = some d → ∃ cs, cs.length = size ∧ (∀ j, j < size → w.cell? ⟨b, o + i * size + j, none⟩ = cs[j]?) ∧ C d cs)
/-- Blocks from lo on and below hi are the same in both worlds. -/
def Same (lo hi : Nat) (w w' : World) : Prop := ∀ b o, lo ≤ b → b < hi → w'.cell? ⟨b, o, none⟩ = w.cell? ⟨b, o, none⟩
theorem Same.refl (lo hi : Nat) (w : World) : Same lo hi w w := fun _ _ _ _ => rfl
theorem Same.trans {lo hi : Nat} {a b c : World} (h : Same lo hi a b) (k : Same lo hi b c) : Same lo hi a c := fun x o h1 h2 => (k x o h1 h2).trans (h x o h1 h2)
theorem same_below {lo hi : Nat} {w w' : World} (h : Below hi w w') : Same lo hi w w' := fun b o _ h2 => h.cell (p := ⟨b, o, none⟩) h2
theorem same_below' {lo hi B : Nat} {w w' : World} (h : Below B w w') (hB : hi ≤ B) : Same lo hi w w' := same_below (h.mono hB)
theorem Same.mono {lo hi lo' hi' : Nat} {w w' : World} (h : Same lo hi w w') (h1 : lo ≤ lo') (h2 : hi' ≤ hi) : Same lo' hi' w w' := fun b o a c => h b o (by omega) (by omega)
theorem same_setCell {lo hi : Nat} {a b : World} {p : Addr} {u : Value} (hp : p.block < lo) (h : Same lo hi a b) : Same lo hi a (b.setCell p u) :=
  h.trans (fun x o h1 h2 => World.cell?_of_block (Below.heap_setCell b p u x (by omega)))
theorem same_alloc {lo hi : Nat} {a b : World} {o : Obj} (hb : hi ≤ b.heap.size) (h : Same lo hi a b) : Same lo hi a (b.alloc o) :=
  h.trans (fun x _ _ h2 => World.cell?_of_block (Below.heap_alloc b o x (by omega)))
theorem same_drewN {lo hi : Nat} {a b : World} (h : Same lo hi a b) (n : Nat) : Same lo hi a (b.drewN n) := h
theorem same_step {lo hi : Nat} {a b c : World} (k : Below b.heap.size b c) (hb : hi ≤ b.heap.size) (h : Same lo hi a b) : Same lo hi a c := h.trans (same_below' k hb)
theorem SlOf.keep {D : Type} {C C' : D → List Value → Prop} {size lo hi lo' hi' : Nat} {w w' : World} {l : List D} {v : Value}
    (h : SlOf C size lo hi w l v) (hs : Same lo hi w w') (h1 : lo' ≤ lo) (h2 : hi ≤ hi') (hC : ∀ d cs, d ∈ l → C d cs → C' d cs) : SlOf C' size lo' hi' w' l v := by
  obtain ⟨A, c, hv, hlc, hc, hA⟩ := h
  refine ⟨A, c, hv, hlc, hc, fun hp => ?_⟩
  obtain ⟨b, o, hA, hb1, hb2, hcell⟩ := hA hp
  refine ⟨b, o, hA, by omega, by omega, fun i d hi => ?_⟩
  obtain ⟨cs, hl, hcs, hd⟩ := hcell i d hi
  exact ⟨cs, hl, fun j hj => (hs b _ hb1 hb2).trans (hcs j hj), hC d cs (List.mem_of_getElem? hi) hd⟩
theorem SlOf.form {D : Type} {C : D → List Value → Prop} {size lo hi : Nat} {w : World} {l : List D} {v : Value} (h : SlOf C size lo hi w l v) : ∃ A c, v = .slice A l.length c := by
  obtain ⟨A, c, hv, _⟩ := h
  exact ⟨A, c, hv⟩
theorem choose_list {D : Type} (n : Nat) (P : Nat → D → Prop) (h : ∀ i, i < n → ∃ d, P i d) : ∃ l : List D, l.length = n ∧ ∀ i d, l[i]? = some d → P i d := by
  induction n with
  | zero => exact ⟨[], rfl, fun i d hi => by simp at hi⟩
  | succ n ih =>
    obtain ⟨l, hl, hP⟩ := ih (fun i hi => h i (by omega))
    obtain ⟨d, hd⟩ := h n (by omega)
    refine ⟨l ++ [d], by simp [hl], fun i x hi => ?_⟩
    by_cases hlt : i < n
    · rw [List.getElem?_append_left (by omega)] at hi
      exact hP i x hi
    · by_cases he : i = n
      · subst he
        rw [List.getElem?_append_right (by omega), hl] at hi
        simp at hi
        subst hi
        exact hd
      · rw [List.getElem?_eq_none (by simp; omega)] at hi
        cases hi
section
variable {H : Type} {enc : TypeId × Value → H} {P : Program} {w : World} {base : Nat} {spare : Nat → Bool} {held : Bool}
theorem spot_none {w : World} {a : Addr} {v : Value} (h : w.cell? a = some v) : a.spot = none := World.cell?_spot h
theorem slice_cells {t e : TypeId} {fuel size : Nat} {cs : List Value} {x : DataW H × List MemPlace} {D : Type} (C : D → List Value → Prop) (ht : P.underlying t = some (.slice e)) (hsz : P.cellsOf e = size) (hpos : 0 < size)
    (h : DataW.trod enc P w base spare held fuel t cs = some x)
    (hC : ∀ n cs' y, DataW.trod enc P w base spare held n e cs' = some y → ∃ d, C d cs') :
    ∃ v l, cs = [v] ∧ SlOf C size 0 w.heap.size w l v := by
  rcases open_slice ht h with ⟨hcs, _⟩ | ⟨a, len, cap, m, n, D', Pl, hcs, _, hl, hm, hmm, _, hi⟩
  · exact ⟨_, [], hcs, none, 0, rfl, by simp, by simp, fun h => by simp at h⟩
  · have hlm : len ≤ m := by rw [hmm]; split <;> omega
    obtain ⟨l, hll, hP⟩ := choose_list len (fun i d => ∃ cs', w.cells? base (a.add (i * size)) size = some cs' ∧ C d cs') (fun i hlt => by
      obtain ⟨cs', h1, h2⟩ := hi i (by omega)
      obtain ⟨d, hd⟩ := hC n cs' _ h2
      rw [hsz] at h1
      exact ⟨d, cs', h1, hd⟩)
    refine ⟨_, l, hcs, some a, cap, by rw [hll], by omega, by unfold maxLen at hm; omega, fun hp => ?_⟩
    have hget : ∀ i d, l[i]? = some d → ∃ cs', w.cells? base (a.add (i * size)) size = some cs' ∧ C d cs' := hP
    have hspot : a.spot = none := by
      obtain ⟨d0, h0⟩ : ∃ d, l[0]? = some d := ⟨l[0], List.getElem?_eq_getElem hp⟩
      obtain ⟨cs', h1, _⟩ := hget 0 d0 h0
      obtain ⟨_, hlen, hat⟩ := World.cells?_some h1
      have := hat (i := 0) (by omega)
      rw [Go.Deep.add_add] at this
      have hh := spot_none (this.trans (List.getElem?_eq_getElem (by omega)))
      simpa [Addr.add] using hh
    obtain ⟨b, o, s⟩ := a
    simp at hspot
    subst hspot
    have hblk : b < w.heap.size := by
      obtain ⟨d0, h0⟩ : ∃ d, l[0]? = some d := ⟨l[0], List.getElem?_eq_getElem hp⟩
      obtain ⟨cs', h1, _⟩ := hget 0 d0 h0
      obtain ⟨_, hlen, hat⟩ := World.cells?_some h1
      have := hat (i := 0) (by omega)
      have hh := block_lt_of_cell (this.trans (List.getElem?_eq_getElem (by omega)))
      simpa [Addr.add] using hh
    refine ⟨b, o, rfl, Nat.zero_le _, hblk, fun i d hid => ?_⟩
    obtain ⟨cs', h1, hd⟩ := hget i d hid
    obtain ⟨_, hlen, hat⟩ := World.cells?_some h1
    refine ⟨cs', hlen, fun j hj => ?_, hd⟩
    have := hat (i := j) (by omega)
    rw [Go.Deep.add_add] at this
    have e : (⟨b, o, none⟩ : Addr).add (i * size + j) = ⟨b, o + i * size + j, none⟩ := by
      rw [Nat.add_assoc]
      unfold Addr.add
      split
      · simp_all
      · rfl
    rw [e] at this
    exact this
def I64 (n : Int) : Prop := -9223372036854775808 ≤ n ∧ n ≤ 9223372036854775807
end
def Part {D : Type} (C : D → List Value → Prop) (size : Nat) (l : List D) (k : Nat) (cs : Array Value) : Prop :=
  cs.size = l.length * size ∧ ∀ i d, i < k → l[i]? = some d → ∃ es, es.length = size ∧ (∀ j, j < size → cs[i * size + j]? = es[j]?) ∧ C d es
def putAt (cs : Array Value) (off : Nat) : List Value → Array Value
  | [] => cs
  | v :: vs => putAt (cs.setIfInBounds off v) (off + 1) vs
def putCells (w : World) (g off : Nat) : List Value → World
  | [] => w
  | v :: vs => putCells (w.setCell ⟨g, off, none⟩ v) g (off + 1) vs
theorem size_putAt (vs : List Value) : ∀ (cs : Array Value) (off : Nat), (putAt cs off vs).size = cs.size := by
  induction vs with
  | nil => intro cs off; rfl
  | cons v vs ih => intro cs off; rw [putAt, ih]; simp
theorem get_putAt_lt (vs : List Value) : ∀ (cs : Array Value) (off i : Nat), i < off → (putAt cs off vs)[i]? = cs[i]? := by
  induction vs with
  | nil => intro cs off i _; rfl
  | cons v vs ih => intro cs off i h; rw [putAt, ih _ _ _ (by omega)]; simp [Array.getElem?_setIfInBounds]; omega
theorem get_putAt_ge (vs : List Value) : ∀ (cs : Array Value) (off i : Nat), off + vs.length ≤ i → (putAt cs off vs)[i]? = cs[i]? := by
  induction vs with
  | nil => intro cs off i _; rfl
  | cons v vs ih => intro cs off i h; simp at h; rw [putAt, ih _ _ _ (by omega)]; simp [Array.getElem?_setIfInBounds]; omega
theorem get_putAt (vs : List Value) : ∀ (cs : Array Value) (off j : Nat), j < vs.length → off + vs.length ≤ cs.size → (putAt cs off vs)[off + j]? = vs[j]? := by
  induction vs with
  | nil => intro cs off j h; simp at h
  | cons v vs ih =>
    intro cs off j h hs
    simp at hs
    rw [putAt]
    cases j with
    | zero => rw [get_putAt_lt _ _ _ _ (by omega)]; simp [Array.getElem?_setIfInBounds]; omega
    | succ j =>
      have e : off + (j + 1) = off + 1 + j := by omega
      rw [e, ih _ _ j (by simpa using h) (by simp; omega)]
      simp
theorem Part.mono {D : Type} {C C' : D → List Value → Prop} {size k : Nat} {l : List D} {cs : Array Value} (h : Part C size l k cs) (hC : ∀ d es, C d es → C' d es) : Part C' size l k cs :=
  ⟨h.1, fun i d hi hd => let ⟨es, a, b, c⟩ := h.2 i d hi hd; ⟨es, a, b, hC d es c⟩⟩
theorem Part.zero {D : Type} {C : D → List Value → Prop} {size : Nat} {l : List D} {cs : Array Value} (h : cs.size = l.length * size) : Part C size l 0 cs := ⟨h, fun i _ hi => by omega⟩
theorem heap_putCells (vs : List Value) : ∀ (w : World) (g off : Nat) (cs : Array Value) (e : TypeId), w.heap[g]? = some (.cells cs e (0, 0)) → (putCells w g off vs).heap[g]? = some (.cells (putAt cs off vs) e (0, 0)) := by
  induction vs with
  | nil => intro w g off cs e h; exact h
  | cons v vs ih => intro w g off cs e h; exact ih _ _ _ _ _ (heap_setCell_same w g off cs e v h)
theorem frozen_row {w : World} {g : Nat} {cs : Array Value} {e : TypeId} (h : w.heap[g]? = some (.cells cs e (0, 0))) (o : Nat) : w.frozen? ⟨g, o, none⟩ = false := frozen_of_row w g o cs e h
theorem row_lt {w : World} {g : Nat} {o : Obj} (h : w.heap[g]? = some o) : g < w.heap.size := (Array.getElem?_eq_some_iff.1 h).1
def C_Str (s : ByteArray) (cs : List Value) : Prop := cs = [.string s] ∧ s.size ≤ 9223372036854775807
abbrev Sl_Str (lo hi : Nat) (w : World) (l : List ByteArray) (v : Value) : Prop := SlOf C_Str 1 lo hi w l v
theorem Sl_Str.keep {lo hi lo' hi' : Nat} {w w' : World} {l : List ByteArray} {v : Value} (h : Sl_Str lo hi w l v) (hs : Same lo hi w w') (h1 : lo' ≤ lo) (h2 : hi ≤ hi') : Sl_Str lo' hi' w' l v := SlOf.keep h hs h1 h2 (fun _ _ _ h => h)
theorem Sl_Str.now {lo : Nat} {w w' : World} {l : List ByteArray} {v : Value} (h : Sl_Str lo w.heap.size w l v) (hb : Below w.heap.size w w') : Sl_Str lo w'.heap.size w' l v := h.keep (same_below hb) (Nat.le_refl _) hb.size
end Go.Proofs.YtffelpdefjkeaaaGreatDoor
namespace Go.Proofs.YtffelpdefjkeaaaGreatDoor
open Go.RowKit Go.ChangeShapes Go.WideShapes Go.Deep
structure Taint where
  key : ByteArray
  value : ByteArray
  effect : Int
def C_Taint (d : Taint) (cs : List Value) : Prop := cs = [.string d.key, .string d.value, .int .i64 d.effect] ∧ d.key.size ≤ 9223372036854775807 ∧ d.value.size ≤ 9223372036854775807 ∧ I64 d.effect
abbrev Sl_Taint (lo hi : Nat) (w : World) (l : List Taint) (v : Value) : Prop := SlOf (C_Taint) 3 lo hi w l v
theorem Sl_Taint.keep {lo hi lo' hi' : Nat} {w w' : World} {l : List Taint} {v : Value} (h : Sl_Taint lo hi w l v) (hs : Same lo hi w w') (h1 : lo' ≤ lo) (h2 : hi ≤ hi') : Sl_Taint lo' hi' w' l v := SlOf.keep h hs h1 h2 (fun _ _ _ h => h)
theorem Sl_Taint.now {lo : Nat} {w w' : World} {l : List Taint} {v : Value} (h : Sl_Taint lo w.heap.size w l v) (hb : Below w.heap.size w w') : Sl_Taint lo w'.heap.size w' l v := h.keep (same_below hb) (Nat.le_refl _) hb.size
structure Tolerance where
  key : ByteArray
  equal : Bool
  value : ByteArray
  effect : Int
def C_Tolerance (d : Tolerance) (cs : List Value) : Prop := cs = [.string d.key, .bool d.equal, .string d.value, .int .i64 d.effect] ∧ d.key.size ≤ 9223372036854775807 ∧ d.value.size ≤ 9223372036854775807 ∧ I64 d.effect
abbrev Sl_Tolerance (lo hi : Nat) (w : World) (l : List Tolerance) (v : Value) : Prop := SlOf (C_Tolerance) 4 lo hi w l v
theorem Sl_Tolerance.keep {lo hi lo' hi' : Nat} {w w' : World} {l : List Tolerance} {v : Value} (h : Sl_Tolerance lo hi w l v) (hs : Same lo hi w w') (h1 : lo' ≤ lo) (h2 : hi ≤ hi') : Sl_Tolerance lo' hi' w' l v := SlOf.keep h hs h1 h2 (fun _ _ _ h => h)
theorem Sl_Tolerance.now {lo : Nat} {w w' : World} {l : List Tolerance} {v : Value} (h : Sl_Tolerance lo w.heap.size w l v) (hb : Below w.heap.size w w') : Sl_Tolerance lo w'.heap.size w' l v := h.keep (same_below hb) (Nat.le_refl _) hb.size
structure Label where
  key : ByteArray
  value : ByteArray
def C_Label (d : Label) (cs : List Value) : Prop := cs = [.string d.key, .string d.value] ∧ d.key.size ≤ 9223372036854775807 ∧ d.value.size ≤ 9223372036854775807
abbrev Sl_Label (lo hi : Nat) (w : World) (l : List Label) (v : Value) : Prop := SlOf (C_Label) 2 lo hi w l v
theorem Sl_Label.keep {lo hi lo' hi' : Nat} {w w' : World} {l : List Label} {v : Value} (h : Sl_Label lo hi w l v) (hs : Same lo hi w w') (h1 : lo' ≤ lo) (h2 : hi ≤ hi') : Sl_Label lo' hi' w' l v := SlOf.keep h hs h1 h2 (fun _ _ _ h => h)
theorem Sl_Label.now {lo : Nat} {w w' : World} {l : List Label} {v : Value} (h : Sl_Label lo w.heap.size w l v) (hb : Below w.heap.size w w') : Sl_Label lo w'.heap.size w' l v := h.keep (same_below hb) (Nat.le_refl _) hb.size
structure Need where
  key : ByteArray
  op : Int
  values : List ByteArray
def C_Need (lo hi : Nat) (w : World) (d : Need) (cs : List Value) : Prop := ∃ v2, cs = [.string d.key, .int .i64 d.op, v2] ∧ d.key.size ≤ 9223372036854775807 ∧ I64 d.op ∧ Sl_Str lo hi w d.values v2
abbrev Sl_Need (lo hi : Nat) (w : World) (l : List Need) (v : Value) : Prop := SlOf (C_Need lo hi w) 3 lo hi w l v
theorem C_Need.keep {lo hi lo' hi' : Nat} {w w' : World} {d : Need} {cs : List Value} (h : C_Need lo hi w d cs) (hs : Same lo hi w w') (h1 : lo' ≤ lo) (h2 : hi ≤ hi') : C_Need lo' hi' w' d cs := by
  obtain ⟨v2, hc, a0, a1, a2⟩ := h
  exact ⟨v2, hc, a0, a1, a2.keep hs h1 h2⟩
theorem Sl_Need.keep {lo hi lo' hi' : Nat} {w w' : World} {l : List Need} {v : Value} (h : Sl_Need lo hi w l v) (hs : Same lo hi w w') (h1 : lo' ≤ lo) (h2 : hi ≤ hi') : Sl_Need lo' hi' w' l v := SlOf.keep h hs h1 h2 (fun _ _ _ h => C_Need.keep h hs h1 h2)
theorem Sl_Need.now {lo : Nat} {w w' : World} {l : List Need} {v : Value} (h : Sl_Need lo w.heap.size w l v) (hb : Below w.heap.size w w') : Sl_Need lo w'.heap.size w' l v := h.keep (same_below hb) (Nat.le_refl _) hb.size
theorem C_Need.now {lo : Nat} {w w' : World} {d : Need} {cs : List Value} (h : C_Need lo w.heap.size w d cs) (hb : Below w.heap.size w w') : C_Need lo w'.heap.size w' d cs := h.keep (same_below hb) (Nat.le_refl _) hb.size
structure Host where
  name : ByteArray
  labels : List Label
  cpu : Int
  mem : Int
  slots : Int
  taints : List Taint
def C_Host (lo hi : Nat) (w : World) (d : Host) (cs : List Value) : Prop := ∃ v1 v5, cs = [.string d.name, v1, .int .i64 d.cpu, .int .i64 d.mem, .int .i64 d.slots, v5] ∧ d.name.size ≤ 9223372036854775807 ∧ Sl_Label lo hi w d.labels v1 ∧ I64 d.cpu ∧ I64 d.mem ∧ I64 d.slots ∧ Sl_Taint lo hi w d.taints v5
abbrev Sl_Host (lo hi : Nat) (w : World) (l : List Host) (v : Value) : Prop := SlOf (C_Host lo hi w) 6 lo hi w l v
theorem C_Host.keep {lo hi lo' hi' : Nat} {w w' : World} {d : Host} {cs : List Value} (h : C_Host lo hi w d cs) (hs : Same lo hi w w') (h1 : lo' ≤ lo) (h2 : hi ≤ hi') : C_Host lo' hi' w' d cs := by
  obtain ⟨v1, v5, hc, a0, a1, a2, a3, a4, a5⟩ := h
  exact ⟨v1, v5, hc, a0, a1.keep hs h1 h2, a2, a3, a4, a5.keep hs h1 h2⟩
theorem Sl_Host.keep {lo hi lo' hi' : Nat} {w w' : World} {l : List Host} {v : Value} (h : Sl_Host lo hi w l v) (hs : Same lo hi w w') (h1 : lo' ≤ lo) (h2 : hi ≤ hi') : Sl_Host lo' hi' w' l v := SlOf.keep h hs h1 h2 (fun _ _ _ h => C_Host.keep h hs h1 h2)
theorem Sl_Host.now {lo : Nat} {w w' : World} {l : List Host} {v : Value} (h : Sl_Host lo w.heap.size w l v) (hb : Below w.heap.size w w') : Sl_Host lo w'.heap.size w' l v := h.keep (same_below hb) (Nat.le_refl _) hb.size
theorem C_Host.now {lo : Nat} {w w' : World} {d : Host} {cs : List Value} (h : C_Host lo w.heap.size w d cs) (hb : Below w.heap.size w w') : C_Host lo w'.heap.size w' d cs := h.keep (same_below hb) (Nat.le_refl _) hb.size
structure Pod where
  name : ByteArray
  labels : List Label
  cpu : Int
  mem : Int
  rank : Int
  needs : List Need
  tolerances : List Tolerance
def C_Pod (lo hi : Nat) (w : World) (d : Pod) (cs : List Value) : Prop := ∃ v1 v5 v6, cs = [.string d.name, v1, .int .i64 d.cpu, .int .i64 d.mem, .int .i64 d.rank, v5, v6] ∧ d.name.size ≤ 9223372036854775807 ∧ Sl_Label lo hi w d.labels v1 ∧ I64 d.cpu ∧ I64 d.mem ∧ I64 d.rank ∧ Sl_Need lo hi w d.needs v5 ∧ Sl_Tolerance lo hi w d.tolerances v6
abbrev Sl_Pod (lo hi : Nat) (w : World) (l : List Pod) (v : Value) : Prop := SlOf (C_Pod lo hi w) 7 lo hi w l v
theorem C_Pod.keep {lo hi lo' hi' : Nat} {w w' : World} {d : Pod} {cs : List Value} (h : C_Pod lo hi w d cs) (hs : Same lo hi w w') (h1 : lo' ≤ lo) (h2 : hi ≤ hi') : C_Pod lo' hi' w' d cs := by
  obtain ⟨v1, v5, v6, hc, a0, a1, a2, a3, a4, a5, a6⟩ := h
  exact ⟨v1, v5, v6, hc, a0, a1.keep hs h1 h2, a2, a3, a4, a5.keep hs h1 h2, a6.keep hs h1 h2⟩
theorem Sl_Pod.keep {lo hi lo' hi' : Nat} {w w' : World} {l : List Pod} {v : Value} (h : Sl_Pod lo hi w l v) (hs : Same lo hi w w') (h1 : lo' ≤ lo) (h2 : hi ≤ hi') : Sl_Pod lo' hi' w' l v := SlOf.keep h hs h1 h2 (fun _ _ _ h => C_Pod.keep h hs h1 h2)
theorem Sl_Pod.now {lo : Nat} {w w' : World} {l : List Pod} {v : Value} (h : Sl_Pod lo w.heap.size w l v) (hb : Below w.heap.size w w') : Sl_Pod lo w'.heap.size w' l v := h.keep (same_below hb) (Nat.le_refl _) hb.size
theorem C_Pod.now {lo : Nat} {w w' : World} {d : Pod} {cs : List Value} (h : C_Pod lo w.heap.size w d cs) (hb : Below w.heap.size w w') : C_Pod lo w'.heap.size w' d cs := h.keep (same_below hb) (Nat.le_refl _) hb.size
section
variable {H : Type} {enc : TypeId × Value → H} {w : World} {base : Nat} {spare : Nat → Bool} {held : Bool} {fuel : Nat} {cs : List Value} {x : DataW H × List MemPlace}
variable {r : Reach} {b0 : Nat} {v : Value} {d : DataW H} {p : List MemPlace}
end
end Go.Proofs.YtffelpdefjkeaaaGreatDoor
namespace Go.Proofs.YtffelpdefjkeaaaGreatDoor
open Go.RowKit
def szL {D : Type} (f : D → Nat) : List D → Nat
  | [] => 0
  | d :: l => f d + szL f l
theorem szL_append {D : Type} (f : D → Nat) (a b : List D) : szL f (a ++ b) = szL f a + szL f b := by
  induction a with
  | nil => simp [szL]
  | cons x xs ih => simp [szL, ih]; omega
theorem szL_take_succ {D : Type} (f : D → Nat) (l : List D) (k : Nat) (d : D) (h : l[k]? = some d) : szL f (l.take (k + 1)) = szL f (l.take k) + f d := by
  have hl : k < l.length := (List.getElem?_eq_some_iff.1 h).1
  rw [List.take_succ_eq_append_getElem hl, szL_append]
  have : l[k] = d := by rw [List.getElem?_eq_getElem hl] at h; exact Option.some.inj h
  simp [szL, this]
theorem szL_take_le {D : Type} (f : D → Nat) (l : List D) (k : Nat) : szL f (l.take k) ≤ szL f l := by
  have := szL_append f (l.take k) (l.drop k); rw [List.take_append_drop] at this; omega
theorem exists_at {D : Type} {l : List D} {k : Nat} (h : k < l.length) : ∃ d, l[k]? = some d := ⟨l[k], List.getElem?_eq_getElem h⟩
def nL {D : Type} (f : D → Nat) (l : List D) : Nat := l.length + szL f l
theorem nL_def {D : Type} (f : D → Nat) (l : List D) : nL f l = l.length + szL f l := rfl
end Go.Proofs.YtffelpdefjkeaaaGreatDoor
namespace Go.Proofs.YtffelpdefjkeaaaGreatDoor
open Go.RowKit
/-- Blocks that are not in S are the same in both worlds. -/
structure Aside (S : Nat → Prop) (w w' : World) : Prop where
  os : w'.os = w.os
  tape : w'.tape = w.tape
  output : w'.output = w.output
  size : w.heap.size ≤ w'.heap.size
  block : ∀ b, b < w.heap.size → ¬ S b → w'.heap[b]? = w.heap[b]?
theorem Aside.refl (S : Nat → Prop) (w : World) : Aside S w w := ⟨rfl, rfl, rfl, Nat.le_refl _, fun _ _ _ => rfl⟩
theorem Aside.trans {S : Nat → Prop} {a b c : World} (h : Aside S a b) (k : Aside S b c) : Aside S a c :=
  ⟨k.os.trans h.os, k.tape.trans h.tape, k.output.trans h.output, Nat.le_trans h.size k.size, fun i hi hs => (k.block i (Nat.lt_of_lt_of_le hi h.size) hs).trans (h.block i hi hs)⟩
theorem Aside.mono {S S' : Nat → Prop} {a b : World} (h : Aside S a b) (hs : ∀ i, S i → S' i) : Aside S' a b := ⟨h.os, h.tape, h.output, h.size, fun i hi hn => h.block i hi (fun x => hn (hs i x))⟩
theorem Aside.of_below {S : Nat → Prop} {a b : World} (h : Below a.heap.size a b) : Aside S a b := ⟨h.os, h.tape, h.output, h.size, fun i hi _ => h.block i hi⟩
theorem Aside.below {S : Nat → Prop} {B : Nat} {a b : World} (h : Aside S a b) (hB : B ≤ a.heap.size) (hs : ∀ i, S i → B ≤ i) : Below B a b :=
  ⟨h.os, h.tape, h.output, h.size, fun i hi => h.block i (Nat.lt_of_lt_of_le hi hB) (fun x => absurd (hs i x) (by omega))⟩
theorem Aside.setCell {S : Nat → Prop} {a b : World} {p : Addr} {u : Value} (h : Aside S a b) (hp : S p.block) : Aside S a (b.setCell p u) :=
  h.trans ⟨rfl, rfl, rfl, by simp [World.setCell], fun i _ hn => Below.heap_setCell b p u i (fun e => hn (e ▸ hp))⟩
/-- v is a slice of the strings l, in a row of a block of S. -/
def OwnS (S : Nat → Prop) (w : World) (l : List ByteArray) (v : Value) : Prop :=
  ∃ A c, v = .slice A l.length c ∧ l.length ≤ c ∧ c ≤ 9223372036854775807 ∧ (0 < l.length → ∃ g cur, A = some ⟨g, 0, none⟩ ∧ S g ∧ w.heap[g]? = some (.cells cur 9 (0, 0)) ∧ ∀ (i : Nat) (s : ByteArray), l[i]? = some s → cur[i]? = some (Value.string s) ∧ s.size ≤ 9223372036854775807)
theorem OwnS.form {S : Nat → Prop} {w : World} {l : List ByteArray} {v : Value} (h : OwnS S w l v) : ∃ A c, v = .slice A l.length c := by
  obtain ⟨A, c, hv, _⟩ := h
  exact ⟨A, c, hv⟩
theorem OwnS.carry {S S' : Nat → Prop} {w w' : World} {l : List ByteArray} {v : Value} (h : OwnS S w l v) (hs : ∀ b, S b → w'.heap[b]? = w.heap[b]?) (hS : ∀ b, S b → S' b) : OwnS S' w' l v := by
  obtain ⟨A, c, hv, h1, h2, h3⟩ := h
  refine ⟨A, c, hv, h1, h2, fun hp => ?_⟩
  obtain ⟨g, cur, hA, hg, hr, hc⟩ := h3 hp
  exact ⟨g, cur, hA, hS g hg, (hs g hg).trans hr, hc⟩
theorem OwnS.toC {S : Nat → Prop} {lo hi : Nat} {w : World} {l : List ByteArray} {v : Value} (h : OwnS S w l v) (hS : ∀ b, S b → lo ≤ b ∧ b < hi) : Sl_Str lo hi w l v := by
  obtain ⟨A, c, rfl, h1, h2, h3⟩ := h
  refine ⟨A, c, rfl, h1, h2, fun hp => ?_⟩
  obtain ⟨g, cur, rfl, hg, hr, hc⟩ := h3 hp
  refine ⟨g, 0, rfl, (hS g hg).1, (hS g hg).2, fun i s hs => ⟨[.string s], rfl, fun j hj => ?_, rfl, (hc i s hs).2⟩⟩
  obtain rfl : j = 0 := by omega
  rw [cell_of_row w g _ cur _ _ hr]
  simpa using (hc i s hs).1
def digit (k : Nat) : ByteArray := ⟨#[UInt8.ofNat (48 + k % 10)]⟩
def mkL (k : Nat) (out : ByteArray) : ByteArray := if k = 0 then out else mkL (k / 10) (digit k ++ out)
  termination_by k
  decreasing_by omega
/-- The mark's text. -/
def mkS (k : Nat) : ByteArray := ⟨#[109]⟩ ++ mkL k ⟨#[]⟩
def mkI (k : Int) : ByteArray := mkS k.toNat
/-- The strings l bear the marks from k on. -/
def MkSs (k : Int) (l : List ByteArray) : Prop := ∀ (i : Nat) (s : ByteArray), l[i]? = some s → s = mkI (k + i)
theorem add_at (b o j : Nat) : (⟨b, o, none⟩ : Addr).add j = ⟨b, o + j, none⟩ := by
  unfold Addr.add
  split
  · simp_all
  · rfl
theorem aside_set {S : Nat → Prop} {a b : World} {p : Addr} {u : Value} (hp : S p.block) (h : Aside S a b) : Aside S a (b.setCell p u) := h.setCell hp
theorem aside_alloc {S : Nat → Prop} {a b : World} {o : Obj} (h : Aside S a b) : Aside S a (b.alloc o) :=
  h.trans ⟨rfl, rfl, rfl, by simp, fun i hi _ => Below.heap_alloc b o i hi⟩
theorem heap_at {w : World} {o : Obj} {b : Nat} (h : b = w.heap.size) : (w.alloc o).heap[b]? = some o := by subst h; exact heap_alloc_new w o
theorem row6 {w : World} {b : Nat} {a0 a1 a2 a3 a4 a5 : Value} {e : TypeId} (hr : w.heap[b]? = some (.cells #[a0, a1, a2, a3, a4, a5] e (0, 0))) :
    w.cell? ⟨b, 0, none⟩ = some a0 ∧ w.cell? ⟨b, 1, none⟩ = some a1 ∧ w.cell? ⟨b, 2, none⟩ = some a2 ∧ w.cell? ⟨b, 3, none⟩ = some a3 ∧ w.cell? ⟨b, 4, none⟩ = some a4 ∧ w.cell? ⟨b, 5, none⟩ = some a5 ∧ ∀ o, w.frozen? ⟨b, o, none⟩ = false :=
  ⟨by rw [cell_of_row _ _ _ _ _ _ hr]; rfl, by rw [cell_of_row _ _ _ _ _ _ hr]; rfl, by rw [cell_of_row _ _ _ _ _ _ hr]; rfl, by rw [cell_of_row _ _ _ _ _ _ hr]; rfl, by rw [cell_of_row _ _ _ _ _ _ hr]; rfl, by rw [cell_of_row _ _ _ _ _ _ hr]; rfl, fun o => frozen_row hr o⟩
theorem ownsRow_carry {w w' : World} {base : Nat} {e : TypeId} {size : Nat} {v : Value} {n : Nat} {xs : List Value} (h : w.ownsRow base e size v n xs) (hb : ∀ g, v.ownBlock = some g → w'.heap[g]? = w.heap[g]?) : w'.ownsRow base e size v n xs := by
  refine ⟨h.1, ?_⟩
  rcases h.2 with h0 | ⟨g, cap, cur, rfl, h1, h2, h3⟩
  · exact .inl h0
  · exact .inr ⟨g, cap, cur, rfl, h1, (hb g rfl).trans h2, h3⟩
theorem news_strs {w : World} {lo hi : Nat} {l : List ByteArray} {A : Addr} {c : Nat} (h : Sl_Str lo hi w l (.slice (some A) l.length c)) (hp : 0 < l.length) : ∀ j u, (l.map Value.string)[j]? = some u → w.cell? (A.add j) = some u := by
  intro j u hu
  obtain ⟨A', c', hv, h1, h2, h3⟩ := h
  obtain ⟨b, o, rfl, -, -, hcell⟩ := h3 hp
  simp only [Value.slice.injEq, Option.some.injEq] at hv
  obtain ⟨rfl, -, -⟩ := hv
  rw [List.getElem?_map] at hu
  rcases hs : l[j]? with _ | s
  · rw [hs] at hu; cases hu
  · rw [hs] at hu
    simp at hu
    subst hu
    obtain ⟨cs, -, hcs, rfl, -⟩ := hcell j s hs
    have := hcs 0 (by omega)
    rw [add_at]
    simpa using this
theorem one_strs (l : List ByteArray) : ∀ u ∈ l.map Value.string, u.oneCell' = true := by
  intro u hu
  obtain ⟨s, -, rfl⟩ := List.mem_map.1 hu
  rfl
theorem size_strs {w : World} {lo hi : Nat} {l : List ByteArray} {v : Value} (h : Sl_Str lo hi w l v) : ∀ s ∈ l, s.size ≤ 9223372036854775807 := by
  intro s hs
  obtain ⟨i, hi⟩ := List.getElem?_of_mem hs
  obtain ⟨A, c, rfl, -, -, h3⟩ := h
  obtain ⟨b, o, -, -, -, hcell⟩ := h3 (Nat.lt_of_le_of_lt (Nat.zero_le i) (List.getElem?_eq_some_iff.1 hi).1)
  obtain ⟨cs, -, -, -, h4⟩ := hcell i s hi
  exact h4
theorem run_append_none {P : Program} (w : World) (t ty : TypeId) (base : Nat) (e : TypeId) (i : TypeInfo) (size : Nat) (ht : P.underlying t = some (.slice e)) (hi : P.info? e = some i)
    (v : Value) (n : Nat) (xs : List Value) (hown : w.ownsRow base e size v n xs) (c : Nat) :
    (Builtin.append_ #[t, t] ty #[v, .slice none 0 c]).run P w = .ok v w := by
  rcases hown.2 with ⟨rfl, rfl⟩ | ⟨g, cap, cur, rfl, hb, hg, hnc, _⟩
  · simp [Builtin.append_, run_underlying ht, sizeOf, typeInfo, hi, Builtin.lenOf, Builtin.firstCells]
  · simp [Builtin.append_, run_underlying ht, sizeOf, typeInfo, hi, Builtin.lenOf, Builtin.firstCells, loadCells, storeCells, hnc]
theorem wpList_append_of {P : Program} {w : World} {ops : Array Oper} {rest : List Oper} {o : Oper} {a : Act} {Q : Exit → Act → World → Prop} (hgd : o.guard = none) (s x : Operand) (t : TypeId)
    (ho : o.op = .call { callee := .builtin .append, args := #[s, x], argTypes := #[t, t] }) (v u v' : Value) (w' : World) (hs : a.eval s = v) (hx : a.eval x = u)
    (hr : (Builtin.append_ #[t, t] o.type #[v, u]).run P w = .ok v' w') (h : wpList P ops Q rest (a.put o.dst v') w') : wpList P ops Q (o :: rest) a w :=
  wpList_plain hgd fun K hK => by
    unfold Oper.wp execOp
    simp only [ho, resolve, invoke, builtin, Sem.run_bind, Sem.run_pure, Result.andThen_ok, List.map_toArray, List.map_cons, List.map_nil, hs, hx, hr]
    exact hK _ _ h
/-- Appending a slice of strings, whatever it is. -/
theorem wpList_append_strs {P : Program} {w : World} {ops : Array Oper} {rest : List Oper} {o : Oper} {a : Act} {Q : Exit → Act → World → Prop} (hgd : o.guard = none) (s x : Operand) (t : TypeId)
    (ho : o.op = .call { callee := .builtin .append, args := #[s, x], argTypes := #[t, t] }) (base : Nat) (e : TypeId) (i : TypeInfo) (z : Value) (bytes : Nat) (ht : P.underlying t = some (.slice e)) (hi : P.info? e = some i) (hz : i.zero = some z)
    (hsize : i.size = 1) (hby : i.bytes = bytes) (hzs : z.cells.size = 1) (v : Value) (n : Nat) (xs : List Value) (hs : a.eval s = v) (hown : w.ownsRow base e 1 v n xs)
    (l : List ByteArray) (A : Option Addr) (c lo hi' : Nat) (hx : a.eval x = .slice A l.length c) (hl : Sl_Str lo hi' w l (.slice A l.length c)) (h63 : n + l.length ≤ 9223372036854775807) (hbytes : (n + l.length) * bytes ≤ 140737488355328) (hbase : base ≤ w.heap.size)
    (h : ∀ v' w', w'.ownsRow base e 1 v' (n + l.length) (xs ++ l.map Value.string) → w.grownBy w' v.ownBlock → (v'.ownBlock = v.ownBlock ∨ v'.ownBlock = some w.heap.size) → wpList P ops Q rest (a.put o.dst v') w') : wpList P ops Q (o :: rest) a w := by
  by_cases hp : 0 < l.length
  · have hl2 := hl
    obtain ⟨A', c', hv, -, -, hA⟩ := hl
    obtain ⟨b, off, rfl, -⟩ := hA hp
    simp only [Value.slice.injEq] at hv
    obtain ⟨rfl, -, rfl⟩ := hv
    exact wpList_append_own_at w hgd s x t ho base e i z 1 bytes ht hi hz hsize hby hzs (by decide) v n xs hs hown ⟨b, off, none⟩ l.length c (l.map Value.string) hx (by simp) (news_strs hl2 hp) (one_strs l) (by unfold maxLen; omega) hbytes hbase (fun v' w' h1 h2 _ h4 => h v' w' h1 h2 h4)
  · obtain rfl : l = [] := List.eq_nil_of_length_eq_zero (by omega)
    rcases A with _ | ad
    · refine wpList_append_of hgd s x t ho v _ v w hs hx (run_append_none w t _ base e i 1 ht hi v n xs hown c) (h v w (by simpa using hown) (World.grownBy.refl _ _) (.inl rfl))
    · exact wpList_append_own_at w hgd s x t ho base e i z 1 bytes ht hi hz hsize hby hzs (by decide) v n xs hs hown ad 0 c [] hx rfl (fun j u h => by simp at h) (fun u h => by simp at h) (by unfold maxLen; omega) hbytes hbase (fun v' w' h1 h2 _ h4 => h v' w' h1 h2 h4)
theorem own_empty {w : World} {e : TypeId} {size base B : Nat} (hB : B = w.heap.size) (hb : base ≤ w.heap.size) : (w.alloc (.cells #[] e)).ownsRow base e size (.slice (some ⟨B, 0, none⟩) 0 0) 0 [] := by
  subst hB
  exact World.ownsRow_made w #[] 0 hb (by decide) (by simp)
theorem own_form {w : World} {base : Nat} {e : TypeId} {size : Nat} {v : Value} {n : Nat} {xs : List Value} (h : w.ownsRow base e size v n xs) : ∃ A c, v = .slice A n c := by
  rcases h.2 with ⟨rfl, rfl⟩ | ⟨g, cap, cur, rfl, _⟩
  · exact ⟨_, _, rfl⟩
  · exact ⟨_, _, rfl⟩
/-- Rows of different kinds are different blocks. -/
theorem own_apart {w : World} {base base' : Nat} {e e' : TypeId} {size size' : Nat} {v v' : Value} {n n' : Nat} {xs xs' : List Value} (h : w.ownsRow base e size v n xs) (h' : w.ownsRow base' e' size' v' n' xs') (he : e ≠ e') : ∀ g, v.ownBlock = some g → v'.ownBlock ≠ some g := by
  intro g h1 h2
  rcases h.2 with ⟨rfl, -⟩ | ⟨g1, cap, cur, rfl, -, hg, -⟩
  · cases h1
  · rcases h'.2 with ⟨rfl, -⟩ | ⟨g2, cap', cur', rfl, -, hg', -⟩
    · cases h2
    · simp [Value.ownBlock] at h1 h2
      subst h1 h2
      rw [hg] at hg'
      simp at hg'
      exact he hg'.2
theorem own_row {w : World} {base : Nat} {e : TypeId} {size : Nat} {g n cap : Nat} {xs : List Value} (h : w.ownsRow base e size (.slice (some ⟨g, 0, none⟩) n cap) n xs) : ∃ cur, w.heap[g]? = some (.cells cur e (0, 0)) ∧ n ≤ cap ∧ cap ≤ maxLen ∧ cur.size = cap * size ∧ cur.toList.take (n * size) = xs ∧ base ≤ g := by
  rcases h.2 with ⟨h1, -⟩ | ⟨g1, cap1, cur, h1, h2, h3, h4, h5, h6, h7⟩
  · cases h1
  · simp only [Value.slice.injEq, Option.some.injEq, Addr.mk.injEq, true_and] at h1
    obtain ⟨⟨rfl, -⟩, rfl⟩ := h1
    exact ⟨cur, h3, h4, h5, h6, h7, h2⟩
theorem own_strs {w : World} {base : Nat} {ks : List ByteArray} {v : Value} (h : w.ownsRow base 9 1 v ks.length (ks.map Value.string)) (hs : ∀ k ∈ ks, k.size ≤ 9223372036854775807) : Sl_Str base w.heap.size w ks v := by
  rcases h.2 with ⟨rfl, h0⟩ | ⟨g, cap, cur, rfl, hb, hg, hn, hcm, hcs, ht⟩
  · exact ⟨none, 0, by rw [h0], by omega, by omega, fun hp => by omega⟩
  · refine ⟨_, _, rfl, hn, hcm, fun hp => ⟨g, 0, rfl, hb, row_lt hg, ?_⟩⟩
    intro i s hi
    have hil := List.getElem?_eq_some_iff.1 hi
    refine ⟨[.string s], rfl, ?_, ?_⟩
    · intro j hj
      obtain rfl : j = 0 := by omega
      have : (cur.toList.take (ks.length * 1))[i]? = (ks.map Value.string)[i]? := by rw [ht]
      rw [List.getElem?_take, if_pos (by have := hil.1; omega), Array.getElem?_toList, List.getElem?_map, hi] at this
      rw [cell_of_row w g _ cur _ _ hg]
      simpa using this
    · exact ⟨rfl, hs s (List.mem_of_getElem? hi)⟩
/-- A row that is owned, read as cells to be appended. -/
theorem own_news {w : World} {base : Nat} {e : TypeId} {size : Nat} {g m cap : Nat} {news : List Value} (h : w.ownsRow base e size (.slice (some ⟨g, 0, none⟩) m cap) m news) : ∀ j u, news[j]? = some u → w.cell? ((⟨g, 0, none⟩ : Addr).add j) = some u := by
  obtain ⟨cur, hg, hn, hcm, hcs, ht, hb⟩ := own_row h
  intro j u hu
  have hadd : (⟨g, 0, none⟩ : Addr).add j = ⟨g, j, none⟩ := by unfold Addr.add; split <;> simp_all
  rw [hadd, cell_of_row w g j cur _ _ hg]
  rw [← ht, List.getElem?_take] at hu
  split at hu
  · simpa using hu
  · cases hu
/-- Appending a row that is owned, empty or not. -/
theorem run_append_row {P : Program} (w : World) (t ty : TypeId) (base : Nat) (e : TypeId) (i : TypeInfo) (z : Value) (size bytes : Nat) (ht : P.underlying t = some (.slice e)) (hi : P.info? e = some i) (hz : i.zero = some z)
    (hsize : i.size = size) (hby : i.bytes = bytes) (hzs : z.cells.size = size) (hsz : 0 < size) (v : Value) (n : Nat) (xs : List Value) (hown : w.ownsRow base e size v n xs)
    (base' m : Nat) (news : List Value) (u : Value) (hu : w.ownsRow base' e size u m news) (h1 : ∀ x ∈ news, x.oneCell' = true) (h63 : n + m ≤ maxLen) (hbytes : (n + m) * bytes ≤ 140737488355328) (hbase : base ≤ w.heap.size) :
    ∃ v' w', (Builtin.append_ #[t, t] ty #[v, u]).run P w = .ok v' w' ∧ w'.ownsRow base e size v' (n + m) (xs ++ news) ∧ w.grownBy w' v.ownBlock ∧ (v'.ownBlock = v.ownBlock ∨ v'.ownBlock = some w.heap.size) := by
  rcases hu.2 with ⟨rfl, rfl⟩ | ⟨g, cap, cur, rfl, -⟩
  · have hx : news = [] := List.eq_nil_of_length_eq_zero (by have := hu.1; omega)
    subst hx
    exact ⟨v, w, run_append_none w t ty base e i size ht hi v n xs hown 0, by simpa using hown, World.grownBy.refl _ _, .inl rfl⟩
  · obtain ⟨v', w', hr, h2, h3, _, h5⟩ := run_append_own_at (P := P) w base t ty e i z size bytes ht hi hz hsize hby hzs hsz v n xs hown ⟨g, 0, none⟩ m cap news hu.1 (own_news hu) h1 h63 hbytes hbase
    exact ⟨v', w', hr, h2, h3, h5⟩
theorem step_append_of {P : Program} {w : World} {ops : Array Oper} {o : Oper} {a : Act} {K : Act → World → Prop} {Q : Exit → Act → World → Prop} {E : Prop} (hgd : o.guard = none) (s x : Operand) (t : TypeId)
    (ho : o.op = .call { callee := .builtin .append, args := #[s, x], argTypes := #[t, t] }) (v u v' : Value) (w' : World) (hs : a.eval s = v) (hx : a.eval x = u)
    (hr : (Builtin.append_ #[t, t] o.type #[v, u]).run P w = .ok v' w') (h : K (a.put o.dst v') w') : if Region.wanted o (yielded ops a.tmps) = true then Oper.wp P o a w K Q else E := by
  have hw : Region.wanted o (yielded ops a.tmps) = true := by simp [Region.wanted, hgd]
  rw [if_pos hw]
  unfold Oper.wp execOp
  simp only [ho, resolve, invoke, builtin, Sem.run_bind, Sem.run_pure, Result.andThen_ok, List.map_toArray, List.map_cons, List.map_nil, hs, hx, hr]
  exact h
theorem own_cap {w : World} {base : Nat} {e : TypeId} {size n c : Nat} {A : Option Addr} {xs : List Value} (h : w.ownsRow base e size (.slice A n c) n xs) : n ≤ c := by
  rcases h.2 with ⟨h1, rfl⟩ | ⟨g, cap, cur, h1, hb, hg, hn, hcm, hcs, ht⟩
  · omega
  · simp only [Value.slice.injEq] at h1
    obtain ⟨-, -, rfl⟩ := h1
    exact hn
theorem own_less {w : World} {base base' : Nat} {e : TypeId} {size : Nat} {v : Value} {n : Nat} {xs : List Value} (h : w.ownsRow base e size v n xs) (hb : base' ≤ base) : w.ownsRow base' e size v n xs := by
  refine ⟨h.1, ?_⟩
  rcases h.2 with h0 | ⟨g, cap, cur, h1, h2, h3⟩
  · exact .inl h0
  · exact .inr ⟨g, cap, cur, h1, Nat.le_trans hb h2, h3⟩
theorem row3 {w : World} {b : Nat} {a0 a1 a2 : Value} {e : TypeId} (hr : w.heap[b]? = some (.cells #[a0, a1, a2] e (0, 0))) :
    w.cell? ⟨b, 0, none⟩ = some a0 ∧ w.cell? ⟨b, 1, none⟩ = some a1 ∧ w.cell? ⟨b, 2, none⟩ = some a2 ∧ ∀ o, w.frozen? ⟨b, o, none⟩ = false :=
  ⟨by rw [cell_of_row _ _ _ _ _ _ hr]; rfl, by rw [cell_of_row _ _ _ _ _ _ hr]; rfl, by rw [cell_of_row _ _ _ _ _ _ hr]; rfl, fun o => frozen_row hr o⟩
theorem row4 {w : World} {b : Nat} {a0 a1 a2 a3 : Value} {e : TypeId} (hr : w.heap[b]? = some (.cells #[a0, a1, a2, a3] e (0, 0))) :
    w.cell? ⟨b, 0, none⟩ = some a0 ∧ w.cell? ⟨b, 1, none⟩ = some a1 ∧ w.cell? ⟨b, 2, none⟩ = some a2 ∧ w.cell? ⟨b, 3, none⟩ = some a3 ∧ ∀ o, w.frozen? ⟨b, o, none⟩ = false :=
  ⟨by rw [cell_of_row _ _ _ _ _ _ hr]; rfl, by rw [cell_of_row _ _ _ _ _ _ hr]; rfl, by rw [cell_of_row _ _ _ _ _ _ hr]; rfl, by rw [cell_of_row _ _ _ _ _ _ hr]; rfl, fun o => frozen_row hr o⟩
end Go.Proofs.YtffelpdefjkeaaaGreatDoor
namespace Go.Proofs.YtffelpdefjkeaaaGreatDoor
open Go.RowKit
def RowAt {D : Type} (C : D → List Value → Prop) (sz : Nat) (cur : Array Value) (l : List D) : Prop := ∀ i d, l[i]? = some d → ∃ es, es.length = sz ∧ (∀ j, j < sz → cur[i * sz + j]? = es[j]?) ∧ C d es
/-- v is a slice of the structs l, in one row of a block of S. -/
def OwnR {D : Type} (C : D → List Value → Prop) (sz ty : Nat) (S : Nat → Prop) (w : World) (l : List D) (v : Value) : Prop :=
  ∃ A c, v = .slice A l.length c ∧ l.length ≤ c ∧ c ≤ 9223372036854775807 ∧ (0 < l.length → ∃ g cur, A = some ⟨g, 0, none⟩ ∧ S g ∧ w.heap[g]? = some (.cells cur ty (0, 0)) ∧ RowAt C sz cur l)
theorem OwnR.form {D : Type} {C : D → List Value → Prop} {sz ty : Nat} {S : Nat → Prop} {w : World} {l : List D} {v : Value} (h : OwnR C sz ty S w l v) : ∃ A c, v = .slice A l.length c := by
  obtain ⟨A, c, hv, _⟩ := h
  exact ⟨A, c, hv⟩
theorem OwnR.carry {D : Type} {C : D → List Value → Prop} {sz ty : Nat} {S S' : Nat → Prop} {w w' : World} {l : List D} {v : Value} (h : OwnR C sz ty S w l v) (hs : ∀ b, S b → w'.heap[b]? = w.heap[b]?) (hS : ∀ b, S b → S' b) : OwnR C sz ty S' w' l v := by
  obtain ⟨A, c, hv, h1, h2, h3⟩ := h
  refine ⟨A, c, hv, h1, h2, fun hp => ?_⟩
  obtain ⟨g, cur, hA, hg, hr, hc⟩ := h3 hp
  exact ⟨g, cur, hA, hS g hg, (hs g hg).trans hr, hc⟩
theorem OwnR.toC {D : Type} {C : D → List Value → Prop} {sz ty lo hi : Nat} {S : Nat → Prop} {w : World} {l : List D} {v : Value} (h : OwnR C sz ty S w l v) (hS : ∀ b, S b → lo ≤ b ∧ b < hi) : SlOf C sz lo hi w l v := by
  obtain ⟨A, c, rfl, h1, h2, h3⟩ := h
  refine ⟨A, c, rfl, h1, h2, fun hp => ?_⟩
  obtain ⟨g, cur, rfl, hg, hr, hc⟩ := h3 hp
  refine ⟨g, 0, rfl, (hS g hg).1, (hS g hg).2, fun i d hd => ?_⟩
  obtain ⟨es, e1, e2, e3⟩ := hc i d hd
  refine ⟨es, e1, fun j hj => ?_, e3⟩
  rw [cell_of_row w g _ cur _ _ hr, Nat.zero_add]
  exact e2 j hj
theorem RowAt.set {D : Type} {C : D → List Value → Prop} {sz : Nat} {cur : Array Value} {l : List D} (h : RowAt C sz cur l) {k : Nat} {d' : D} {es' : List Value} (hl : es'.length = sz) (hC : C d' es') (hk : k * sz + sz ≤ cur.size) : RowAt C sz (putAt cur (k * sz) es') (l.set k d') := by
  intro i d hd
  rw [List.getElem?_set] at hd
  by_cases he : k = i
  · subst he
    rw [if_pos rfl] at hd
    by_cases hkl : k < l.length
    · rw [if_pos hkl] at hd
      obtain rfl := Option.some.inj hd
      exact ⟨es', hl, fun j hj => get_putAt _ _ _ j (by omega) (by omega), hC⟩
    · rw [if_neg hkl] at hd; cases hd
  · rw [if_neg he] at hd
    obtain ⟨es, e1, e2, e3⟩ := h i d hd
    refine ⟨es, e1, fun j hj => ?_, e3⟩
    rw [← e2 j hj]
    rcases Nat.lt_or_ge i k with h1 | h1
    · have := Nat.mul_le_mul_right sz h1
      rw [Nat.succ_mul] at this
      rw [get_putAt_lt _ _ _ _ (by omega)]
    · have h2 : k < i := by omega
      have := Nat.mul_le_mul_right sz h2
      rw [Nat.succ_mul] at this
      rw [get_putAt_ge _ _ _ _ (by omega)]
theorem RowAt.size {D : Type} {C : D → List Value → Prop} {sz : Nat} {cur : Array Value} {l : List D} (h : RowAt C sz cur l) {k : Nat} {d : D} (hd : l[k]? = some d) (hz : 0 < sz) : k * sz + sz ≤ cur.size := by
  obtain ⟨es, e1, e2, -⟩ := h k d hd
  have h3 := e2 (sz - 1) (by omega)
  rw [List.getElem?_eq_getElem (by omega)] at h3
  have := (Array.getElem?_eq_some_iff.1 h3).1
  omega
end Go.Proofs.YtffelpdefjkeaaaGreatDoor
namespace Go.Proofs.YtffelpdefjkeaaaGreatDoor
open Go.RowKit
def flatE {D : Type} (enc : D → List Value) (l : List D) : List Value := (l.map enc).flatten
/-- v is a row of the call's own, behind block base, that holds the members l. -/
def RowE {D : Type} (enc : D → List Value) (sz : Nat) (ty : TypeId) (base : Nat) (w : World) (l : List D) (v : Value) : Prop := w.ownsRow base ty sz v l.length (flatE enc l)
theorem enc_six {D : Type} {enc : D → List Value} {sz : Nat} (hk : ∀ d, (enc d).length = sz) (l : List D) : ∀ es ∈ l.map enc, es.length = sz := by
  intro es h
  obtain ⟨d, -, rfl⟩ := List.mem_map.1 h
  exact hk d
theorem flat_getN {sz : Nat} : ∀ (css : List (List Value)) (i : Nat) (es : List Value) (j : Nat), (∀ es ∈ css, es.length = sz) → css[i]? = some es → j < sz → css.flatten[i * sz + j]? = es[j]?
  | [], i, es, j, _, h, _ => by cases h
  | c :: css, 0, es, j, h6, h, hj => by
    simp at h
    subst h
    have := h6 c (by simp)
    rw [List.flatten_cons, Nat.zero_mul, Nat.zero_add, List.getElem?_append_left (by omega)]
  | c :: css, i + 1, es, j, h6, h, hj => by
    have hc := h6 c (by simp)
    have ih := flat_getN css i es j (fun es h => h6 es (by simp [h])) (by simpa using h) hj
    rw [List.flatten_cons, List.getElem?_append_right (by rw [hc, Nat.succ_mul]; omega), ← ih]
    congr 1
    rw [hc, Nat.succ_mul]
    omega
theorem flat_lenN {sz : Nat} : ∀ (css : List (List Value)), (∀ es ∈ css, es.length = sz) → css.flatten.length = css.length * sz
  | [], _ => by simp
  | c :: css, h => by
    rw [List.flatten_cons, List.length_append, flat_lenN css (fun es he => h es (by simp [he])), h c (by simp), List.length_cons, Nat.succ_mul]
    omega
theorem flatE_len {D : Type} {enc : D → List Value} {sz : Nat} (hk : ∀ d, (enc d).length = sz) (l : List D) : (flatE enc l).length = l.length * sz := by
  unfold flatE
  rw [flat_lenN (l.map enc) (enc_six hk l), List.length_map]
theorem flatE_at {D : Type} {enc : D → List Value} {sz : Nat} (hk : ∀ d, (enc d).length = sz) {l : List D} {i : Nat} {d : D} (h : l[i]? = some d) {j : Nat} (hj : j < sz) : (flatE enc l)[i * sz + j]? = (enc d)[j]? :=
  flat_getN (l.map enc) i (enc d) j (enc_six hk l) (by rw [List.getElem?_map, h]; rfl) hj
theorem flatE_app {D : Type} (enc : D → List Value) (l m : List D) : flatE enc (l ++ m) = flatE enc l ++ flatE enc m := by simp [flatE]
theorem RowE.form {D : Type} {enc : D → List Value} {sz ty base : Nat} {w : World} {l : List D} {v : Value} (h : RowE enc sz ty base w l v) : ∃ A c, v = .slice A l.length c := own_form h
theorem RowE.carry {D : Type} {enc : D → List Value} {sz ty base : Nat} {w w' : World} {l : List D} {v : Value} (h : RowE enc sz ty base w l v) (hs : ∀ q, v.ownBlock = some q → w'.heap[q]? = w.heap[q]?) : RowE enc sz ty base w' l v := ownsRow_carry h hs
theorem RowE.less {D : Type} {enc : D → List Value} {sz ty base base' : Nat} {w : World} {l : List D} {v : Value} (h : RowE enc sz ty base w l v) (hb : base' ≤ base) : RowE enc sz ty base' w l v := own_less h hb
theorem RowE.below {D : Type} {enc : D → List Value} {sz ty base : Nat} {w w' : World} {l : List D} {v : Value} (h : RowE enc sz ty base w l v) (hb : Below w.heap.size w w') : RowE enc sz ty base w' l v := h.carry (fun q hq => hb.block q (World.ownsRow.lt h q hq).2)
/-- The row of a member that is there. -/
theorem RowE.row {D : Type} {enc : D → List Value} {sz ty base : Nat} {w : World} {l : List D} {v : Value} (hk : ∀ d, (enc d).length = sz) (h : RowE enc sz ty base w l v) (hp : 0 < l.length) : ∃ g cap cur, v = .slice (some ⟨g, 0, none⟩) l.length cap ∧ base ≤ g ∧ w.heap[g]? = some (.cells cur ty (0, 0)) ∧ l.length ≤ cap ∧ cap ≤ 9223372036854775807 ∧ l.length * sz ≤ cur.size ∧ ∀ i d, l[i]? = some d → ∀ j, j < sz → cur[i * sz + j]? = (enc d)[j]? := by
  obtain ⟨hl, h1⟩ := h
  rcases h1 with ⟨rfl, h0⟩ | ⟨g, cap, cur, rfl, hb, hg, hn, hcm, hcs, ht⟩
  · omega
  · refine ⟨g, cap, cur, rfl, hb, hg, hn, by unfold maxLen at hcm; omega, by rw [hcs]; exact Nat.mul_le_mul_right _ hn, fun i d hd j hj => ?_⟩
    have hi : i < l.length := (List.getElem?_eq_some_iff.1 hd).1
    have h2 := Nat.mul_le_mul_right sz hi
    rw [Nat.succ_mul] at h2
    have : (cur.toList.take (l.length * sz))[i * sz + j]? = (flatE enc l)[i * sz + j]? := by rw [ht]
    rw [List.getElem?_take, if_pos (by omega), Array.getElem?_toList, flatE_at hk hd hj] at this
    exact this
theorem RowE.own {D : Type} {enc : D → List Value} {sz ty base : Nat} {w : World} {l : List D} {v : Value} {C : D → List Value → Prop} (hk : ∀ d, (enc d).length = sz) (h : RowE enc sz ty base w l v) (hC : ∀ d ∈ l, C d (enc d)) : OwnR C sz ty (fun b => v.ownBlock = some b) w l v := by
  by_cases hp : 0 < l.length
  · obtain ⟨g, cap, cur, rfl, -, hg, h1, h2, -, h4⟩ := h.row hk hp
    exact ⟨_, cap, rfl, h1, h2, fun _ => ⟨g, cur, rfl, rfl, hg, fun i d hd => ⟨enc d, hk d, h4 i d hd, hC d (List.mem_of_getElem? hd)⟩⟩⟩
  · rcases h.2 with ⟨rfl, h0⟩ | ⟨g, cap, cur, rfl, hb, hg, hn, hcm, hcs, ht⟩
    · exact ⟨none, 0, by rw [h0], by omega, by decide, fun h => absurd h hp⟩
    · exact ⟨_, cap, rfl, hn, by unfold maxLen at hcm; omega, fun h => absurd h hp⟩
theorem RowE.sl {D : Type} {enc : D → List Value} {sz ty base : Nat} {w : World} {l : List D} {v : Value} {C : D → List Value → Prop} (hk : ∀ d, (enc d).length = sz) (h : RowE enc sz ty base w l v) (hC : ∀ d ∈ l, C d (enc d)) : SlOf C sz base w.heap.size w l v :=
  (h.own hk hC).toC (fun b hb => World.ownsRow.lt h b hb)
theorem RowE.nil {D : Type} {enc : D → List Value} {sz ty base : Nat} {w : World} : RowE enc sz ty base w [] (.slice none 0 0) := ⟨by simp [flatE], .inl ⟨rfl, rfl⟩⟩
theorem one_flat {D : Type} {enc : D → List Value} (h1 : ∀ d, ∀ v ∈ enc d, v.oneCell' = true) (l : List D) : ∀ u ∈ flatE enc l, u.oneCell' = true := by
  intro u hu
  unfold flatE at hu
  obtain ⟨es, h2, h3⟩ := List.mem_flatten.1 hu
  obtain ⟨d, -, rfl⟩ := List.mem_map.1 h2
  exact h1 d u h3
/-- The cells of a slice that came in, read as cells to be appended. -/
theorem news_of {D : Type} {enc : D → List Value} {sz lo hi : Nat} {w : World} {l : List D} {b o c : Nat} {C : D → List Value → Prop} (hk : ∀ d, (enc d).length = sz) (hs : 0 < sz) (h : SlOf C sz lo hi w l (.slice (some ⟨b, o, none⟩) l.length c)) (hC : ∀ d es, C d es → es = enc d) (hp : 0 < l.length) : ∀ j u, (flatE enc l)[j]? = some u → w.cell? ((⟨b, o, none⟩ : Addr).add j) = some u := by
  obtain ⟨A, c', hv, -, -, hA⟩ := h
  obtain ⟨b', o', rfl, -, -, hc⟩ := hA hp
  simp only [Value.slice.injEq, Option.some.injEq, Addr.mk.injEq, and_true] at hv
  obtain ⟨⟨rfl, rfl⟩, -⟩ := hv
  intro j u hu
  have hadd : (⟨b, o, none⟩ : Addr).add j = ⟨b, o + j, none⟩ := by unfold Addr.add; split <;> simp_all
  have hjl : j < l.length * sz := by
    have := (List.getElem?_eq_some_iff.1 hu).1
    rwa [flatE_len hk] at this
  have hi : j / sz < l.length := by rwa [Nat.div_lt_iff_lt_mul hs]
  obtain ⟨d, hd⟩ := exists_at hi
  obtain ⟨es, -, h2, h3⟩ := hc (j / sz) d hd
  obtain rfl := hC d es h3
  have hj : j = j / sz * sz + j % sz := by rw [Nat.mul_comm]; exact (Nat.div_add_mod j sz).symm
  have h4 := h2 (j % sz) (Nat.mod_lt _ hs)
  have h5 := flatE_at hk hd (Nat.mod_lt j hs)
  rw [← hj] at h5
  rw [hadd]
  rw [Nat.add_assoc, ← hj] at h4
  rw [h4, ← h5, hu]
/-- Appending a slice that came in to a row of the call's own. -/
theorem run_append_rows {P : Program} {D : Type} {enc : D → List Value} {C : D → List Value → Prop} (w : World) (t ty : TypeId) (base : Nat) (e : TypeId) (i : TypeInfo) (z : Value) (sz bytes : Nat) (ht : P.underlying t = some (.slice e)) (hi : P.info? e = some i) (hz : i.zero = some z)
    (hsize : i.size = sz) (hby : i.bytes = bytes) (hzs : z.cells.size = sz) (hsz : 0 < sz) (hk : ∀ d, (enc d).length = sz) (h1 : ∀ d, ∀ v ∈ enc d, v.oneCell' = true) (hC : ∀ d es, C d es → es = enc d) (v : Value) (n : Nat) (xs : List D) (hn : xs.length = n) (hown : RowE enc sz e base w xs v)
    (l : List D) (A : Option Addr) (m c lo hi' : Nat) (hm : l.length = m) (hl : SlOf C sz lo hi' w l (.slice A m c)) (h63 : n + m ≤ maxLen) (hbytes : (n + m) * bytes ≤ 140737488355328) (hbase : base ≤ w.heap.size) :
    ∃ v' w', (Builtin.append_ #[t, t] ty #[v, .slice A m c]).run P w = .ok v' w' ∧ RowE enc sz e base w' (xs ++ l) v' ∧ w.grownBy w' v.ownBlock ∧ (v'.ownBlock = v.ownBlock ∨ v'.ownBlock = some w.heap.size) := by
  subst hn hm
  have fin : ∀ v' w', w'.ownsRow base e sz v' (xs.length + l.length) (flatE enc xs ++ flatE enc l) → RowE enc sz e base w' (xs ++ l) v' := fun v' w' h => by
    unfold RowE
    rw [flatE_app, List.length_append]
    exact h
  by_cases hp : 0 < l.length
  · have hl2 := hl
    obtain ⟨A', c', hv, -, -, hA⟩ := hl
    obtain ⟨b, off, rfl, -⟩ := hA hp
    simp only [Value.slice.injEq] at hv
    obtain ⟨rfl, -, rfl⟩ := hv
    obtain ⟨v', w', hr, h2, h3, _, h5⟩ := run_append_own_at (P := P) w base t ty e i z sz bytes ht hi hz hsize hby hzs hsz v xs.length (flatE enc xs) hown ⟨b, off, none⟩ l.length c (flatE enc l) (flatE_len hk l) (news_of hk hsz hl2 hC hp) (one_flat h1 l) h63 hbytes hbase
    exact ⟨v', w', hr, fin v' w' h2, h3, h5⟩
  · obtain rfl : l = [] := List.eq_nil_of_length_eq_zero (by omega)
    rcases A with _ | ad
    · exact ⟨v, w, run_append_none w t ty base e i sz ht hi v xs.length (flatE enc xs) hown c, by simpa using hown, World.grownBy.refl _ _, .inl rfl⟩
    · obtain ⟨v', w', hr, h2, h3, _, h5⟩ := run_append_own_at (P := P) w base t ty e i z sz bytes ht hi hz hsize hby hzs hsz v xs.length (flatE enc xs) hown ad 0 c [] (by simp) (fun j u h => by simp at h) (fun u h => by simp at h) h63 hbytes hbase
      exact ⟨v', w', hr, fin v' w' (by simpa [flatE] using h2), h3, h5⟩
theorem SlOf.take {D : Type} {C : D → List Value → Prop} {sz lo hi : Nat} {w : World} {l : List D} {A : Option Addr} {n c : Nat} (h : SlOf C sz lo hi w l (.slice A n c)) {k : Nat} (hk : k ≤ l.length) : SlOf C sz lo hi w (l.take k) (.slice A k c) := by
  obtain ⟨A', c', hv, h1, h2, hA⟩ := h
  simp only [Value.slice.injEq] at hv
  obtain ⟨rfl, rfl, rfl⟩ := hv
  refine ⟨A, c, by rw [List.length_take]; congr 1; omega, by rw [List.length_take]; omega, h2, fun hp => ?_⟩
  rw [List.length_take] at hp
  obtain ⟨b, o, rfl, h3, h4, hc⟩ := hA (by omega)
  refine ⟨b, o, rfl, h3, h4, fun i d hd => ?_⟩
  rw [List.getElem?_take] at hd
  split at hd
  · exact hc i d hd
  · cases hd
theorem SlOf.drop {D : Type} {C : D → List Value → Prop} {sz lo hi : Nat} {w : World} {l : List D} {b o n c : Nat} (h : SlOf C sz lo hi w l (.slice (some ⟨b, o, none⟩) n c)) {k : Nat} (hk : k ≤ l.length) : SlOf C sz lo hi w (l.drop k) (.slice (some ⟨b, o + k * sz, none⟩) (n - k) (c - k)) := by
  obtain ⟨A', c', hv, h1, h2, hA⟩ := h
  simp only [Value.slice.injEq] at hv
  obtain ⟨rfl, rfl, rfl⟩ := hv
  refine ⟨_, c - k, by rw [List.length_drop], by rw [List.length_drop]; omega, by omega, fun hp => ?_⟩
  rw [List.length_drop] at hp
  obtain ⟨b', o', hbo, h3, h4, hc⟩ := hA (by omega)
  simp only [Option.some.injEq, Addr.mk.injEq, and_true] at hbo
  obtain ⟨rfl, rfl⟩ := hbo
  refine ⟨b, o + k * sz, rfl, h3, h4, fun i d hd => ?_⟩
  rw [List.getElem?_drop] at hd
  obtain ⟨cs, e1, e2, e3⟩ := hc (k + i) d hd
  refine ⟨cs, e1, fun j hj => ?_, e3⟩
  rw [← e2 j hj, Nat.add_mul]
  congr 2
  omega
end Go.Proofs.YtffelpdefjkeaaaGreatDoor
namespace Go.Proofs.YtffelpdefjkeaaaGreatDoor
open Go.RowKit
def lessS (a b : ByteArray) : Bool := Op.bytesLess a.toList b.toList
def C_Int (n : Int) (cs : List Value) : Prop := cs = [.int .i64 n]
end Go.Proofs.YtffelpdefjkeaaaGreatDoor
namespace Go.Proofs.YtffelpdefjkeaaaGreatDoor
open Go.RowKit
/-- Neighbours that are alike are dropped. -/
def compB {D : Type} (eq : D → D → Bool) : List D → List D
  | [] => []
  | [a] => [a]
  | a :: b :: l => if eq b a then compB eq (b :: l) else a :: compB eq (b :: l)
end Go.Proofs.YtffelpdefjkeaaaGreatDoor
namespace Go.Proofs.YtffelpdefjkeaaaGreatDoor
open Go.RowKit
theorem RowE.at {D : Type} {enc : D → List Value} {sz ty base g n c : Nat} {w : World} {l : List D} (hk : ∀ d, (enc d).length = sz) (h : RowE enc sz ty base w l (.slice (some ⟨g, 0, none⟩) n c)) :
    n = l.length ∧ base ≤ g ∧ l.length ≤ c ∧ c ≤ 9223372036854775807 ∧ ∃ cur, w.heap[g]? = some (.cells cur ty (0, 0)) ∧ cur.size = c * sz ∧ ∀ i d, l[i]? = some d → ∀ j, j < sz → cur[i * sz + j]? = (enc d)[j]? := by
  have h0 := h
  obtain ⟨hl, h1⟩ := h
  rcases h1 with ⟨h2, -⟩ | ⟨g', cap, cur, hv, hb, hg, hn, hcm, hcs, ht⟩
  · cases h2
  · simp only [Value.slice.injEq, Option.some.injEq, Addr.mk.injEq, and_true] at hv
    obtain ⟨rfl, rfl, rfl⟩ := hv
    refine ⟨rfl, hb, hn, by unfold maxLen at hcm; omega, cur, hg, hcs, fun i d hd j hj => ?_⟩
    have hi : i < l.length := (List.getElem?_eq_some_iff.1 hd).1
    have h2 := Nat.mul_le_mul_right sz hi
    rw [Nat.succ_mul] at h2
    have : (cur.toList.take (l.length * sz))[i * sz + j]? = (flatE enc l)[i * sz + j]? := by rw [ht]
    rw [List.getElem?_take, if_pos (by omega), Array.getElem?_toList, flatE_at hk hd hj] at this
    exact this
end Go.Proofs.YtffelpdefjkeaaaGreatDoor
