/- Written by wip/tools/pack.py: the texts that FnOrder needs, without what it does not need. No conditions. -/
import Derived.Test.YtffelpdefjkeaaaGreatDoorChecked
import Derived.WalkKit
import Derived.ProofKit
import Derived.WalkLawsBesides
import Derived.Lib.Hide
import Derived.Lib.Bytealg
import Derived.Below
import Derived.Deep.QuietTactic
import Derived.BigQuiet
import Derived.Deep.RegionHeld3
import Derived.Deep.Slices
import Derived.Lib.SmallJoins
import Derived.ChangeArms
import Derived.RowKit
import Derived.Lib.DecodeN
import Derived.Lib.IndexAny
import Derived.Shelf.Lays
import Derived.Shelf.Unicode.DecodeAny
import Derived.Shelf.Unicode.ValidAny
namespace Go.Proofs.YtffelpdefjkeaaaGreatDoor
open Go.RowKit
theorem bcell {W w1 : World} (hb : Below W.heap.size W w1) : (∀ b o, b < W.heap.size → w1.cell? ⟨b, o, none⟩ = W.cell? ⟨b, o, none⟩) ∧ (∀ b o, b < W.heap.size → w1.frozen? ⟨b, o, none⟩ = W.frozen? ⟨b, o, none⟩) :=
  ⟨fun b o h => hb.cell (p := ⟨b, o, none⟩) h, fun b o h => hb.frozen (p := ⟨b, o, none⟩) h⟩
theorem ret_bool {a b : Bool} (h : a = b) : Ending.returned (.bool a) = .returned (.bool b) := by rw [h]
theorem below_drewN {B : Nat} {a w : World} (h : Below B a w) (n : Nat) : Below B a (w.drewN n) := ⟨h.os, h.tape, h.output, h.size, h.block⟩
theorem ext_step {a b c : World} (k : Below b.heap.size b c) (h : Below a.heap.size a b) : Below a.heap.size a c := h.trans (k.mono h.size)
theorem ext_trans {a b c : World} (h : Below a.heap.size a b) (k : Below b.heap.size b c) : Below a.heap.size a c := h.trans (k.mono h.size)
theorem ext_alloc {a b : World} {o : Obj} (h : Below a.heap.size a b) : Below a.heap.size a (b.alloc o) := h.alloc h.size o
theorem ext_setCell {a b : World} {p : Addr} {u : Value} (hp : a.heap.size ≤ p.block) (h : Below a.heap.size a b) : Below a.heap.size a (b.setCell p u) := h.setCell hp u
/-- All that was there in A is there in W. -/
structure Cum (A W : World) : Prop where
  h : Below A.heap.size A W
theorem Cum.join {a b c : World} (h : Cum a b) (k : Below b.heap.size b c) : Cum a c := ⟨ext_step k h.h⟩
theorem lt_pred {a b : Nat} (h : a + 1 < b) : a < b := Nat.lt_of_succ_lt h
theorem lt_of_succ_le {a b : Nat} (h : a + 1 ≤ b) : a < b := h
theorem keep_drew (W : World) : Below W.heap.size W W.drew ∧ (∀ b o, b < W.heap.size → W.drew.cell? ⟨b, o, none⟩ = W.cell? ⟨b, o, none⟩) := ⟨(Below.refl _ _).drew, fun _ _ _ => rfl⟩
theorem keep_same {W a : World} (h : Below W.heap.size W a ∧ (∀ b o, b < W.heap.size → a.cell? ⟨b, o, none⟩ = W.cell? ⟨b, o, none⟩)) : Below W.heap.size W a ∧ (∀ b o, b < W.heap.size → a.cell? ⟨b, o, none⟩ = W.cell? ⟨b, o, none⟩) := h
theorem keep_ext {W a c : World} (h : Below W.heap.size W a ∧ (∀ b o, b < W.heap.size → a.cell? ⟨b, o, none⟩ = W.cell? ⟨b, o, none⟩)) (k : Below a.heap.size a c) : Below W.heap.size W c ∧ (∀ b o, b < W.heap.size → c.cell? ⟨b, o, none⟩ = W.cell? ⟨b, o, none⟩) :=
  have h2 := h.1.trans (k.mono h.1.size)
  ⟨h2, fun b o hb => h2.cell (p := ⟨b, o, none⟩) hb⟩
theorem keep_alloc {W a : World} (h : Below W.heap.size W a ∧ (∀ b o, b < W.heap.size → a.cell? ⟨b, o, none⟩ = W.cell? ⟨b, o, none⟩)) (o : Obj) : Below W.heap.size W (a.alloc o) ∧ (∀ b o', b < W.heap.size → (a.alloc o).cell? ⟨b, o', none⟩ = W.cell? ⟨b, o', none⟩) :=
  have h2 := ext_alloc (o := o) h.1
  ⟨h2, fun b o hb => h2.cell (p := ⟨b, o, none⟩) hb⟩
theorem held_step {W a : World} {X : Prop} (k : Below W.heap.size W a ∧ X) : Below W.heap.size W a := k.1
theorem bel {B : Nat} {a b : World} (h : Below B a b := by repeat (first | (with_reducible exact Below.refl _ _) | (with_reducible refine ext_alloc ?_) | ((with_reducible refine ext_setCell ?_ ?_); focus (simp; (try omega))) | (with_reducible refine below_drewN ?_ _) | (with_reducible refine Below.drew ?_) | (with_reducible (apply ext_step; assumption)))) : Below B a b := h
end Go.Proofs.YtffelpdefjkeaaaGreatDoor
namespace Go.Proofs.YtffelpdefjkeaaaGreatDoor
open Go.RowKit Go.ChangeShapes Go.WideShapes Go.Deep
/-- The slice value v has the elements l; element i's cells satisfy C; they lie in a block from lo on, below hi. -/
def SlOf {D : Type} (C : D → List Value → Prop) (size lo hi : Nat) (w : World) (l : List D) (v : Value) : Prop :=
  ∃ A c, v = .slice A l.length c ∧ l.length ≤ c ∧ c ≤ 9223372036854775807 ∧ (0 < l.length → ∃ b o, A = some ⟨b, o, none⟩ ∧ lo ≤ b ∧ b < hi ∧
    ∀ i d, l[i]? = some d → ∃ cs, cs.length = size ∧ (∀ j, j < size → w.cell? ⟨b, o + i * size + j, none⟩ = cs[j]?) ∧ C d cs)
/-- Blocks from lo on and below hi are the same in both worlds. -/
def Same (lo hi : Nat) (w w' : World) : Prop := ∀ b o, lo ≤ b → b < hi → w'.cell? ⟨b, o, none⟩ = w.cell? ⟨b, o, none⟩
theorem Same.refl (lo hi : Nat) (w : World) : Same lo hi w w := fun _ _ _ _ => rfl
theorem Same.trans {lo hi : Nat} {a b c : World} (h : Same lo hi a b) (k : Same lo hi b c) : Same lo hi a c := fun x o h1 h2 => (k x o h1 h2).trans (h x o h1 h2)
theorem same_below {lo hi : Nat} {w w' : World} (h : Below hi w w') : Same lo hi w w' := fun b o _ h2 => h.cell (p := ⟨b, o, none⟩) h2
theorem same_below' {lo hi B : Nat} {w w' : World} (h : Below B w w') (hB : hi ≤ B) : Same lo hi w w' := same_below (h.mono hB)
theorem Same.mono {lo hi lo' hi' : Nat} {w w' : World} (h : Same lo hi w w') (h1 : lo ≤ lo') (h2 : hi' ≤ hi) : Same lo' hi' w w' := fun b o a c => h b o (by omega) (by omega)
theorem same_setCell {lo hi : Nat} {a b : World} {p : Addr} {u : Value} (hp : p.block < lo) (h : Same lo hi a b) : Same lo hi a (b.setCell p u) :=
  h.trans (fun x o h1 h2 => World.cell?_of_block (Below.heap_setCell b p u x (by omega)))
theorem same_alloc {lo hi : Nat} {a b : World} {o : Obj} (hb : hi ≤ b.heap.size) (h : Same lo hi a b) : Same lo hi a (b.alloc o) :=
  h.trans (fun x _ _ h2 => World.cell?_of_block (Below.heap_alloc b o x (by omega)))
theorem same_drewN {lo hi : Nat} {a b : World} (h : Same lo hi a b) (n : Nat) : Same lo hi a (b.drewN n) := h
theorem same_step {lo hi : Nat} {a b c : World} (k : Below b.heap.size b c) (hb : hi ≤ b.heap.size) (h : Same lo hi a b) : Same lo hi a c := h.trans (same_below' k hb)
theorem SlOf.keep {D : Type} {C C' : D → List Value → Prop} {size lo hi lo' hi' : Nat} {w w' : World} {l : List D} {v : Value}
    (h : SlOf C size lo hi w l v) (hs : Same lo hi w w') (h1 : lo' ≤ lo) (h2 : hi ≤ hi') (hC : ∀ d cs, d ∈ l → C d cs → C' d cs) : SlOf C' size lo' hi' w' l v := by
  obtain ⟨A, c, hv, hlc, hc, hA⟩ := h
  refine ⟨A, c, hv, hlc, hc, fun hp => ?_⟩
  obtain ⟨b, o, hA, hb1, hb2, hcell⟩ := hA hp
  refine ⟨b, o, hA, by omega, by omega, fun i d hi => ?_⟩
  obtain ⟨cs, hl, hcs, hd⟩ := hcell i d hi
  exact ⟨cs, hl, fun j hj => (hs b _ hb1 hb2).trans (hcs j hj), hC d cs (List.mem_of_getElem? hi) hd⟩
theorem SlOf.form {D : Type} {C : D → List Value → Prop} {size lo hi : Nat} {w : World} {l : List D} {v : Value} (h : SlOf C size lo hi w l v) : ∃ A c, v = .slice A l.length c := by
  obtain ⟨A, c, hv, _⟩ := h
  exact ⟨A, c, hv⟩
theorem choose_list {D : Type} (n : Nat) (P : Nat → D → Prop) (h : ∀ i, i < n → ∃ d, P i d) : ∃ l : List D, l.length = n ∧ ∀ i d, l[i]? = some d → P i d := by
  induction n with
  | zero => exact ⟨[], rfl, fun i d hi => by simp at hi⟩
  | succ n ih =>
    obtain ⟨l, hl, hP⟩ := ih (fun i hi => h i (by omega))
    obtain ⟨d, hd⟩ := h n (by omega)
    refine ⟨l ++ [d], by simp [hl], fun i x hi => ?_⟩
    by_cases hlt : i < n
    · rw [List.getElem?_append_left (by omega)] at hi
      exact hP i x hi
    · by_cases he : i = n
      · subst he
        rw [List.getElem?_append_right (by omega), hl] at hi
        simp at hi
        subst hi
        exact hd
      · rw [List.getElem?_eq_none (by simp; omega)] at hi
        cases hi
section
variable {H : Type} {enc : TypeId × Value → H} {P : Program} {w : World} {base : Nat} {spare : Nat → Bool} {held : Bool}
theorem spot_none {w : World} {a : Addr} {v : Value} (h : w.cell? a = some v) : a.spot = none := World.cell?_spot h
theorem slice_cells {t e : TypeId} {fuel size : Nat} {cs : List Value} {x : DataW H × List MemPlace} {D : Type} (C : D → List Value → Prop) (ht : P.underlying t = some (.slice e)) (hsz : P.cellsOf e = size) (hpos : 0 < size)
    (h : DataW.trod enc P w base spare held fuel t cs = some x)
    (hC : ∀ n cs' y, DataW.trod enc P w base spare held n e cs' = some y → ∃ d, C d cs') :
    ∃ v l, cs = [v] ∧ SlOf C size 0 w.heap.size w l v := by
  rcases open_slice ht h with ⟨hcs, _⟩ | ⟨a, len, cap, m, n, D', Pl, hcs, _, hl, hm, hmm, _, hi⟩
  · exact ⟨_, [], hcs, none, 0, rfl, by simp, by simp, fun h => by simp at h⟩
  · have hlm : len ≤ m := by rw [hmm]; split <;> omega
    obtain ⟨l, hll, hP⟩ := choose_list len (fun i d => ∃ cs', w.cells? base (a.add (i * size)) size = some cs' ∧ C d cs') (fun i hlt => by
      obtain ⟨cs', h1, h2⟩ := hi i (by omega)
      obtain ⟨d, hd⟩ := hC n cs' _ h2
      rw [hsz] at h1
      exact ⟨d, cs', h1, hd⟩)
    refine ⟨_, l, hcs, some a, cap, by rw [hll], by omega, by unfold maxLen at hm; omega, fun hp => ?_⟩
    have hget : ∀ i d, l[i]? = some d → ∃ cs', w.cells? base (a.add (i * size)) size = some cs' ∧ C d cs' := hP
    have hspot : a.spot = none := by
      obtain ⟨d0, h0⟩ : ∃ d, l[0]? = some d := ⟨l[0], List.getElem?_eq_getElem hp⟩
      obtain ⟨cs', h1, _⟩ := hget 0 d0 h0
      obtain ⟨_, hlen, hat⟩ := World.cells?_some h1
      have := hat (i := 0) (by omega)
      rw [Go.Deep.add_add] at this
      have hh := spot_none (this.trans (List.getElem?_eq_getElem (by omega)))
      simpa [Addr.add] using hh
    obtain ⟨b, o, s⟩ := a
    simp at hspot
    subst hspot
    have hblk : b < w.heap.size := by
      obtain ⟨d0, h0⟩ : ∃ d, l[0]? = some d := ⟨l[0], List.getElem?_eq_getElem hp⟩
      obtain ⟨cs', h1, _⟩ := hget 0 d0 h0
      obtain ⟨_, hlen, hat⟩ := World.cells?_some h1
      have := hat (i := 0) (by omega)
      have hh := block_lt_of_cell (this.trans (List.getElem?_eq_getElem (by omega)))
      simpa [Addr.add] using hh
    refine ⟨b, o, rfl, Nat.zero_le _, hblk, fun i d hid => ?_⟩
    obtain ⟨cs', h1, hd⟩ := hget i d hid
    obtain ⟨_, hlen, hat⟩ := World.cells?_some h1
    refine ⟨cs', hlen, fun j hj => ?_, hd⟩
    have := hat (i := j) (by omega)
    rw [Go.Deep.add_add] at this
    have e : (⟨b, o, none⟩ : Addr).add (i * size + j) = ⟨b, o + i * size + j, none⟩ := by
      rw [Nat.add_assoc]
      unfold Addr.add
      split
      · simp_all
      · rfl
    rw [e] at this
    exact this
def I64 (n : Int) : Prop := -9223372036854775808 ≤ n ∧ n ≤ 9223372036854775807
end
def Part {D : Type} (C : D → List Value → Prop) (size : Nat) (l : List D) (k : Nat) (cs : Array Value) : Prop :=
  cs.size = l.length * size ∧ ∀ i d, i < k → l[i]? = some d → ∃ es, es.length = size ∧ (∀ j, j < size → cs[i * size + j]? = es[j]?) ∧ C d es
def putAt (cs : Array Value) (off : Nat) : List Value → Array Value
  | [] => cs
  | v :: vs => putAt (cs.setIfInBounds off v) (off + 1) vs
def putCells (w : World) (g off : Nat) : List Value → World
  | [] => w
  | v :: vs => putCells (w.setCell ⟨g, off, none⟩ v) g (off + 1) vs
theorem size_putAt (vs : List Value) : ∀ (cs : Array Value) (off : Nat), (putAt cs off vs).size = cs.size := by
  induction vs with
  | nil => intro cs off; rfl
  | cons v vs ih => intro cs off; rw [putAt, ih]; simp
theorem get_putAt_lt (vs : List Value) : ∀ (cs : Array Value) (off i : Nat), i < off → (putAt cs off vs)[i]? = cs[i]? := by
  induction vs with
  | nil => intro cs off i _; rfl
  | cons v vs ih => intro cs off i h; rw [putAt, ih _ _ _ (by omega)]; simp [Array.getElem?_setIfInBounds]; omega
theorem get_putAt_ge (vs : List Value) : ∀ (cs : Array Value) (off i : Nat), off + vs.length ≤ i → (putAt cs off vs)[i]? = cs[i]? := by
  induction vs with
  | nil => intro cs off i _; rfl
  | cons v vs ih => intro cs off i h; simp at h; rw [putAt, ih _ _ _ (by omega)]; simp [Array.getElem?_setIfInBounds]; omega
theorem get_putAt (vs : List Value) : ∀ (cs : Array Value) (off j : Nat), j < vs.length → off + vs.length ≤ cs.size → (putAt cs off vs)[off + j]? = vs[j]? := by
  induction vs with
  | nil => intro cs off j h; simp at h
  | cons v vs ih =>
    intro cs off j h hs
    simp at hs
    rw [putAt]
    cases j with
    | zero => rw [get_putAt_lt _ _ _ _ (by omega)]; simp [Array.getElem?_setIfInBounds]; omega
    | succ j =>
      have e : off + (j + 1) = off + 1 + j := by omega
      rw [e, ih _ _ j (by simpa using h) (by simp; omega)]
      simp
theorem Part.mono {D : Type} {C C' : D → List Value → Prop} {size k : Nat} {l : List D} {cs : Array Value} (h : Part C size l k cs) (hC : ∀ d es, C d es → C' d es) : Part C' size l k cs :=
  ⟨h.1, fun i d hi hd => let ⟨es, a, b, c⟩ := h.2 i d hi hd; ⟨es, a, b, hC d es c⟩⟩
theorem Part.zero {D : Type} {C : D → List Value → Prop} {size : Nat} {l : List D} {cs : Array Value} (h : cs.size = l.length * size) : Part C size l 0 cs := ⟨h, fun i _ hi => by omega⟩
theorem heap_putCells (vs : List Value) : ∀ (w : World) (g off : Nat) (cs : Array Value) (e : TypeId), w.heap[g]? = some (.cells cs e (0, 0)) → (putCells w g off vs).heap[g]? = some (.cells (putAt cs off vs) e (0, 0)) := by
  induction vs with
  | nil => intro w g off cs e h; exact h
  | cons v vs ih => intro w g off cs e h; exact ih _ _ _ _ _ (heap_setCell_same w g off cs e v h)
theorem frozen_row {w : World} {g : Nat} {cs : Array Value} {e : TypeId} (h : w.heap[g]? = some (.cells cs e (0, 0))) (o : Nat) : w.frozen? ⟨g, o, none⟩ = false := frozen_of_row w g o cs e h
theorem row_lt {w : World} {g : Nat} {o : Obj} (h : w.heap[g]? = some o) : g < w.heap.size := (Array.getElem?_eq_some_iff.1 h).1
def C_Str (s : ByteArray) (cs : List Value) : Prop := cs = [.string s] ∧ s.size ≤ 9223372036854775807
abbrev Sl_Str (lo hi : Nat) (w : World) (l : List ByteArray) (v : Value) : Prop := SlOf C_Str 1 lo hi w l v
theorem Sl_Str.keep {lo hi lo' hi' : Nat} {w w' : World} {l : List ByteArray} {v : Value} (h : Sl_Str lo hi w l v) (hs : Same lo hi w w') (h1 : lo' ≤ lo) (h2 : hi ≤ hi') : Sl_Str lo' hi' w' l v := SlOf.keep h hs h1 h2 (fun _ _ _ h => h)
theorem Sl_Str.now {lo : Nat} {w w' : World} {l : List ByteArray} {v : Value} (h : Sl_Str lo w.heap.size w l v) (hb : Below w.heap.size w w') : Sl_Str lo w'.heap.size w' l v := h.keep (same_below hb) (Nat.le_refl _) hb.size
end Go.Proofs.YtffelpdefjkeaaaGreatDoor
namespace Go.Proofs.YtffelpdefjkeaaaGreatDoor
open Go.RowKit Go.ChangeShapes Go.WideShapes Go.Deep
structure Taint where
  key : ByteArray
  value : ByteArray
  effect : Int
def C_Taint (d : Taint) (cs : List Value) : Prop := cs = [.string d.key, .string d.value, .int .i64 d.effect] ∧ d.key.size ≤ 9223372036854775807 ∧ d.value.size ≤ 9223372036854775807 ∧ I64 d.effect
abbrev Sl_Taint (lo hi : Nat) (w : World) (l : List Taint) (v : Value) : Prop := SlOf (C_Taint) 3 lo hi w l v
theorem Sl_Taint.keep {lo hi lo' hi' : Nat} {w w' : World} {l : List Taint} {v : Value} (h : Sl_Taint lo hi w l v) (hs : Same lo hi w w') (h1 : lo' ≤ lo) (h2 : hi ≤ hi') : Sl_Taint lo' hi' w' l v := SlOf.keep h hs h1 h2 (fun _ _ _ h => h)
theorem Sl_Taint.now {lo : Nat} {w w' : World} {l : List Taint} {v : Value} (h : Sl_Taint lo w.heap.size w l v) (hb : Below w.heap.size w w') : Sl_Taint lo w'.heap.size w' l v := h.keep (same_below hb) (Nat.le_refl _) hb.size
structure Tolerance where
  key : ByteArray
  equal : Bool
  value : ByteArray
  effect : Int
def C_Tolerance (d : Tolerance) (cs : List Value) : Prop := cs = [.string d.key, .bool d.equal, .string d.value, .int .i64 d.effect] ∧ d.key.size ≤ 9223372036854775807 ∧ d.value.size ≤ 9223372036854775807 ∧ I64 d.effect
abbrev Sl_Tolerance (lo hi : Nat) (w : World) (l : List Tolerance) (v : Value) : Prop := SlOf (C_Tolerance) 4 lo hi w l v
theorem Sl_Tolerance.keep {lo hi lo' hi' : Nat} {w w' : World} {l : List Tolerance} {v : Value} (h : Sl_Tolerance lo hi w l v) (hs : Same lo hi w w') (h1 : lo' ≤ lo) (h2 : hi ≤ hi') : Sl_Tolerance lo' hi' w' l v := SlOf.keep h hs h1 h2 (fun _ _ _ h => h)
theorem Sl_Tolerance.now {lo : Nat} {w w' : World} {l : List Tolerance} {v : Value} (h : Sl_Tolerance lo w.heap.size w l v) (hb : Below w.heap.size w w') : Sl_Tolerance lo w'.heap.size w' l v := h.keep (same_below hb) (Nat.le_refl _) hb.size
structure Label where
  key : ByteArray
  value : ByteArray
def C_Label (d : Label) (cs : List Value) : Prop := cs = [.string d.key, .string d.value] ∧ d.key.size ≤ 9223372036854775807 ∧ d.value.size ≤ 9223372036854775807
abbrev Sl_Label (lo hi : Nat) (w : World) (l : List Label) (v : Value) : Prop := SlOf (C_Label) 2 lo hi w l v
theorem Sl_Label.keep {lo hi lo' hi' : Nat} {w w' : World} {l : List Label} {v : Value} (h : Sl_Label lo hi w l v) (hs : Same lo hi w w') (h1 : lo' ≤ lo) (h2 : hi ≤ hi') : Sl_Label lo' hi' w' l v := SlOf.keep h hs h1 h2 (fun _ _ _ h => h)
theorem Sl_Label.now {lo : Nat} {w w' : World} {l : List Label} {v : Value} (h : Sl_Label lo w.heap.size w l v) (hb : Below w.heap.size w w') : Sl_Label lo w'.heap.size w' l v := h.keep (same_below hb) (Nat.le_refl _) hb.size
structure Need where
  key : ByteArray
  op : Int
  values : List ByteArray
def C_Need (lo hi : Nat) (w : World) (d : Need) (cs : List Value) : Prop := ∃ v2, cs = [.string d.key, .int .i64 d.op, v2] ∧ d.key.size ≤ 9223372036854775807 ∧ I64 d.op ∧ Sl_Str lo hi w d.values v2
abbrev Sl_Need (lo hi : Nat) (w : World) (l : List Need) (v : Value) : Prop := SlOf (C_Need lo hi w) 3 lo hi w l v
theorem C_Need.keep {lo hi lo' hi' : Nat} {w w' : World} {d : Need} {cs : List Value} (h : C_Need lo hi w d cs) (hs : Same lo hi w w') (h1 : lo' ≤ lo) (h2 : hi ≤ hi') : C_Need lo' hi' w' d cs := by
  obtain ⟨v2, hc, a0, a1, a2⟩ := h
  exact ⟨v2, hc, a0, a1, a2.keep hs h1 h2⟩
theorem Sl_Need.keep {lo hi lo' hi' : Nat} {w w' : World} {l : List Need} {v : Value} (h : Sl_Need lo hi w l v) (hs : Same lo hi w w') (h1 : lo' ≤ lo) (h2 : hi ≤ hi') : Sl_Need lo' hi' w' l v := SlOf.keep h hs h1 h2 (fun _ _ _ h => C_Need.keep h hs h1 h2)
theorem Sl_Need.now {lo : Nat} {w w' : World} {l : List Need} {v : Value} (h : Sl_Need lo w.heap.size w l v) (hb : Below w.heap.size w w') : Sl_Need lo w'.heap.size w' l v := h.keep (same_below hb) (Nat.le_refl _) hb.size
theorem C_Need.now {lo : Nat} {w w' : World} {d : Need} {cs : List Value} (h : C_Need lo w.heap.size w d cs) (hb : Below w.heap.size w w') : C_Need lo w'.heap.size w' d cs := h.keep (same_below hb) (Nat.le_refl _) hb.size
structure Host where
  name : ByteArray
  labels : List Label
  cpu : Int
  mem : Int
  slots : Int
  taints : List Taint
def C_Host (lo hi : Nat) (w : World) (d : Host) (cs : List Value) : Prop := ∃ v1 v5, cs = [.string d.name, v1, .int .i64 d.cpu, .int .i64 d.mem, .int .i64 d.slots, v5] ∧ d.name.size ≤ 9223372036854775807 ∧ Sl_Label lo hi w d.labels v1 ∧ I64 d.cpu ∧ I64 d.mem ∧ I64 d.slots ∧ Sl_Taint lo hi w d.taints v5
abbrev Sl_Host (lo hi : Nat) (w : World) (l : List Host) (v : Value) : Prop := SlOf (C_Host lo hi w) 6 lo hi w l v
theorem C_Host.keep {lo hi lo' hi' : Nat} {w w' : World} {d : Host} {cs : List Value} (h : C_Host lo hi w d cs) (hs : Same lo hi w w') (h1 : lo' ≤ lo) (h2 : hi ≤ hi') : C_Host lo' hi' w' d cs := by
  obtain ⟨v1, v5, hc, a0, a1, a2, a3, a4, a5⟩ := h
  exact ⟨v1, v5, hc, a0, a1.keep hs h1 h2, a2, a3, a4, a5.keep hs h1 h2⟩
theorem Sl_Host.keep {lo hi lo' hi' : Nat} {w w' : World} {l : List Host} {v : Value} (h : Sl_Host lo hi w l v) (hs : Same lo hi w w') (h1 : lo' ≤ lo) (h2 : hi ≤ hi') : Sl_Host lo' hi' w' l v := SlOf.keep h hs h1 h2 (fun _ _ _ h => C_Host.keep h hs h1 h2)
theorem Sl_Host.now {lo : Nat} {w w' : World} {l : List Host} {v : Value} (h : Sl_Host lo w.heap.size w l v) (hb : Below w.heap.size w w') : Sl_Host lo w'.heap.size w' l v := h.keep (same_below hb) (Nat.le_refl _) hb.size
theorem C_Host.now {lo : Nat} {w w' : World} {d : Host} {cs : List Value} (h : C_Host lo w.heap.size w d cs) (hb : Below w.heap.size w w') : C_Host lo w'.heap.size w' d cs := h.keep (same_below hb) (Nat.le_refl _) hb.size
structure Pod where
  name : ByteArray
  labels : List Label
  cpu : Int
  mem : Int
  rank : Int
  needs : List Need
  tolerances : List Tolerance
def C_Pod (lo hi : Nat) (w : World) (d : Pod) (cs : List Value) : Prop := ∃ v1 v5 v6, cs = [.string d.name, v1, .int .i64 d.cpu, .int .i64 d.mem, .int .i64 d.rank, v5, v6] ∧ d.name.size ≤ 9223372036854775807 ∧ Sl_Label lo hi w d.labels v1 ∧ I64 d.cpu ∧ I64 d.mem ∧ I64 d.rank ∧ Sl_Need lo hi w d.needs v5 ∧ Sl_Tolerance lo hi w d.tolerances v6
abbrev Sl_Pod (lo hi : Nat) (w : World) (l : List Pod) (v : Value) : Prop := SlOf (C_Pod lo hi w) 7 lo hi w l v
theorem C_Pod.keep {lo hi lo' hi' : Nat} {w w' : World} {d : Pod} {cs : List Value} (h : C_Pod lo hi w d cs) (hs : Same lo hi w w') (h1 : lo' ≤ lo) (h2 : hi ≤ hi') : C_Pod lo' hi' w' d cs := by
  obtain ⟨v1, v5, v6, hc, a0, a1, a2, a3, a4, a5, a6⟩ := h
  exact ⟨v1, v5, v6, hc, a0, a1.keep hs h1 h2, a2, a3, a4, a5.keep hs h1 h2, a6.keep hs h1 h2⟩
theorem Sl_Pod.keep {lo hi lo' hi' : Nat} {w w' : World} {l : List Pod} {v : Value} (h : Sl_Pod lo hi w l v) (hs : Same lo hi w w') (h1 : lo' ≤ lo) (h2 : hi ≤ hi') : Sl_Pod lo' hi' w' l v := SlOf.keep h hs h1 h2 (fun _ _ _ h => C_Pod.keep h hs h1 h2)
theorem Sl_Pod.now {lo : Nat} {w w' : World} {l : List Pod} {v : Value} (h : Sl_Pod lo w.heap.size w l v) (hb : Below w.heap.size w w') : Sl_Pod lo w'.heap.size w' l v := h.keep (same_below hb) (Nat.le_refl _) hb.size
theorem C_Pod.now {lo : Nat} {w w' : World} {d : Pod} {cs : List Value} (h : C_Pod lo w.heap.size w d cs) (hb : Below w.heap.size w w') : C_Pod lo w'.heap.size w' d cs := h.keep (same_below hb) (Nat.le_refl _) hb.size
section
variable {H : Type} {enc : TypeId × Value → H} {w : World} {base : Nat} {spare : Nat → Bool} {held : Bool} {fuel : Nat} {cs : List Value} {x : DataW H × List MemPlace}
variable {r : Reach} {b0 : Nat} {v : Value} {d : DataW H} {p : List MemPlace}
end
end Go.Proofs.YtffelpdefjkeaaaGreatDoor
namespace Go.Proofs.YtffelpdefjkeaaaGreatDoor
open Go.RowKit
def szL {D : Type} (f : D → Nat) : List D → Nat
  | [] => 0
  | d :: l => f d + szL f l
theorem szL_append {D : Type} (f : D → Nat) (a b : List D) : szL f (a ++ b) = szL f a + szL f b := by
  induction a with
  | nil => simp [szL]
  | cons x xs ih => simp [szL, ih]; omega
theorem szL_take_succ {D : Type} (f : D → Nat) (l : List D) (k : Nat) (d : D) (h : l[k]? = some d) : szL f (l.take (k + 1)) = szL f (l.take k) + f d := by
  have hl : k < l.length := (List.getElem?_eq_some_iff.1 h).1
  rw [List.take_succ_eq_append_getElem hl, szL_append]
  have : l[k] = d := by rw [List.getElem?_eq_getElem hl] at h; exact Option.some.inj h
  simp [szL, this]
theorem szL_take_le {D : Type} (f : D → Nat) (l : List D) (k : Nat) : szL f (l.take k) ≤ szL f l := by
  have := szL_append f (l.take k) (l.drop k); rw [List.take_append_drop] at this; omega
theorem exists_at {D : Type} {l : List D} {k : Nat} (h : k < l.length) : ∃ d, l[k]? = some d := ⟨l[k], List.getElem?_eq_getElem h⟩
def nL {D : Type} (f : D → Nat) (l : List D) : Nat := l.length + szL f l
theorem nL_def {D : Type} (f : D → Nat) (l : List D) : nL f l = l.length + szL f l := rfl
end Go.Proofs.YtffelpdefjkeaaaGreatDoor
namespace Go.Proofs.YtffelpdefjkeaaaGreatDoor
open Go.RowKit Go.ChangeShapes Go.WideShapes Go.Deep
structure TreeD where
  kind : Int
  flag : Bool
  num : Int
  text : ByteArray
  keys : List ByteArray
  kids : List TreeD
/-- The cells cs hold the tree d, whose height is at most n. -/
def C_Tree : Nat → Nat → Nat → World → TreeD → List Value → Prop
  | 0, _, _, _, _, _ => False
  | n + 1, lo, hi, w, d, cs => ∃ v4 v5, cs = [.int .i64 d.kind, .bool d.flag, .int .i64 d.num, .string d.text, v4, v5] ∧ I64 d.kind ∧ I64 d.num ∧ d.text.size ≤ 9223372036854775807 ∧ Sl_Str lo hi w d.keys v4 ∧ SlOf (C_Tree n lo hi w) 6 lo hi w d.kids v5
abbrev Sl_Tree (n lo hi : Nat) (w : World) (l : List TreeD) (v : Value) : Prop := SlOf (C_Tree n lo hi w) 6 lo hi w l v
theorem C_Tree.out {n lo hi : Nat} {w : World} {d : TreeD} {cs : List Value} (h : C_Tree (n + 1) lo hi w d cs) : ∃ v4 v5, cs = [.int .i64 d.kind, .bool d.flag, .int .i64 d.num, .string d.text, v4, v5] ∧ I64 d.kind ∧ I64 d.num ∧ d.text.size ≤ 9223372036854775807 ∧ Sl_Str lo hi w d.keys v4 ∧ Sl_Tree n lo hi w d.kids v5 := h
theorem C_Tree.into {n lo hi : Nat} {w : World} {d : TreeD} {cs : List Value} (h : ∃ v4 v5, cs = [.int .i64 d.kind, .bool d.flag, .int .i64 d.num, .string d.text, v4, v5] ∧ I64 d.kind ∧ I64 d.num ∧ d.text.size ≤ 9223372036854775807 ∧ Sl_Str lo hi w d.keys v4 ∧ Sl_Tree n lo hi w d.kids v5) : C_Tree (n + 1) lo hi w d cs := h
theorem C_Tree.none {lo hi : Nat} {w : World} {d : TreeD} {cs : List Value} (h : C_Tree 0 lo hi w d cs) : False := h
theorem C_Tree.any {n lo hi : Nat} {w : World} {d : TreeD} {cs : List Value} (h : C_Tree n lo hi w d cs) : ∃ m, n = m + 1 := by
  cases n with
  | zero => exact h.none.elim
  | succ m => exact ⟨m, rfl⟩
theorem C_Tree.open {n lo hi : Nat} {w : World} {d : TreeD} {cs : List Value} (h : C_Tree n lo hi w d cs) : ∃ A4 c4 A5 c5, cs = [.int .i64 d.kind, .bool d.flag, .int .i64 d.num, .string d.text, .slice A4 d.keys.length c4, .slice A5 d.kids.length c5] := by
  obtain ⟨m, rfl⟩ := h.any
  obtain ⟨v4, v5, rfl, a0, a2, a3, a4, a5⟩ := h.out
  obtain ⟨A4, c4, rfl⟩ := a4.form
  obtain ⟨A5, c5, rfl⟩ := a5.form
  exact ⟨A4, c4, A5, c5, rfl⟩
theorem C_Tree.flat {n lo hi : Nat} {w : World} {d : TreeD} {cs : List Value} (h : C_Tree n lo hi w d cs) : ∃ A4 c4 A5 c5, cs = [.int .i64 d.kind, .bool d.flag, .int .i64 d.num, .string d.text, .slice A4 d.keys.length c4, .slice A5 d.kids.length c5] ∧ I64 d.kind ∧ I64 d.num ∧ d.text.size ≤ 9223372036854775807 := by
  obtain ⟨m, rfl⟩ := h.any
  obtain ⟨v4, v5, rfl, a0, a2, a3, a4, a5⟩ := h.out
  obtain ⟨A4, c4, rfl⟩ := a4.form
  obtain ⟨A5, c5, rfl⟩ := a5.form
  exact ⟨A4, c4, A5, c5, rfl, a0, a2, a3⟩
theorem C_Tree.keep : ∀ {n lo hi lo' hi' : Nat} {w w' : World} {d : TreeD} {cs : List Value}, C_Tree n lo hi w d cs → Same lo hi w w' → lo' ≤ lo → hi ≤ hi' → C_Tree n lo' hi' w' d cs
  | 0, _, _, _, _, _, _, _, _, h, _, _, _ => h.none.elim
  | n + 1, _, _, _, _, _, _, _, _, h, hs, h1, h2 => by
    obtain ⟨v4, v5, rfl, a0, a2, a3, a4, a5⟩ := h.out
    exact C_Tree.into ⟨v4, v5, rfl, a0, a2, a3, a4.keep hs h1 h2, SlOf.keep a5 hs h1 h2 (fun _ _ _ h => C_Tree.keep h hs h1 h2)⟩
theorem C_Tree.up : ∀ {n m lo hi : Nat} {w : World} {d : TreeD} {cs : List Value}, C_Tree n lo hi w d cs → n ≤ m → C_Tree m lo hi w d cs
  | 0, _, _, _, _, _, _, h, _ => h.none.elim
  | n + 1, 0, _, _, _, _, _, _, hm => absurd hm (by omega)
  | n + 1, m + 1, _, _, _, _, _, h, hm => by
    obtain ⟨v4, v5, rfl, a0, a2, a3, a4, a5⟩ := h.out
    exact C_Tree.into ⟨v4, v5, rfl, a0, a2, a3, a4, SlOf.keep a5 (Same.refl _ _ _) (Nat.le_refl _) (Nat.le_refl _) (fun _ _ _ h => C_Tree.up h (by omega))⟩
theorem C_Tree.now {n lo : Nat} {w w' : World} {d : TreeD} {cs : List Value} (h : C_Tree n lo w.heap.size w d cs) (hb : Below w.heap.size w w') : C_Tree n lo w'.heap.size w' d cs := h.keep (same_below hb) (Nat.le_refl _) hb.size
theorem Sl_Tree.keep {n lo hi lo' hi' : Nat} {w w' : World} {l : List TreeD} {v : Value} (h : Sl_Tree n lo hi w l v) (hs : Same lo hi w w') (h1 : lo' ≤ lo) (h2 : hi ≤ hi') : Sl_Tree n lo' hi' w' l v := SlOf.keep h hs h1 h2 (fun _ _ _ h => C_Tree.keep h hs h1 h2)
theorem Sl_Tree.now {n lo : Nat} {w w' : World} {l : List TreeD} {v : Value} (h : Sl_Tree n lo w.heap.size w l v) (hb : Below w.heap.size w w') : Sl_Tree n lo w'.heap.size w' l v := h.keep (same_below hb) (Nat.le_refl _) hb.size
/-- The size by which the laws measure a tree. -/
def nTree : Nat → TreeD → Nat
  | 0, _ => 0
  | n + 1, d => d.text.size + nL ByteArray.size d.keys + nL (nTree n) d.kids
theorem nTree_succ (n : Nat) (d : TreeD) : nTree (n + 1) d = d.text.size + nL ByteArray.size d.keys + nL (nTree n) d.kids := rfl
section
variable {H : Type} {enc : TypeId × Value → H} {w : World} {base : Nat} {spare : Nat → Bool} {held : Bool}
variable {r : Reach} {b0 : Nat} {v : Value} {d : DataW H} {p : List MemPlace}
end
end Go.Proofs.YtffelpdefjkeaaaGreatDoor
namespace Go.Proofs.YtffelpdefjkeaaaGreatDoor
open Go.Lib
/-- The rune at place i of s and the place behind it; (0, -1): there is none. -/
def runeB (s : ByteArray) (i : Nat) : Int × Int :=
  if i < s.size then (if Utf8.decode s i = (65533, 1) then (0, -1) else (((Utf8.decode s i).1 : Int), ((i + (Utf8.decode s i).2 : Nat) : Int))) else (0, -1)
def runeOkB (n : Int) : Bool := decide (0 ≤ n) && decide (n ≤ 1114111) && !(decide (55296 ≤ n) && decide (n ≤ 57343))
/-- The text of a rune; none: empty. -/
def textB (n : Int) : ByteArray := if runeOkB n then Utf8.encode n else ⟨#[]⟩
def partN (b0 : Nat) : Nat := if 240 ≤ b0 then b0 - 240 else if 224 ≤ b0 then b0 - 224 else if 192 ≤ b0 then b0 - 192 else b0
def contN (b : Nat) : Bool := decide (128 ≤ b) && decide (b ≤ 191)
/-- What the reference's loop has gathered behind k bytes. -/
def gathN (b0 b1 b2 b3 : Nat) : Nat → Nat
  | 0 => partN b0
  | 1 => partN b0
  | 2 => 64 * partN b0 + b1 - 128
  | 3 => 64 * (64 * partN b0 + b1 - 128) + b2 - 128
  | _ => 64 * (64 * (64 * partN b0 + b1 - 128) + b2 - 128) + b3 - 128
/-- The bytes of the text of a rune, as numbers. -/
def encN4 (n : Nat) : List Nat :=
  if 1114111 < n ∨ (55296 ≤ n ∧ n ≤ 57343) then []
  else if n < 128 then [n] else if n < 2048 then [192 + n / 64, 128 + n % 64] else if n < 65536 then [224 + n / 4096, 128 + n / 64 % 64, 128 + n % 64]
  else [240 + n / 262144, 128 + n / 4096 % 64, 128 + n / 64 % 64, 128 + n % 64]
theorem textB_list (n : Nat) : (textB n).data.toList.map UInt8.toNat = encN4 n := by
  unfold textB runeOkB encN4 Utf8.encode Utf8.valid
  by_cases h1 : 1114111 < n ∨ (55296 ≤ n ∧ n ≤ 57343)
  · rw [if_pos h1, if_neg (by simp; omega)]
    rfl
  · rw [if_neg h1, if_pos (by simp; omega)]
    have hv : ((decide (0 ≤ (n : Int)) && decide ((n : Int) < 55296)) || (decide (57344 ≤ (n : Int)) && decide ((n : Int) ≤ 1114111))) = true := by simp; omega
    simp only [hv, if_true, Int.toNat_natCast]
    by_cases h2 : n < 128
    · rw [if_pos h2, if_pos h2]
      simp
      omega
    · rw [if_neg h2, if_neg h2]
      by_cases h3 : n < 2048
      · rw [if_pos h3, if_pos h3]
        simp
        omega
      · rw [if_neg h3, if_neg h3]
        by_cases h4 : n < 65536
        · rw [if_pos h4, if_pos h4]
          simp
          omega
        · rw [if_neg h4, if_neg h4]
          simp
          omega
/-- The two ways, on numbers. -/
theorem rune_way1 (n b0 b1 b2 b3 : Nat) (hb : b0 < 192) : (encN4 b0 = [b0] ↔ decodeN n b0 b1 b2 b3 ≠ (65533, 1)) ∧ (encN4 b0 = [b0] → decodeN n b0 b1 b2 b3 = (b0, 1)) := by
  unfold encN4 decodeN
  by_cases h : b0 < 128
  · rw [if_neg (by omega), if_pos h, if_pos h]
    refine ⟨⟨fun _ => ?_, fun _ => rfl⟩, fun _ => rfl⟩
    intro h2
    have := congrArg Prod.fst h2
    simp at this
    omega
  · rw [if_neg (by omega), if_neg h, if_pos (by omega), if_neg h, if_neg (by omega), if_neg (by omega), if_neg (by omega)]
    simp
theorem rune_way2 (n b0 b1 b2 b3 : Nat) (hb : 192 ≤ b0) (hb' : b0 < 224) (h1 : b1 < 256) : ((2 ≤ n ∧ contN b1 = true ∧ encN4 (gathN b0 b1 b2 b3 2) = [b0, b1]) ↔ decodeN n b0 b1 b2 b3 ≠ (65533, 1)) ∧ (decodeN n b0 b1 b2 b3 ≠ (65533, 1) → decodeN n b0 b1 b2 b3 = (gathN b0 b1 b2 b3 2, 2)) := by
  have hp : partN b0 = b0 - 192 := by unfold partN; rw [if_neg (by omega), if_neg (by omega), if_pos hb]
  have hg : gathN b0 b1 b2 b3 2 = 64 * (b0 - 192) + b1 - 128 := by show 64 * partN b0 + b1 - 128 = _; rw [hp]
  rw [hg]
  unfold decodeN contN
  rw [if_neg (by omega)]
  by_cases hc : 2 ≤ n ∧ 128 ≤ b1 ∧ b1 ≤ 191
  · rw [if_pos (by omega)]
    have e : b0 % 32 * 64 + b1 % 64 = 64 * (b0 - 192) + b1 - 128 := by omega
    rw [e]
    by_cases h3 : 64 * (b0 - 192) + b1 - 128 ≥ 128
    · rw [if_pos h3]
      refine ⟨⟨fun _ h => ?_, fun _ => ⟨hc.1, by simp; omega, ?_⟩⟩, fun _ => rfl⟩
      · have := congrArg Prod.snd h
        simp at this
      · unfold encN4
        rw [if_neg (by omega), if_neg (by omega), if_pos (by omega)]
        simp
        omega
    · rw [if_neg h3]
      refine ⟨⟨fun h => ?_, fun h => absurd rfl h⟩, fun h => absurd rfl h⟩
      have h2 := h.2.2
      unfold encN4 at h2
      rw [if_neg (by omega), if_pos (by omega)] at h2
      simp at h2
  · rw [if_neg (by omega), if_neg (by omega), if_neg (by omega)]
    refine ⟨⟨fun h => ?_, fun h => absurd rfl h⟩, fun h => absurd rfl h⟩
    have := h.2.1
    simp at this
    omega
theorem rune_way3 (n b0 b1 b2 b3 : Nat) (hb : 224 ≤ b0) (hb' : b0 < 240) (h1 : b1 < 256) (h2 : b2 < 256) : ((3 ≤ n ∧ contN b1 = true ∧ contN b2 = true ∧ encN4 (gathN b0 b1 b2 b3 3) = [b0, b1, b2]) ↔ decodeN n b0 b1 b2 b3 ≠ (65533, 1)) ∧ (decodeN n b0 b1 b2 b3 ≠ (65533, 1) → decodeN n b0 b1 b2 b3 = (gathN b0 b1 b2 b3 3, 3)) := by
  have hp : partN b0 = b0 - 224 := by unfold partN; rw [if_neg (by omega), if_pos hb]
  have hg : gathN b0 b1 b2 b3 3 = 64 * (64 * (b0 - 224) + b1 - 128) + b2 - 128 := by show 64 * (64 * partN b0 + b1 - 128) + b2 - 128 = _; rw [hp]
  rw [hg]
  unfold decodeN contN
  rw [if_neg (by omega), if_neg (by omega)]
  by_cases hc : 3 ≤ n ∧ (128 ≤ b1 ∧ b1 ≤ 191) ∧ (128 ≤ b2 ∧ b2 ≤ 191)
  · rw [if_pos (by omega)]
    have e : b0 % 16 * 4096 + b1 % 64 * 64 + b2 % 64 = 64 * (64 * (b0 - 224) + b1 - 128) + b2 - 128 := by omega
    rw [e]
    obtain ⟨v, hv⟩ : ∃ v, v = 64 * (64 * (b0 - 224) + b1 - 128) + b2 - 128 := ⟨_, rfl⟩
    rw [← hv]
    by_cases h3 : v ≥ 2048 ∧ (v < 55296 ∨ (57344 ≤ v ∧ v ≤ 1114111))
    · rw [if_pos h3]
      refine ⟨⟨fun _ h => ?_, fun _ => ⟨hc.1, by simp; omega, by simp; omega, ?_⟩⟩, fun _ => rfl⟩
      · have := congrArg Prod.snd h
        simp at this
      · unfold encN4
        rw [if_neg (by omega), if_neg (by omega), if_neg (by omega), if_pos (by omega)]
        simp
        omega
    · rw [if_neg h3]
      refine ⟨⟨fun h => ?_, fun h => absurd rfl h⟩, fun h => absurd rfl h⟩
      have h2 := h.2.2.2
      unfold encN4 at h2
      by_cases h5 : 1114111 < v ∨ (55296 ≤ v ∧ v ≤ 57343)
      · rw [if_pos h5] at h2
        simp at h2
      · rw [if_neg h5] at h2
        by_cases h6 : v < 128
        · rw [if_pos h6] at h2
          simp at h2
        · rw [if_neg h6, if_pos (by omega)] at h2
          simp at h2
  · rw [if_neg (by omega), if_neg (by omega)]
    refine ⟨⟨fun h => ?_, fun h => absurd rfl h⟩, fun h => absurd rfl h⟩
    have h3 := h.2.1
    have h4 := h.2.2.1
    simp at h3 h4
    omega
theorem rune_way4 (n b0 b1 b2 b3 : Nat) (hb : 240 ≤ b0) (hb' : b0 < 256) (h1 : b1 < 256) (h2 : b2 < 256) (h3 : b3 < 256) : ((4 ≤ n ∧ contN b1 = true ∧ contN b2 = true ∧ contN b3 = true ∧ encN4 (gathN b0 b1 b2 b3 4) = [b0, b1, b2, b3]) ↔ decodeN n b0 b1 b2 b3 ≠ (65533, 1)) ∧ (decodeN n b0 b1 b2 b3 ≠ (65533, 1) → decodeN n b0 b1 b2 b3 = (gathN b0 b1 b2 b3 4, 4)) := by
  have hp : partN b0 = b0 - 240 := by unfold partN; rw [if_pos hb]
  have hg : gathN b0 b1 b2 b3 4 = 64 * (64 * (64 * (b0 - 240) + b1 - 128) + b2 - 128) + b3 - 128 := by show 64 * (64 * (64 * partN b0 + b1 - 128) + b2 - 128) + b3 - 128 = _; rw [hp]
  rw [hg]
  unfold decodeN contN
  rw [if_neg (by omega), if_neg (by omega), if_neg (by omega)]
  obtain ⟨v, hv⟩ : ∃ v, v = 64 * (64 * (64 * (b0 - 240) + b1 - 128) + b2 - 128) + b3 - 128 := ⟨_, rfl⟩
  rw [← hv]
  by_cases hc : 4 ≤ n ∧ (128 ≤ b1 ∧ b1 ≤ 191) ∧ (128 ≤ b2 ∧ b2 ≤ 191) ∧ (128 ≤ b3 ∧ b3 ≤ 191)
  · by_cases h8 : b0 < 248
    · rw [if_pos (by omega)]
      have e : b0 % 8 * 262144 + b1 % 64 * 4096 + b2 % 64 * 64 + b3 % 64 = v := by omega
      rw [e]
      by_cases h3 : v ≥ 65536 ∧ (v < 55296 ∨ (57344 ≤ v ∧ v ≤ 1114111))
      · rw [if_pos h3]
        refine ⟨⟨fun _ h => ?_, fun _ => ⟨hc.1, by simp; omega, by simp; omega, by simp; omega, ?_⟩⟩, fun _ => rfl⟩
        · have := congrArg Prod.snd h
          simp at this
        · unfold encN4
          rw [if_neg (by omega), if_neg (by omega), if_neg (by omega), if_neg (by omega)]
          simp
          omega
      · rw [if_neg h3]
        refine ⟨⟨fun h => ?_, fun h => absurd rfl h⟩, fun h => absurd rfl h⟩
        have h2 := h.2.2.2.2
        have hl := congrArg List.length h2
        unfold encN4 at hl
        repeat' split at hl
        all_goals first | (simp at hl; done) | omega
    · rw [if_neg (by omega)]
      refine ⟨⟨fun h => ?_, fun h => absurd rfl h⟩, fun h => absurd rfl h⟩
      have h2 := h.2.2.2.2
      have hl := congrArg List.length h2
      unfold encN4 at hl
      repeat' split at hl
      all_goals first | (simp at hl; done) | omega
  · rw [if_neg (by omega)]
    refine ⟨⟨fun h => ?_, fun h => absurd rfl h⟩, fun h => absurd rfl h⟩
    have h3 := h.2.1
    have h4 := h.2.2.1
    have h5 := h.2.2.2.1
    simp at h3 h4 h5
    omega
end Go.Proofs.YtffelpdefjkeaaaGreatDoor
namespace Go.Proofs.YtffelpdefjkeaaaGreatDoor
open Go.RowKit
def digitB (c : Int) : Bool := decide (48 ≤ c ∧ c ≤ 57)
def lowerB (c : Int) : Bool := decide (97 ≤ c ∧ c ≤ 122)
def inB (x a b : Int) : Bool := decide (a ≤ x ∧ x ≤ b)
theorem c_impl_isDigit (c : Int) (w : World) : Calls Tryz.prog 102 #[.int .u8 c] w fun e w' => e = .returned (.bool (digitB c)) ∧ w = w' := by
  go_enter Tryz.func102, Tryz.ntmps102
  go_wp2_with fail
  all_goals
    go_ret
    refine ⟨ret_bool ?_, rfl⟩
    rw [Bool.eq_iff_iff]
    simp [digitB]
    try omega
theorem c_impl_within (x a b : Int) (w : World) : Calls Tryz.prog 113 #[.int .i64 x, .int .i64 a, .int .i64 b] w fun e w' => e = .returned (.bool (inB x a b)) ∧ w = w' := by
  go_enter Tryz.func113, Tryz.ntmps113
  go_wp2_with fail
  all_goals
    go_ret
    refine ⟨ret_bool ?_, rfl⟩
    rw [Bool.eq_iff_iff]
    simp [inB]
    try omega
theorem c_spec_l01In (x a b : Int) (w : World) : Calls Tryz.prog 59 #[.int .i64 x, .int .i64 a, .int .i64 b] w fun e w' => e = .returned (.bool (inB x a b)) ∧ w = w' := by
  go_enter Tryz.func59, Tryz.ntmps59
  go_wp2_with fail
  all_goals
    go_ret
    refine ⟨ret_bool ?_, rfl⟩
    rw [Bool.eq_iff_iff]
    simp [inB]
    try omega
theorem run_IndexByteString (s : ByteArray) (c : Int) (w : World) : (callFunc 125 #[.string s, .int .u8 c]).run Tryz.prog w = .ok (.value (.int .i64 (Lib.indexByte s.data.toList c.toNat.toUInt8))) w := by
  rw [run_callFunc_extern Tryz.func125 (by kernel_rfl) (by kernel_rfl) (by kernel_rfl) (e := Extern.BytealgIndexByte.indexByte) (by kernel_rfl), Lib.run_indexByteString]
  rfl
theorem c_slite_IndexByte (s : ByteArray) (c : UInt8) (w : World) : Calls Tryz.prog 100 #[.string s, .int .u8 c.toNat] w fun e w' => e = .returned (.int .i64 (Lib.indexByte s.data.toList c)) ∧ w = w' := by
  have h := run_IndexByteString s c.toNat
  rw [show ((c.toNat : Int)).toNat.toUInt8 = c from by simp] at h
  go_enter Tryz.func100, Tryz.ntmps100
  go_wp2
  go_ret
  exact ⟨rfl, rfl⟩
theorem c_strings_IndexByte (s : ByteArray) (c : UInt8) (w : World) : Calls Tryz.prog 65 #[.string s, .int .u8 c.toNat] w fun e w' => e = .returned (.int .i64 (Lib.indexByte s.data.toList c)) ∧ w = w' := by
  go_enter Tryz.func65, Tryz.ntmps65
  go_wp2_with (go_at_call 100; refine (c_slite_IndexByte _ _ _).mono ?_; rintro e w' ⟨rfl, rfl⟩)
  go_ret
  exact ⟨rfl, rfl⟩
end Go.Proofs.YtffelpdefjkeaaaGreatDoor
namespace Go.Proofs.YtffelpdefjkeaaaGreatDoor
open Go.RowKit Go.Lib
theorem c_impl_RuneOk (n : Int) (w : World) : Calls Tryz.prog 145 #[.int .i64 n] w fun e w' => e = .returned (.bool (runeOkB n)) ∧ w = w' := by
  go_enter Tryz.func145, Tryz.ntmps145
  go_wp2_with (first | (go_at_call 113; refine (c_impl_within _ _ _ _).mono ?_; rintro e w' ⟨rfl, rfl⟩))
  all_goals
    go_ret
    refine ⟨ret_bool ?_, rfl⟩
    rw [Bool.eq_iff_iff]
    simp_all [inB, runeOkB]
    try omega
theorem c_spec_RuneOk (n : Int) (w : World) : Calls Tryz.prog 141 #[.int .i64 n] w fun e w' => e = .returned (.bool (runeOkB n)) ∧ w = w' := by
  go_enter Tryz.func141, Tryz.ntmps141
  go_wp2_with (first | (go_at_call 59; refine (c_spec_l01In _ _ _ _).mono ?_; rintro e w' ⟨rfl, rfl⟩))
  all_goals
    go_ret
    refine ⟨ret_bool ?_, rfl⟩
    rw [Bool.eq_iff_iff]
    simp_all [inB, runeOkB]
    try omega
theorem c_impl_RuneText (n : Int) (w : World) (hn : -9223372036854775808 ≤ n ∧ n ≤ 9223372036854775807) : Calls Tryz.prog 127 #[.int .i64 n] w fun e w' => e = .returned (.string (textB n)) ∧ w = w' := by
  rcases h : runeOkB n with _ | _
  · have Hf := Lib.hid (show textB n = ⟨#[]⟩ by unfold textB; rw [h]; rfl)
    go_enter Tryz.func127, Tryz.ntmps127
    go_wp2_with (first | (go_at_call 145; refine (c_impl_RuneOk _ _).mono ?_; rintro e w' ⟨rfl, rfl⟩))
    go_ret
    exact ⟨by rw [Hf.out]; rfl, rfl⟩
  · have Hf := Lib.hid (show textB n = Utf8.encode n by unfold textB; rw [h]; rfl)
    have h2 : 0 ≤ n ∧ n ≤ 1114111 := by unfold runeOkB at h; simp at h; omega
    have hw : IntKind.i32.wrap n = n := by rw [IntKind.wrap_i32]; omega
    go_enter Tryz.func127, Tryz.ntmps127
    go_wp2_with (first | (go_at_call 145; refine (c_impl_RuneOk _ _).mono ?_; rintro e w' ⟨rfl, rfl⟩))
    go_ret
    exact ⟨by rw [Hf.out]; rfl, rfl⟩
/-- Bytes laid in a row of the call's own, told as a text. -/
theorem bytes_text (w : World) (bs : List UInt8) (n : Nat) (hn : bs.length = n) (cs : Array Value) (hc : cs = (bs.map fun b => Value.int .u8 (b.toNat : Int)).toArray) (B : Nat) (hB : B = w.heap.size) :
    (convert 37 9 (.slice (some ⟨B, 0, none⟩) n n)).run Tryz.prog (w.alloc (.cells cs 5)) = .ok (.string ⟨bs.toArray⟩) (w.alloc (.cells cs 5)) := by
  subst hn hc hB
  refine run_convert_bytes_back (P := Tryz.prog) _ 37 9 5 ⟨w.heap.size, 0, none⟩ bs.length bs Tryz.underlying37 Tryz.underlying5 Tryz.underlying9 (fun i hi => ?_)
  have e2 : (⟨w.heap.size, 0, none⟩ : Addr).add i = ⟨w.heap.size, i, none⟩ := by unfold Addr.add; simp; intro h; omega
  rw [e2, cell_of_row _ _ _ _ _ _ (heap_alloc_new w _)]
  simp [hi]
theorem textB_bytes (n : Nat) : textB n = ⟨((encN4 n).map UInt8.ofNat).toArray⟩ := by
  have h := congrArg (List.map UInt8.ofNat) (textB_list n)
  rw [List.map_map] at h
  have e : (UInt8.ofNat ∘ UInt8.toNat) = id := by funext x; simp
  rw [e, List.map_id] at h
  rw [← h]
theorem text_run (w : World) (n k : Nat) (cs : Array Value) (hk : (encN4 n).length = k) (hc : cs = ((encN4 n).map fun b : Nat => Value.int .u8 (b : Int)).toArray) (hb : ∀ b ∈ encN4 n, b < 256) :
    (convert 37 9 (.slice (some ⟨w.heap.size, 0, none⟩) k k)).run Tryz.prog (w.alloc (.cells cs 5)) = .ok (.string (textB n)) (w.alloc (.cells cs 5)) := by
  rw [textB_bytes]
  refine bytes_text w ((encN4 n).map UInt8.ofNat) k (by rw [List.length_map, hk]) cs ?_ _ rfl
  rw [hc, List.map_map]
  congr 1
  apply List.map_congr_left
  intro b hb'
  have := hb b hb'
  simp [UInt8.toNat_ofNat', Nat.mod_eq_of_lt this]
set_option maxHeartbeats 1000000 in
set_option maxRecDepth 100000 in
theorem c_spec_RuneText (n : Int) (w : World) (hn : -9223372036854775808 ≤ n ∧ n ≤ 9223372036854775807) : Calls Tryz.prog 121 #[.int .i64 n] w fun e w' => e = .returned (.string (textB n)) ∧ Below w.heap.size w w' := by
  rcases h : runeOkB n with _ | _
  · have Hf := Lib.hid (show textB n = ⟨#[]⟩ by unfold textB; rw [h]; rfl)
    go_enter Tryz.func121, Tryz.ntmps121
    go_wp2_with (first | (go_at_call 141; refine (c_spec_RuneOk _ _).mono ?_; rintro e w' ⟨rfl, rfl⟩))
    go_ret
    exact ⟨by rw [Hf.out]; rfl, bel⟩
  · have Hf := Lib.hid (show textB n = Utf8.encode n by unfold textB; rw [h]; rfl)
    have h2 : 0 ≤ n ∧ n ≤ 1114111 ∧ (n < 55296 ∨ 57343 < n) := by unfold runeOkB at h; simp at h; omega
    obtain ⟨m, rfl⟩ : ∃ m : Nat, n = m := ⟨n.toNat, by omega⟩
    have hne : ¬ (1114111 < m ∨ (55296 ≤ m ∧ m ≤ 57343)) := by omega
    have hmx : (m : Int) ≤ 1114111 := by omega
    clear hn h2 Hf
    by_cases h3 : (m : Int) < 128
    · have he : encN4 m = [m] := by unfold encN4; rw [if_neg hne, if_pos (by omega)]
      have ht := text_run w m 1 #[.int .u8 (m : Int)] (by rw [he]; rfl) (by rw [he]; rfl) (by rw [he]; intro b hb; simp at hb; omega)
      go_enter Tryz.func121, Tryz.ntmps121
      go_wp2_with (first | (go_at_call 141; refine (c_spec_RuneOk _ _).mono ?_; rintro e w' ⟨rfl, rfl⟩))
      go_ret
      exact ⟨rfl, bel⟩
    · by_cases h4 : (m : Int) < 2048
      · have he : encN4 m = [192 + m / 64, 128 + m % 64] := by unfold encN4; rw [if_neg hne, if_neg (by omega), if_pos (by omega)]
        have ht := text_run w m 2 #[.int .u8 (192 + (m : Int) / 64), .int .u8 (128 + (m : Int) % 64)] (by rw [he]; rfl) (by rw [he]; rfl) (by rw [he]; intro b hb; simp at hb; omega)
        go_enter Tryz.func121, Tryz.ntmps121
        go_wp2_with (first | (go_at_call 141; refine (c_spec_RuneOk _ _).mono ?_; rintro e w' ⟨rfl, rfl⟩))
        go_ret
        exact ⟨rfl, bel⟩
      · by_cases h5 : (m : Int) < 65536
        · have he : encN4 m = [224 + m / 4096, 128 + m / 64 % 64, 128 + m % 64] := by unfold encN4; rw [if_neg hne, if_neg (by omega), if_neg (by omega), if_pos (by omega)]
          have ht := text_run w m 3 #[.int .u8 (224 + (m : Int) / 4096), .int .u8 (128 + (m : Int) / 64 % 64), .int .u8 (128 + (m : Int) % 64)] (by rw [he]; rfl) (by rw [he]; rfl) (by rw [he]; intro b hb; simp at hb; omega)
          have b3 : decide ((m : Int) < 128) = false := decide_eq_false h3
          have b4 : decide ((m : Int) < 2048) = false := decide_eq_false h4
          clear h3 h4 he hne
          go_enter Tryz.func121, Tryz.ntmps121
          go_wp2_with (first | (go_at_call 141; refine (c_spec_RuneOk _ _).mono ?_; rintro e w' ⟨rfl, rfl⟩))
          go_ret
          exact ⟨rfl, bel⟩
        · have he : encN4 m = [240 + m / 262144, 128 + m / 4096 % 64, 128 + m / 64 % 64, 128 + m % 64] := by unfold encN4; rw [if_neg hne, if_neg (by omega), if_neg (by omega), if_neg (by omega)]
          have ht := text_run w m 4 #[.int .u8 (240 + (m : Int) / 262144), .int .u8 (128 + (m : Int) / 4096 % 64), .int .u8 (128 + (m : Int) / 64 % 64), .int .u8 (128 + (m : Int) % 64)] (by rw [he]; rfl) (by rw [he]; rfl) (by rw [he]; intro b hb; simp at hb; omega)
          have b3 : decide ((m : Int) < 128) = false := decide_eq_false h3
          have b4 : decide ((m : Int) < 2048) = false := decide_eq_false h4
          have b5 : decide ((m : Int) < 65536) = false := decide_eq_false h5
          clear h3 h4 h5 he hne
          go_enter Tryz.func121, Tryz.ntmps121
          go_wp2_with (first | (go_at_call 141; refine (c_spec_RuneOk _ _).mono ?_; rintro e w' ⟨rfl, rfl⟩))
          go_ret
          exact ⟨rfl, bel⟩
end Go.Proofs.YtffelpdefjkeaaaGreatDoor
namespace Go.Proofs.YtffelpdefjkeaaaGreatDoor
open Go.Shelf
def laysDec_ren : Go.Shelf.Ren := ⟨fun | 197 => 124 | 260 => 143 | n => n, fun | 9 => 9 | 21 => 21 | 3 => 3 | 4 => 4 | 5 => 5 | 105 => 119 | 119 => 136 | 0 => 0 | 46 => 126 | 139 => 139 | 138 => 138 | n => n, fun | 3 => 1 | 4 => 2 | n => n⟩
theorem laysDec : Go.Proofs.Lays.n197 Tryz.prog laysDec_ren := {
  mixed := by kernel_rfl
  f197 := Tryz.func124.trans (congrArg some (by kernel_rfl))
  f260 := Tryz.func143.trans (congrArg some (by kernel_rfl))
  t0 := Tryz.underlying0
  a0 := Tryz.isAgg0
  z0 := Tryz.sizeOf0
  v0 := Tryz.zeroValue0
  t3 := Tryz.underlying3
  a3 := Tryz.isAgg3
  z3 := Tryz.sizeOf3
  v3 := Tryz.zeroValue3
  t4 := Tryz.underlying4
  a4 := Tryz.isAgg4
  z4 := Tryz.sizeOf4
  v4 := Tryz.zeroValue4
  t5 := Tryz.underlying5
  a5 := Tryz.isAgg5
  z5 := Tryz.sizeOf5
  v5 := Tryz.zeroValue5
  t9 := Tryz.underlying9
  a9 := Tryz.isAgg9
  z9 := Tryz.sizeOf9
  v9 := Tryz.zeroValue9
  t21 := Tryz.underlying21
  a21 := Tryz.isAgg21
  z21 := Tryz.sizeOf21
  v21 := Tryz.zeroValue21
  t46 := Tryz.underlying126
  a46 := Tryz.isAgg126
  z46 := Tryz.sizeOf126
  v46 := Tryz.zeroValue126
  t105 := Tryz.underlying119
  a105 := Tryz.isAgg119
  z105 := Tryz.sizeOf119
  v105 := Tryz.zeroValue119
  t119 := Tryz.underlying136
  a119 := Tryz.isAgg136
  z119 := Tryz.sizeOf136
  t138 := Tryz.underlying138
  a138 := Tryz.isAgg138
  z138 := Tryz.sizeOf138
  v138 := Tryz.zeroValue138
  t139 := Tryz.underlying139
  a139 := Tryz.isAgg139
  z139 := Tryz.sizeOf139
  v139 := Tryz.zeroValue139
  g3 := by kernel_rfl
  g4 := by kernel_rfl }
def laysVal_ren : Go.Shelf.Ren := ⟨fun | 196 => 140 | 259 => 153 | n => n, fun | 9 => 9 | 4 => 4 | 3 => 3 | 5 => 5 | 12 => 12 | 119 => 136 | 0 => 0 | 46 => 126 | 139 => 139 | 138 => 138 | 53 => 150 | n => n, fun | 3 => 1 | 4 => 2 | n => n⟩
theorem laysVal : Go.Proofs.Lays.n196 Tryz.prog laysVal_ren := {
  mixed := by kernel_rfl
  f196 := Tryz.func140.trans (congrArg some (by kernel_rfl))
  f259 := Tryz.func153.trans (congrArg some (by kernel_rfl))
  t0 := Tryz.underlying0
  a0 := Tryz.isAgg0
  z0 := Tryz.sizeOf0
  v0 := Tryz.zeroValue0
  t3 := Tryz.underlying3
  a3 := Tryz.isAgg3
  z3 := Tryz.sizeOf3
  v3 := Tryz.zeroValue3
  t4 := Tryz.underlying4
  a4 := Tryz.isAgg4
  z4 := Tryz.sizeOf4
  v4 := Tryz.zeroValue4
  t5 := Tryz.underlying5
  a5 := Tryz.isAgg5
  z5 := Tryz.sizeOf5
  v5 := Tryz.zeroValue5
  t9 := Tryz.underlying9
  a9 := Tryz.isAgg9
  z9 := Tryz.sizeOf9
  v9 := Tryz.zeroValue9
  t12 := Tryz.underlying12
  a12 := Tryz.isAgg12
  z12 := Tryz.sizeOf12
  v12 := Tryz.zeroValue12
  t46 := Tryz.underlying126
  a46 := Tryz.isAgg126
  z46 := Tryz.sizeOf126
  v46 := Tryz.zeroValue126
  t53 := Tryz.underlying150
  a53 := Tryz.isAgg150
  z53 := Tryz.sizeOf150
  v53 := Tryz.zeroValue150
  t119 := Tryz.underlying136
  a119 := Tryz.isAgg136
  z119 := Tryz.sizeOf136
  t138 := Tryz.underlying138
  a138 := Tryz.isAgg138
  z138 := Tryz.sizeOf138
  v138 := Tryz.zeroValue138
  t139 := Tryz.underlying139
  a139 := Tryz.isAgg139
  z139 := Tryz.sizeOf139
  v139 := Tryz.zeroValue139
  g3 := by kernel_rfl
  g4 := by kernel_rfl }
end Go.Proofs.YtffelpdefjkeaaaGreatDoor
