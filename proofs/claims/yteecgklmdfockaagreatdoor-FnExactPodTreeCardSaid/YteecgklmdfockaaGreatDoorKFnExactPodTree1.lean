/- Written by wip/tools/pack.py: the texts that FnExactPodTree needs, without what it does not need. No conditions. -/
import Derived.Test.YteecgklmdfockaaGreatDoorChecked
import Derived.WalkKit
import Derived.ProofKit
import Derived.WalkLawsBesides
import Derived.Lib.Hide
import Derived.Lib.Bytealg
import Derived.Below
import Derived.Deep.QuietTactic
import Derived.BigQuiet
import Derived.Deep.RegionHeld3
import Derived.Deep.Slices
import Derived.Lib.SmallJoins
import Derived.ChangeArms
import Derived.RowKit
namespace Go.Proofs.YteecgklmdfockaaGreatDoor
open Go.RowKit
theorem bcell {W w1 : World} (hb : Below W.heap.size W w1) : (∀ b o, b < W.heap.size → w1.cell? ⟨b, o, none⟩ = W.cell? ⟨b, o, none⟩) ∧ (∀ b o, b < W.heap.size → w1.frozen? ⟨b, o, none⟩ = W.frozen? ⟨b, o, none⟩) :=
  ⟨fun b o h => hb.cell (p := ⟨b, o, none⟩) h, fun b o h => hb.frozen (p := ⟨b, o, none⟩) h⟩
theorem ret_int {k : IntKind} {a b : Int} (h : a = b) : Ending.returned (.int k a) = .returned (.int k b) := by rw [h]
theorem ret_bool {a b : Bool} (h : a = b) : Ending.returned (.bool a) = .returned (.bool b) := by rw [h]
theorem below_drewN {B : Nat} {a w : World} (h : Below B a w) (n : Nat) : Below B a (w.drewN n) := ⟨h.os, h.tape, h.output, h.size, h.block⟩
theorem ext_step {a b c : World} (k : Below b.heap.size b c) (h : Below a.heap.size a b) : Below a.heap.size a c := h.trans (k.mono h.size)
theorem ext_trans {a b c : World} (h : Below a.heap.size a b) (k : Below b.heap.size b c) : Below a.heap.size a c := h.trans (k.mono h.size)
theorem ext_alloc {a b : World} {o : Obj} (h : Below a.heap.size a b) : Below a.heap.size a (b.alloc o) := h.alloc h.size o
theorem ext_setCell {a b : World} {p : Addr} {u : Value} (hp : a.heap.size ≤ p.block) (h : Below a.heap.size a b) : Below a.heap.size a (b.setCell p u) := h.setCell hp u
/-- All that was there in A is there in W. -/
structure Cum (A W : World) : Prop where
  h : Below A.heap.size A W
theorem Cum.join {a b c : World} (h : Cum a b) (k : Below b.heap.size b c) : Cum a c := ⟨ext_step k h.h⟩
theorem isEmpty_false {s : ByteArray} (h : s.toList.isEmpty = false) : 0 < s.size := by
  rcases Nat.eq_zero_or_pos s.size with h0 | h0
  · have : s.toList = [] := by rw [ByteArray.toList_eq]; exact List.eq_nil_of_length_eq_zero (by simpa using h0)
    rw [this] at h; cases h
  · exact h0
theorem lt_pred {a b : Nat} (h : a + 1 < b) : a < b := Nat.lt_of_succ_lt h
theorem lt_of_succ_le {a b : Nat} (h : a + 1 ≤ b) : a < b := h
theorem keep_drew (W : World) : Below W.heap.size W W.drew ∧ (∀ b o, b < W.heap.size → W.drew.cell? ⟨b, o, none⟩ = W.cell? ⟨b, o, none⟩) := ⟨(Below.refl _ _).drew, fun _ _ _ => rfl⟩
theorem keep_same {W a : World} (h : Below W.heap.size W a ∧ (∀ b o, b < W.heap.size → a.cell? ⟨b, o, none⟩ = W.cell? ⟨b, o, none⟩)) : Below W.heap.size W a ∧ (∀ b o, b < W.heap.size → a.cell? ⟨b, o, none⟩ = W.cell? ⟨b, o, none⟩) := h
theorem keep_ext {W a c : World} (h : Below W.heap.size W a ∧ (∀ b o, b < W.heap.size → a.cell? ⟨b, o, none⟩ = W.cell? ⟨b, o, none⟩)) (k : Below a.heap.size a c) : Below W.heap.size W c ∧ (∀ b o, b < W.heap.size → c.cell? ⟨b, o, none⟩ = W.cell? ⟨b, o, none⟩) :=
  have h2 := h.1.trans (k.mono h.1.size)
  ⟨h2, fun b o hb => h2.cell (p := ⟨b, o, none⟩) hb⟩
theorem keep_alloc {W a : World} (h : Below W.heap.size W a ∧ (∀ b o, b < W.heap.size → a.cell? ⟨b, o, none⟩ = W.cell? ⟨b, o, none⟩)) (o : Obj) : Below W.heap.size W (a.alloc o) ∧ (∀ b o', b < W.heap.size → (a.alloc o).cell? ⟨b, o', none⟩ = W.cell? ⟨b, o', none⟩) :=
  have h2 := ext_alloc (o := o) h.1
  ⟨h2, fun b o hb => h2.cell (p := ⟨b, o, none⟩) hb⟩
theorem held_step {W a : World} {X : Prop} (k : Below W.heap.size W a ∧ X) : Below W.heap.size W a := k.1
theorem bel {B : Nat} {a b : World} (h : Below B a b := by repeat (first | (with_reducible exact Below.refl _ _) | (with_reducible refine ext_alloc ?_) | ((with_reducible refine ext_setCell ?_ ?_); focus (simp; (try omega))) | (with_reducible refine below_drewN ?_ _) | (with_reducible refine Below.drew ?_) | (with_reducible (apply ext_step; assumption)))) : Below B a b := h
end Go.Proofs.YteecgklmdfockaaGreatDoor
namespace Go.Proofs.YteecgklmdfockaaGreatDoor
open Go.RowKit Go.ChangeShapes Go.WideShapes Go.Deep
/-- The slice value v has the elements l; element i's cells satisfy C; they lie in a block from lo on, below hi. -/
def SlOf {D : Type} (C : D → List Value → Prop) (size lo hi : Nat) (w : World) (l : List D) (v : Value) : Prop :=
  ∃ A c, v = .slice A l.length c ∧ l.length ≤ c ∧ c ≤ 9223372036854775807 ∧ (0 < l.length → ∃ b o, A = some ⟨b, o, none⟩ ∧ lo ≤ b ∧ b < hi ∧
    ∀ i d, l[i]? = some d → ∃ cs, cs.length = size ∧ (∀ j, j < size → w.cell? ⟨b, o + i * size + j, none⟩ = cs[j]?) ∧ C d cs)
/-- Blocks from lo on and below hi are the same in both worlds. -/
def Same (lo hi : Nat) (w w' : World) : Prop := ∀ b o, lo ≤ b → b < hi → w'.cell? ⟨b, o, none⟩ = w.cell? ⟨b, o, none⟩
theorem Same.refl (lo hi : Nat) (w : World) : Same lo hi w w := fun _ _ _ _ => rfl
theorem Same.trans {lo hi : Nat} {a b c : World} (h : Same lo hi a b) (k : Same lo hi b c) : Same lo hi a c := fun x o h1 h2 => (k x o h1 h2).trans (h x o h1 h2)
theorem same_below {lo hi : Nat} {w w' : World} (h : Below hi w w') : Same lo hi w w' := fun b o _ h2 => h.cell (p := ⟨b, o, none⟩) h2
theorem same_below' {lo hi B : Nat} {w w' : World} (h : Below B w w') (hB : hi ≤ B) : Same lo hi w w' := same_below (h.mono hB)
theorem Same.mono {lo hi lo' hi' : Nat} {w w' : World} (h : Same lo hi w w') (h1 : lo ≤ lo') (h2 : hi' ≤ hi) : Same lo' hi' w w' := fun b o a c => h b o (by omega) (by omega)
theorem same_setCell {lo hi : Nat} {a b : World} {p : Addr} {u : Value} (hp : p.block < lo) (h : Same lo hi a b) : Same lo hi a (b.setCell p u) :=
  h.trans (fun x o h1 h2 => World.cell?_of_block (Below.heap_setCell b p u x (by omega)))
theorem same_alloc {lo hi : Nat} {a b : World} {o : Obj} (hb : hi ≤ b.heap.size) (h : Same lo hi a b) : Same lo hi a (b.alloc o) :=
  h.trans (fun x _ _ h2 => World.cell?_of_block (Below.heap_alloc b o x (by omega)))
theorem same_drewN {lo hi : Nat} {a b : World} (h : Same lo hi a b) (n : Nat) : Same lo hi a (b.drewN n) := h
theorem same_step {lo hi : Nat} {a b c : World} (k : Below b.heap.size b c) (hb : hi ≤ b.heap.size) (h : Same lo hi a b) : Same lo hi a c := h.trans (same_below' k hb)
theorem SlOf.keep {D : Type} {C C' : D → List Value → Prop} {size lo hi lo' hi' : Nat} {w w' : World} {l : List D} {v : Value}
    (h : SlOf C size lo hi w l v) (hs : Same lo hi w w') (h1 : lo' ≤ lo) (h2 : hi ≤ hi') (hC : ∀ d cs, d ∈ l → C d cs → C' d cs) : SlOf C' size lo' hi' w' l v := by
  obtain ⟨A, c, hv, hlc, hc, hA⟩ := h
  refine ⟨A, c, hv, hlc, hc, fun hp => ?_⟩
  obtain ⟨b, o, hA, hb1, hb2, hcell⟩ := hA hp
  refine ⟨b, o, hA, by omega, by omega, fun i d hi => ?_⟩
  obtain ⟨cs, hl, hcs, hd⟩ := hcell i d hi
  exact ⟨cs, hl, fun j hj => (hs b _ hb1 hb2).trans (hcs j hj), hC d cs (List.mem_of_getElem? hi) hd⟩
theorem SlOf.form {D : Type} {C : D → List Value → Prop} {size lo hi : Nat} {w : World} {l : List D} {v : Value} (h : SlOf C size lo hi w l v) : ∃ A c, v = .slice A l.length c := by
  obtain ⟨A, c, hv, _⟩ := h
  exact ⟨A, c, hv⟩
theorem choose_list {D : Type} (n : Nat) (P : Nat → D → Prop) (h : ∀ i, i < n → ∃ d, P i d) : ∃ l : List D, l.length = n ∧ ∀ i d, l[i]? = some d → P i d := by
  induction n with
  | zero => exact ⟨[], rfl, fun i d hi => by simp at hi⟩
  | succ n ih =>
    obtain ⟨l, hl, hP⟩ := ih (fun i hi => h i (by omega))
    obtain ⟨d, hd⟩ := h n (by omega)
    refine ⟨l ++ [d], by simp [hl], fun i x hi => ?_⟩
    by_cases hlt : i < n
    · rw [List.getElem?_append_left (by omega)] at hi
      exact hP i x hi
    · by_cases he : i = n
      · subst he
        rw [List.getElem?_append_right (by omega), hl] at hi
        simp at hi
        subst hi
        exact hd
      · rw [List.getElem?_eq_none (by simp; omega)] at hi
        cases hi
section
variable {H : Type} {enc : TypeId × Value → H} {P : Program} {w : World} {base : Nat} {spare : Nat → Bool} {held : Bool}
theorem spot_none {w : World} {a : Addr} {v : Value} (h : w.cell? a = some v) : a.spot = none := World.cell?_spot h
theorem slice_cells {t e : TypeId} {fuel size : Nat} {cs : List Value} {x : DataW H × List MemPlace} {D : Type} (C : D → List Value → Prop) (ht : P.underlying t = some (.slice e)) (hsz : P.cellsOf e = size) (hpos : 0 < size)
    (h : DataW.trod enc P w base spare held fuel t cs = some x)
    (hC : ∀ n cs' y, DataW.trod enc P w base spare held n e cs' = some y → ∃ d, C d cs') :
    ∃ v l, cs = [v] ∧ SlOf C size 0 w.heap.size w l v := by
  rcases open_slice ht h with ⟨hcs, _⟩ | ⟨a, len, cap, m, n, D', Pl, hcs, _, hl, hm, hmm, _, hi⟩
  · exact ⟨_, [], hcs, none, 0, rfl, by simp, by simp, fun h => by simp at h⟩
  · have hlm : len ≤ m := by rw [hmm]; split <;> omega
    obtain ⟨l, hll, hP⟩ := choose_list len (fun i d => ∃ cs', w.cells? base (a.add (i * size)) size = some cs' ∧ C d cs') (fun i hlt => by
      obtain ⟨cs', h1, h2⟩ := hi i (by omega)
      obtain ⟨d, hd⟩ := hC n cs' _ h2
      rw [hsz] at h1
      exact ⟨d, cs', h1, hd⟩)
    refine ⟨_, l, hcs, some a, cap, by rw [hll], by omega, by unfold maxLen at hm; omega, fun hp => ?_⟩
    have hget : ∀ i d, l[i]? = some d → ∃ cs', w.cells? base (a.add (i * size)) size = some cs' ∧ C d cs' := hP
    have hspot : a.spot = none := by
      obtain ⟨d0, h0⟩ : ∃ d, l[0]? = some d := ⟨l[0], List.getElem?_eq_getElem hp⟩
      obtain ⟨cs', h1, _⟩ := hget 0 d0 h0
      obtain ⟨_, hlen, hat⟩ := World.cells?_some h1
      have := hat (i := 0) (by omega)
      rw [Go.Deep.add_add] at this
      have hh := spot_none (this.trans (List.getElem?_eq_getElem (by omega)))
      simpa [Addr.add] using hh
    obtain ⟨b, o, s⟩ := a
    simp at hspot
    subst hspot
    have hblk : b < w.heap.size := by
      obtain ⟨d0, h0⟩ : ∃ d, l[0]? = some d := ⟨l[0], List.getElem?_eq_getElem hp⟩
      obtain ⟨cs', h1, _⟩ := hget 0 d0 h0
      obtain ⟨_, hlen, hat⟩ := World.cells?_some h1
      have := hat (i := 0) (by omega)
      have hh := block_lt_of_cell (this.trans (List.getElem?_eq_getElem (by omega)))
      simpa [Addr.add] using hh
    refine ⟨b, o, rfl, Nat.zero_le _, hblk, fun i d hid => ?_⟩
    obtain ⟨cs', h1, hd⟩ := hget i d hid
    obtain ⟨_, hlen, hat⟩ := World.cells?_some h1
    refine ⟨cs', hlen, fun j hj => ?_, hd⟩
    have := hat (i := j) (by omega)
    rw [Go.Deep.add_add] at this
    have e : (⟨b, o, none⟩ : Addr).add (i * size + j) = ⟨b, o + i * size + j, none⟩ := by
      rw [Nat.add_assoc]
      unfold Addr.add
      split
      · simp_all
      · rfl
    rw [e] at this
    exact this
theorem struct_cells {t : TypeId} {fs : Array Field} {fuel : Nat} {cs : List Value} {x : DataW H × List MemPlace} (ht : P.underlying t = some (.struct fs)) (h : DataW.trod enc P w base spare held fuel t cs = some x) :
    cs.length = P.cellsOf t ∧ ∃ n, fuel = n + 1 ∧ ∀ (i : Nat) (f : Field), fs[i]? = some f → ∃ y, DataW.trod enc P w base spare held n f.type ((cs.drop f.offset).take (P.cellsOf f.type)) = some y := by
  obtain ⟨xs, n, hn, _, hl, hxs, hf⟩ := DataW.trod_struct ht h
  refine ⟨hl, n, hn, fun i f hi => ?_⟩
  have hlt : i < xs.length := by rw [hxs]; exact (Array.getElem?_eq_some_iff.1 hi).1
  exact ⟨xs[i], (hf i f hi).trans (List.getElem?_eq_getElem hlt)⟩
theorem int_bounds {n : Int} (h : (Lit.int .i64 n).wf = true) : -9223372036854775808 ≤ n ∧ n ≤ 9223372036854775807 := by
  simp [Lit.wf, IntKind.min, IntKind.max, IntKind.signed, IntKind.bits] at h
  omega
def I64 (n : Int) : Prop := -9223372036854775808 ≤ n ∧ n ≤ 9223372036854775807
theorem cell_int {t : TypeId} {fuel : Nat} {cs : List Value} {x : DataW H × List MemPlace} (ht : P.underlying t = some (.int .i64)) (h : DataW.trod enc P w base spare held fuel t cs = some x) : ∃ n, cs = [.int .i64 n] ∧ I64 n := by
  obtain ⟨n, h1, _, h2⟩ := DataW.trod_int ht h
  exact ⟨n, h1, int_bounds h2⟩
theorem cell_bool {t : TypeId} {fuel : Nat} {cs : List Value} {x : DataW H × List MemPlace} (ht : P.underlying t = some .bool) (h : DataW.trod enc P w base spare held fuel t cs = some x) : ∃ n, cs = [.bool n] := by
  obtain ⟨n, h1, _⟩ := DataW.trod_bool ht h
  exact ⟨n, h1⟩
theorem cell_str {t : TypeId} {fuel : Nat} {cs : List Value} {x : DataW H × List MemPlace} (ht : P.underlying t = some .string) (h : DataW.trod enc P w base spare held fuel t cs = some x) : ∃ s : ByteArray, cs = [.string s] ∧ s.size ≤ 9223372036854775807 := by
  obtain ⟨n, h1, _, h2⟩ := DataW.trod_string ht h
  exact ⟨n, h1, by unfold maxLen at h2; omega⟩
end
def Part {D : Type} (C : D → List Value → Prop) (size : Nat) (l : List D) (k : Nat) (cs : Array Value) : Prop :=
  cs.size = l.length * size ∧ ∀ i d, i < k → l[i]? = some d → ∃ es, es.length = size ∧ (∀ j, j < size → cs[i * size + j]? = es[j]?) ∧ C d es
def putAt (cs : Array Value) (off : Nat) : List Value → Array Value
  | [] => cs
  | v :: vs => putAt (cs.setIfInBounds off v) (off + 1) vs
def putCells (w : World) (g off : Nat) : List Value → World
  | [] => w
  | v :: vs => putCells (w.setCell ⟨g, off, none⟩ v) g (off + 1) vs
theorem size_putAt (vs : List Value) : ∀ (cs : Array Value) (off : Nat), (putAt cs off vs).size = cs.size := by
  induction vs with
  | nil => intro cs off; rfl
  | cons v vs ih => intro cs off; rw [putAt, ih]; simp
theorem get_putAt_lt (vs : List Value) : ∀ (cs : Array Value) (off i : Nat), i < off → (putAt cs off vs)[i]? = cs[i]? := by
  induction vs with
  | nil => intro cs off i _; rfl
  | cons v vs ih => intro cs off i h; rw [putAt, ih _ _ _ (by omega)]; simp [Array.getElem?_setIfInBounds]; omega
theorem get_putAt_ge (vs : List Value) : ∀ (cs : Array Value) (off i : Nat), off + vs.length ≤ i → (putAt cs off vs)[i]? = cs[i]? := by
  induction vs with
  | nil => intro cs off i _; rfl
  | cons v vs ih => intro cs off i h; simp at h; rw [putAt, ih _ _ _ (by omega)]; simp [Array.getElem?_setIfInBounds]; omega
theorem get_putAt (vs : List Value) : ∀ (cs : Array Value) (off j : Nat), j < vs.length → off + vs.length ≤ cs.size → (putAt cs off vs)[off + j]? = vs[j]? := by
  induction vs with
  | nil => intro cs off j h; simp at h
  | cons v vs ih =>
    intro cs off j h hs
    simp at hs
    rw [putAt]
    cases j with
    | zero => rw [get_putAt_lt _ _ _ _ (by omega)]; simp [Array.getElem?_setIfInBounds]; omega
    | succ j =>
      have e : off + (j + 1) = off + 1 + j := by omega
      rw [e, ih _ _ j (by simpa using h) (by simp; omega)]
      simp
theorem Part.store {D : Type} {C : D → List Value → Prop} {size k : Nat} {l : List D} {cs : Array Value} (h : Part C size l k cs) {d : D} {es : List Value} (hd : l[k]? = some d) (hl : es.length = size) (hC : C d es) : Part C size l (k + 1) (putAt cs (k * size) es) := by
  have hk : k < l.length := (List.getElem?_eq_some_iff.1 hd).1
  have hks : (k + 1) * size ≤ l.length * size := Nat.mul_le_mul_right _ hk
  rw [Nat.succ_mul] at hks
  refine ⟨by rw [size_putAt]; exact h.1, fun i d' hi hd' => ?_⟩
  by_cases he : i = k
  · subst he
    rw [hd] at hd'
    obtain rfl := Option.some.inj hd'
    exact ⟨es, hl, fun j hj => get_putAt es cs _ j (by omega) (by rw [hl, h.1]; omega), hC⟩
  · obtain ⟨es', hl', hcs, hC'⟩ := h.2 i d' (by omega) hd'
    refine ⟨es', hl', fun j hj => ?_, hC'⟩
    have : (i + 1) * size ≤ k * size := Nat.mul_le_mul_right _ (by omega)
    rw [Nat.succ_mul] at this
    rw [get_putAt_lt _ _ _ _ (by omega)]
    exact hcs j hj
theorem Part.mono {D : Type} {C C' : D → List Value → Prop} {size k : Nat} {l : List D} {cs : Array Value} (h : Part C size l k cs) (hC : ∀ d es, C d es → C' d es) : Part C' size l k cs :=
  ⟨h.1, fun i d hi hd => let ⟨es, a, b, c⟩ := h.2 i d hi hd; ⟨es, a, b, hC d es c⟩⟩
theorem Part.zero {D : Type} {C : D → List Value → Prop} {size : Nat} {l : List D} {cs : Array Value} (h : cs.size = l.length * size) : Part C size l 0 cs := ⟨h, fun i _ hi => by omega⟩
theorem SlOf.of_part {D : Type} {C : D → List Value → Prop} {size lo hi : Nat} {w : World} {l : List D} {cs : Array Value} {g c : Nat} {e : TypeId} (h : Part C size l l.length cs) (hg : w.heap[g]? = some (.cells cs e (0, 0))) (h1 : lo ≤ g) (h2 : g < hi) (hc : l.length ≤ c) (hc2 : c ≤ 9223372036854775807) :
    SlOf C size lo hi w l (.slice (some ⟨g, 0, none⟩) l.length c) := by
  refine ⟨_, c, rfl, hc, hc2, fun hp => ⟨g, 0, rfl, h1, h2, fun i d hd => ?_⟩⟩
  obtain ⟨es, hl, hcs, hC⟩ := h.2 i d (List.getElem?_eq_some_iff.1 hd).1 hd
  refine ⟨es, hl, fun j hj => ?_, hC⟩
  rw [cell_of_row w g _ cs e _ hg, Nat.zero_add]
  exact hcs j hj
theorem heap_putCells (vs : List Value) : ∀ (w : World) (g off : Nat) (cs : Array Value) (e : TypeId), w.heap[g]? = some (.cells cs e (0, 0)) → (putCells w g off vs).heap[g]? = some (.cells (putAt cs off vs) e (0, 0)) := by
  induction vs with
  | nil => intro w g off cs e h; exact h
  | cons v vs ih => intro w g off cs e h; exact ih _ _ _ _ _ (heap_setCell_same w g off cs e v h)
theorem size_putCells (vs : List Value) : ∀ (w : World) (g off : Nat), (putCells w g off vs).heap.size = w.heap.size := by
  induction vs with
  | nil => intro w g off; rfl
  | cons v vs ih => intro w g off; rw [putCells, ih]; simp [World.setCell]
theorem same_putCells (vs : List Value) : ∀ (w : World) (g off lo hi : Nat), (g < lo ∨ hi ≤ g) → Same lo hi w (putCells w g off vs) := by
  induction vs with
  | nil => intro w g off lo hi _; exact Same.refl _ _ _
  | cons v vs ih =>
    intro w g off lo hi h
    refine Same.trans ?_ (ih _ _ _ _ _ h)
    intro b o h1 h2
    exact World.cell?_of_block (Below.heap_setCell w _ _ _ (by simp; omega))
theorem below_putCells (vs : List Value) : ∀ (w : World) (g off B : Nat), B ≤ g → Below B w (putCells w g off vs) := by
  induction vs with
  | nil => intro w g off B _; exact Below.refl _ _
  | cons v vs ih =>
    intro w g off B h
    exact Below.trans ((Below.refl B w).setCell (p := ⟨g, off, none⟩) h v) (ih _ _ _ _ h)
theorem frozen_row {w : World} {g : Nat} {cs : Array Value} {e : TypeId} (h : w.heap[g]? = some (.cells cs e (0, 0))) (o : Nat) : w.frozen? ⟨g, o, none⟩ = false := frozen_of_row w g o cs e h
theorem row_cell {w : World} {g o : Nat} {cs : Array Value} {e : TypeId} (h : w.heap[g]? = some (.cells cs e (0, 0))) (ho : o < cs.size) : ∃ v, w.cell? ⟨g, o, none⟩ = some v :=
  ⟨cs[o], by rw [cell_of_row w g _ cs e _ h]; exact Array.getElem?_eq_getElem ho⟩
theorem row_lt {w : World} {g : Nat} {o : Obj} (h : w.heap[g]? = some o) : g < w.heap.size := (Array.getElem?_eq_some_iff.1 h).1
theorem run_make_slice {P : Program} {t e : TypeId} {z : Value} {size bytes : Nat} (ht : P.underlying t = some (.slice e)) (hi : (P.info? e).map (fun i => (i.zero, i.size, i.bytes)) = some (some z, size, bytes)) (n : Nat) (hb : n * bytes ≤ 281474976710656) (hn : n ≤ 9223372036854775807) (w : World) :
    (Instr.makeSlice t (.int .i64 (n : Int)) (.int .i64 (n : Int))).run P w = .ok (.slice (some ⟨w.heap.size, 0, none⟩) n n) (w.alloc (.cells (madeCells z.cells (n * size)) e)) := by
  obtain ⟨i, h1, h2, h3, h4⟩ := info_parts hi
  have := run_make (P := P) w t e i z ht h1 h2 .i64 .i64 n n (by omega) (by omega) (by rw [h4, Int.mul_comm, ← Int.natCast_mul]; omega) (by omega)
  rw [this, h3, Int.toNat_natCast]
def C_Str (s : ByteArray) (cs : List Value) : Prop := cs = [.string s] ∧ s.size ≤ 9223372036854775807
abbrev Sl_Str (lo hi : Nat) (w : World) (l : List ByteArray) (v : Value) : Prop := SlOf C_Str 1 lo hi w l v
theorem Sl_Str.keep {lo hi lo' hi' : Nat} {w w' : World} {l : List ByteArray} {v : Value} (h : Sl_Str lo hi w l v) (hs : Same lo hi w w') (h1 : lo' ≤ lo) (h2 : hi ≤ hi') : Sl_Str lo' hi' w' l v := SlOf.keep h hs h1 h2 (fun _ _ _ h => h)
theorem Sl_Str.now {lo : Nat} {w w' : World} {l : List ByteArray} {v : Value} (h : Sl_Str lo w.heap.size w l v) (hb : Below w.heap.size w w') : Sl_Str lo w'.heap.size w' l v := h.keep (same_below hb) (Nat.le_refl _) hb.size
theorem take1 {α : Type} {k : Nat} {a : α} {l : List α} (h : k = 1) : (a :: l).take k = [a] := by subst h; rfl
theorem list2 {α : Type} {l : List α} (h : l.length = 2) : ∃ a b, l = [a, b] := by
  match l, h with | [a, b], _ => exact ⟨a, b, rfl⟩
theorem list3 {α : Type} {l : List α} (h : l.length = 3) : ∃ a b c, l = [a, b, c] := by
  match l, h with | [a, b, c], _ => exact ⟨a, b, c, rfl⟩
theorem list4 {α : Type} {l : List α} (h : l.length = 4) : ∃ a b c d, l = [a, b, c, d] := by
  match l, h with | [a, b, c, d], _ => exact ⟨a, b, c, d, rfl⟩
theorem list7 {α : Type} {l : List α} (h : l.length = 7) : ∃ a b c d e f g, l = [a, b, c, d, e, f, g] := by
  match l, h with | [a, b, c, d, e, f, g], _ => exact ⟨a, b, c, d, e, f, g, rfl⟩
end Go.Proofs.YteecgklmdfockaaGreatDoor
namespace Go.Proofs.YteecgklmdfockaaGreatDoor
open Go.RowKit Go.ChangeShapes Go.WideShapes Go.Deep
structure Taint where
  key : ByteArray
  value : ByteArray
  effect : Int
def C_Taint (d : Taint) (cs : List Value) : Prop := cs = [.string d.key, .string d.value, .int .i64 d.effect] ∧ d.key.size ≤ 9223372036854775807 ∧ d.value.size ≤ 9223372036854775807 ∧ I64 d.effect
abbrev Sl_Taint (lo hi : Nat) (w : World) (l : List Taint) (v : Value) : Prop := SlOf (C_Taint) 3 lo hi w l v
theorem Sl_Taint.keep {lo hi lo' hi' : Nat} {w w' : World} {l : List Taint} {v : Value} (h : Sl_Taint lo hi w l v) (hs : Same lo hi w w') (h1 : lo' ≤ lo) (h2 : hi ≤ hi') : Sl_Taint lo' hi' w' l v := SlOf.keep h hs h1 h2 (fun _ _ _ h => h)
theorem Sl_Taint.now {lo : Nat} {w w' : World} {l : List Taint} {v : Value} (h : Sl_Taint lo w.heap.size w l v) (hb : Below w.heap.size w w') : Sl_Taint lo w'.heap.size w' l v := h.keep (same_below hb) (Nat.le_refl _) hb.size
structure Tolerance where
  key : ByteArray
  equal : Bool
  value : ByteArray
  effect : Int
def C_Tolerance (d : Tolerance) (cs : List Value) : Prop := cs = [.string d.key, .bool d.equal, .string d.value, .int .i64 d.effect] ∧ d.key.size ≤ 9223372036854775807 ∧ d.value.size ≤ 9223372036854775807 ∧ I64 d.effect
abbrev Sl_Tolerance (lo hi : Nat) (w : World) (l : List Tolerance) (v : Value) : Prop := SlOf (C_Tolerance) 4 lo hi w l v
theorem Sl_Tolerance.keep {lo hi lo' hi' : Nat} {w w' : World} {l : List Tolerance} {v : Value} (h : Sl_Tolerance lo hi w l v) (hs : Same lo hi w w') (h1 : lo' ≤ lo) (h2 : hi ≤ hi') : Sl_Tolerance lo' hi' w' l v := SlOf.keep h hs h1 h2 (fun _ _ _ h => h)
theorem Sl_Tolerance.now {lo : Nat} {w w' : World} {l : List Tolerance} {v : Value} (h : Sl_Tolerance lo w.heap.size w l v) (hb : Below w.heap.size w w') : Sl_Tolerance lo w'.heap.size w' l v := h.keep (same_below hb) (Nat.le_refl _) hb.size
structure Label where
  key : ByteArray
  value : ByteArray
def C_Label (d : Label) (cs : List Value) : Prop := cs = [.string d.key, .string d.value] ∧ d.key.size ≤ 9223372036854775807 ∧ d.value.size ≤ 9223372036854775807
abbrev Sl_Label (lo hi : Nat) (w : World) (l : List Label) (v : Value) : Prop := SlOf (C_Label) 2 lo hi w l v
theorem Sl_Label.keep {lo hi lo' hi' : Nat} {w w' : World} {l : List Label} {v : Value} (h : Sl_Label lo hi w l v) (hs : Same lo hi w w') (h1 : lo' ≤ lo) (h2 : hi ≤ hi') : Sl_Label lo' hi' w' l v := SlOf.keep h hs h1 h2 (fun _ _ _ h => h)
theorem Sl_Label.now {lo : Nat} {w w' : World} {l : List Label} {v : Value} (h : Sl_Label lo w.heap.size w l v) (hb : Below w.heap.size w w') : Sl_Label lo w'.heap.size w' l v := h.keep (same_below hb) (Nat.le_refl _) hb.size
structure Need where
  key : ByteArray
  op : Int
  values : List ByteArray
def C_Need (lo hi : Nat) (w : World) (d : Need) (cs : List Value) : Prop := ∃ v2, cs = [.string d.key, .int .i64 d.op, v2] ∧ d.key.size ≤ 9223372036854775807 ∧ I64 d.op ∧ Sl_Str lo hi w d.values v2
abbrev Sl_Need (lo hi : Nat) (w : World) (l : List Need) (v : Value) : Prop := SlOf (C_Need lo hi w) 3 lo hi w l v
theorem C_Need.keep {lo hi lo' hi' : Nat} {w w' : World} {d : Need} {cs : List Value} (h : C_Need lo hi w d cs) (hs : Same lo hi w w') (h1 : lo' ≤ lo) (h2 : hi ≤ hi') : C_Need lo' hi' w' d cs := by
  obtain ⟨v2, hc, a0, a1, a2⟩ := h
  exact ⟨v2, hc, a0, a1, a2.keep hs h1 h2⟩
theorem Sl_Need.keep {lo hi lo' hi' : Nat} {w w' : World} {l : List Need} {v : Value} (h : Sl_Need lo hi w l v) (hs : Same lo hi w w') (h1 : lo' ≤ lo) (h2 : hi ≤ hi') : Sl_Need lo' hi' w' l v := SlOf.keep h hs h1 h2 (fun _ _ _ h => C_Need.keep h hs h1 h2)
theorem Sl_Need.now {lo : Nat} {w w' : World} {l : List Need} {v : Value} (h : Sl_Need lo w.heap.size w l v) (hb : Below w.heap.size w w') : Sl_Need lo w'.heap.size w' l v := h.keep (same_below hb) (Nat.le_refl _) hb.size
theorem C_Need.now {lo : Nat} {w w' : World} {d : Need} {cs : List Value} (h : C_Need lo w.heap.size w d cs) (hb : Below w.heap.size w w') : C_Need lo w'.heap.size w' d cs := h.keep (same_below hb) (Nat.le_refl _) hb.size
structure Host where
  name : ByteArray
  labels : List Label
  cpu : Int
  mem : Int
  slots : Int
  taints : List Taint
def C_Host (lo hi : Nat) (w : World) (d : Host) (cs : List Value) : Prop := ∃ v1 v5, cs = [.string d.name, v1, .int .i64 d.cpu, .int .i64 d.mem, .int .i64 d.slots, v5] ∧ d.name.size ≤ 9223372036854775807 ∧ Sl_Label lo hi w d.labels v1 ∧ I64 d.cpu ∧ I64 d.mem ∧ I64 d.slots ∧ Sl_Taint lo hi w d.taints v5
abbrev Sl_Host (lo hi : Nat) (w : World) (l : List Host) (v : Value) : Prop := SlOf (C_Host lo hi w) 6 lo hi w l v
theorem C_Host.keep {lo hi lo' hi' : Nat} {w w' : World} {d : Host} {cs : List Value} (h : C_Host lo hi w d cs) (hs : Same lo hi w w') (h1 : lo' ≤ lo) (h2 : hi ≤ hi') : C_Host lo' hi' w' d cs := by
  obtain ⟨v1, v5, hc, a0, a1, a2, a3, a4, a5⟩ := h
  exact ⟨v1, v5, hc, a0, a1.keep hs h1 h2, a2, a3, a4, a5.keep hs h1 h2⟩
theorem Sl_Host.keep {lo hi lo' hi' : Nat} {w w' : World} {l : List Host} {v : Value} (h : Sl_Host lo hi w l v) (hs : Same lo hi w w') (h1 : lo' ≤ lo) (h2 : hi ≤ hi') : Sl_Host lo' hi' w' l v := SlOf.keep h hs h1 h2 (fun _ _ _ h => C_Host.keep h hs h1 h2)
theorem Sl_Host.now {lo : Nat} {w w' : World} {l : List Host} {v : Value} (h : Sl_Host lo w.heap.size w l v) (hb : Below w.heap.size w w') : Sl_Host lo w'.heap.size w' l v := h.keep (same_below hb) (Nat.le_refl _) hb.size
theorem C_Host.now {lo : Nat} {w w' : World} {d : Host} {cs : List Value} (h : C_Host lo w.heap.size w d cs) (hb : Below w.heap.size w w') : C_Host lo w'.heap.size w' d cs := h.keep (same_below hb) (Nat.le_refl _) hb.size
structure Pod where
  name : ByteArray
  labels : List Label
  cpu : Int
  mem : Int
  rank : Int
  needs : List Need
  tolerances : List Tolerance
def C_Pod (lo hi : Nat) (w : World) (d : Pod) (cs : List Value) : Prop := ∃ v1 v5 v6, cs = [.string d.name, v1, .int .i64 d.cpu, .int .i64 d.mem, .int .i64 d.rank, v5, v6] ∧ d.name.size ≤ 9223372036854775807 ∧ Sl_Label lo hi w d.labels v1 ∧ I64 d.cpu ∧ I64 d.mem ∧ I64 d.rank ∧ Sl_Need lo hi w d.needs v5 ∧ Sl_Tolerance lo hi w d.tolerances v6
abbrev Sl_Pod (lo hi : Nat) (w : World) (l : List Pod) (v : Value) : Prop := SlOf (C_Pod lo hi w) 7 lo hi w l v
theorem C_Pod.keep {lo hi lo' hi' : Nat} {w w' : World} {d : Pod} {cs : List Value} (h : C_Pod lo hi w d cs) (hs : Same lo hi w w') (h1 : lo' ≤ lo) (h2 : hi ≤ hi') : C_Pod lo' hi' w' d cs := by
  obtain ⟨v1, v5, v6, hc, a0, a1, a2, a3, a4, a5, a6⟩ := h
  exact ⟨v1, v5, v6, hc, a0, a1.keep hs h1 h2, a2, a3, a4, a5.keep hs h1 h2, a6.keep hs h1 h2⟩
theorem Sl_Pod.keep {lo hi lo' hi' : Nat} {w w' : World} {l : List Pod} {v : Value} (h : Sl_Pod lo hi w l v) (hs : Same lo hi w w') (h1 : lo' ≤ lo) (h2 : hi ≤ hi') : Sl_Pod lo' hi' w' l v := SlOf.keep h hs h1 h2 (fun _ _ _ h => C_Pod.keep h hs h1 h2)
theorem Sl_Pod.now {lo : Nat} {w w' : World} {l : List Pod} {v : Value} (h : Sl_Pod lo w.heap.size w l v) (hb : Below w.heap.size w w') : Sl_Pod lo w'.heap.size w' l v := h.keep (same_below hb) (Nat.le_refl _) hb.size
theorem C_Pod.now {lo : Nat} {w w' : World} {d : Pod} {cs : List Value} (h : C_Pod lo w.heap.size w d cs) (hb : Below w.heap.size w w') : C_Pod lo w'.heap.size w' d cs := h.keep (same_below hb) (Nat.le_refl _) hb.size
section
variable {H : Type} {enc : TypeId × Value → H} {w : World} {base : Nat} {spare : Nat → Bool} {held : Bool} {fuel : Nat} {cs : List Value} {x : DataW H × List MemPlace}
theorem o_Strs (h : DataW.trod enc Tryz.prog w base spare held fuel 27 cs = some x) : ∃ v l, cs = [v] ∧ Sl_Str 0 w.heap.size w l v :=
  slice_cells C_Str Tryz.underlying27 (by kernel_rfl) (by decide) h (fun _ _ _ h' => by
    obtain ⟨s, h1, h2⟩ := cell_str Tryz.underlying9 h'
    exact ⟨s, h1, h2⟩)
theorem o_Tolerance (h : DataW.trod enc Tryz.prog w base spare held fuel 119 cs = some x) : ∃ d, C_Tolerance d cs := by
  obtain ⟨hl, n, -, hf⟩ := struct_cells Tryz.underlying119 h
  rw [show Tryz.prog.cellsOf 119 = 4 from by kernel_rfl] at hl
  obtain ⟨c0, c1, c2, c3, rfl⟩ := list4 hl
  have e0 : ∃ y, DataW.trod enc Tryz.prog w base spare held n 9 ((c0 :: [c1, c2, c3]).take (Tryz.prog.cellsOf 9)) = some y := hf 0 _ rfl
  rw [take1 (show Tryz.prog.cellsOf 9 = 1 from by kernel_rfl)] at e0
  obtain ⟨y0, e0⟩ := e0
  have e1 : ∃ y, DataW.trod enc Tryz.prog w base spare held n 4 ((c1 :: [c2, c3]).take (Tryz.prog.cellsOf 4)) = some y := hf 1 _ rfl
  rw [take1 (show Tryz.prog.cellsOf 4 = 1 from by kernel_rfl)] at e1
  obtain ⟨y1, e1⟩ := e1
  have e2 : ∃ y, DataW.trod enc Tryz.prog w base spare held n 9 ((c2 :: [c3]).take (Tryz.prog.cellsOf 9)) = some y := hf 2 _ rfl
  rw [take1 (show Tryz.prog.cellsOf 9 = 1 from by kernel_rfl)] at e2
  obtain ⟨y2, e2⟩ := e2
  have e3 : ∃ y, DataW.trod enc Tryz.prog w base spare held n 3 ((c3 :: []).take (Tryz.prog.cellsOf 3)) = some y := hf 3 _ rfl
  rw [take1 (show Tryz.prog.cellsOf 3 = 1 from by kernel_rfl)] at e3
  obtain ⟨y3, e3⟩ := e3
  obtain ⟨d0, g0, b0⟩ := cell_str Tryz.underlying9 e0
  simp only [List.cons.injEq, and_true] at g0
  subst g0
  obtain ⟨d1, g1⟩ := cell_bool Tryz.underlying4 e1
  simp only [List.cons.injEq, and_true] at g1
  subst g1
  obtain ⟨d2, g2, b2⟩ := cell_str Tryz.underlying9 e2
  simp only [List.cons.injEq, and_true] at g2
  subst g2
  obtain ⟨d3, g3, b3⟩ := cell_int Tryz.underlying3 e3
  simp only [List.cons.injEq, and_true] at g3
  subst g3
  exact ⟨⟨d0, d1, d2, d3⟩, rfl, b0, b2, b3⟩
theorem o_Tolerances (h : DataW.trod enc Tryz.prog w base spare held fuel 43 cs = some x) : ∃ v l, cs = [v] ∧ Sl_Tolerance 0 w.heap.size w l v :=
  slice_cells (C_Tolerance) Tryz.underlying43 (by kernel_rfl) (by decide) h (fun _ _ _ h' => o_Tolerance h')
theorem o_Label (h : DataW.trod enc Tryz.prog w base spare held fuel 98 cs = some x) : ∃ d, C_Label d cs := by
  obtain ⟨hl, n, -, hf⟩ := struct_cells Tryz.underlying98 h
  rw [show Tryz.prog.cellsOf 98 = 2 from by kernel_rfl] at hl
  obtain ⟨c0, c1, rfl⟩ := list2 hl
  have e0 : ∃ y, DataW.trod enc Tryz.prog w base spare held n 9 ((c0 :: [c1]).take (Tryz.prog.cellsOf 9)) = some y := hf 0 _ rfl
  rw [take1 (show Tryz.prog.cellsOf 9 = 1 from by kernel_rfl)] at e0
  obtain ⟨y0, e0⟩ := e0
  have e1 : ∃ y, DataW.trod enc Tryz.prog w base spare held n 9 ((c1 :: []).take (Tryz.prog.cellsOf 9)) = some y := hf 1 _ rfl
  rw [take1 (show Tryz.prog.cellsOf 9 = 1 from by kernel_rfl)] at e1
  obtain ⟨y1, e1⟩ := e1
  obtain ⟨d0, g0, b0⟩ := cell_str Tryz.underlying9 e0
  simp only [List.cons.injEq, and_true] at g0
  subst g0
  obtain ⟨d1, g1, b1⟩ := cell_str Tryz.underlying9 e1
  simp only [List.cons.injEq, and_true] at g1
  subst g1
  exact ⟨⟨d0, d1⟩, rfl, b0, b1⟩
theorem o_Labels (h : DataW.trod enc Tryz.prog w base spare held fuel 22 cs = some x) : ∃ v l, cs = [v] ∧ Sl_Label 0 w.heap.size w l v :=
  slice_cells (C_Label) Tryz.underlying22 (by kernel_rfl) (by decide) h (fun _ _ _ h' => o_Label h')
theorem o_Need (h : DataW.trod enc Tryz.prog w base spare held fuel 117 cs = some x) : ∃ d, C_Need 0 w.heap.size w d cs := by
  obtain ⟨hl, n, -, hf⟩ := struct_cells Tryz.underlying117 h
  rw [show Tryz.prog.cellsOf 117 = 3 from by kernel_rfl] at hl
  obtain ⟨c0, c1, c2, rfl⟩ := list3 hl
  have e0 : ∃ y, DataW.trod enc Tryz.prog w base spare held n 9 ((c0 :: [c1, c2]).take (Tryz.prog.cellsOf 9)) = some y := hf 0 _ rfl
  rw [take1 (show Tryz.prog.cellsOf 9 = 1 from by kernel_rfl)] at e0
  obtain ⟨y0, e0⟩ := e0
  have e1 : ∃ y, DataW.trod enc Tryz.prog w base spare held n 3 ((c1 :: [c2]).take (Tryz.prog.cellsOf 3)) = some y := hf 1 _ rfl
  rw [take1 (show Tryz.prog.cellsOf 3 = 1 from by kernel_rfl)] at e1
  obtain ⟨y1, e1⟩ := e1
  have e2 : ∃ y, DataW.trod enc Tryz.prog w base spare held n 27 ((c2 :: []).take (Tryz.prog.cellsOf 27)) = some y := hf 2 _ rfl
  rw [take1 (show Tryz.prog.cellsOf 27 = 1 from by kernel_rfl)] at e2
  obtain ⟨y2, e2⟩ := e2
  obtain ⟨d0, g0, b0⟩ := cell_str Tryz.underlying9 e0
  simp only [List.cons.injEq, and_true] at g0
  subst g0
  obtain ⟨d1, g1, b1⟩ := cell_int Tryz.underlying3 e1
  simp only [List.cons.injEq, and_true] at g1
  subst g1
  obtain ⟨u2, d2, g2, b2⟩ := o_Strs e2
  simp only [List.cons.injEq, and_true] at g2
  subst g2
  exact ⟨⟨d0, d1, d2⟩, _, rfl, b0, b1, b2⟩
theorem o_Needs (h : DataW.trod enc Tryz.prog w base spare held fuel 42 cs = some x) : ∃ v l, cs = [v] ∧ Sl_Need 0 w.heap.size w l v :=
  slice_cells (C_Need 0 w.heap.size w) Tryz.underlying42 (by kernel_rfl) (by decide) h (fun _ _ _ h' => o_Need h')
theorem o_Pod (h : DataW.trod enc Tryz.prog w base spare held fuel 45 cs = some x) : ∃ d, C_Pod 0 w.heap.size w d cs := by
  obtain ⟨hl, n, -, hf⟩ := struct_cells Tryz.underlying45 h
  rw [show Tryz.prog.cellsOf 45 = 7 from by kernel_rfl] at hl
  obtain ⟨c0, c1, c2, c3, c4, c5, c6, rfl⟩ := list7 hl
  have e0 : ∃ y, DataW.trod enc Tryz.prog w base spare held n 9 ((c0 :: [c1, c2, c3, c4, c5, c6]).take (Tryz.prog.cellsOf 9)) = some y := hf 0 _ rfl
  rw [take1 (show Tryz.prog.cellsOf 9 = 1 from by kernel_rfl)] at e0
  obtain ⟨y0, e0⟩ := e0
  have e1 : ∃ y, DataW.trod enc Tryz.prog w base spare held n 22 ((c1 :: [c2, c3, c4, c5, c6]).take (Tryz.prog.cellsOf 22)) = some y := hf 1 _ rfl
  rw [take1 (show Tryz.prog.cellsOf 22 = 1 from by kernel_rfl)] at e1
  obtain ⟨y1, e1⟩ := e1
  have e2 : ∃ y, DataW.trod enc Tryz.prog w base spare held n 3 ((c2 :: [c3, c4, c5, c6]).take (Tryz.prog.cellsOf 3)) = some y := hf 2 _ rfl
  rw [take1 (show Tryz.prog.cellsOf 3 = 1 from by kernel_rfl)] at e2
  obtain ⟨y2, e2⟩ := e2
  have e3 : ∃ y, DataW.trod enc Tryz.prog w base spare held n 3 ((c3 :: [c4, c5, c6]).take (Tryz.prog.cellsOf 3)) = some y := hf 3 _ rfl
  rw [take1 (show Tryz.prog.cellsOf 3 = 1 from by kernel_rfl)] at e3
  obtain ⟨y3, e3⟩ := e3
  have e4 : ∃ y, DataW.trod enc Tryz.prog w base spare held n 3 ((c4 :: [c5, c6]).take (Tryz.prog.cellsOf 3)) = some y := hf 4 _ rfl
  rw [take1 (show Tryz.prog.cellsOf 3 = 1 from by kernel_rfl)] at e4
  obtain ⟨y4, e4⟩ := e4
  have e5 : ∃ y, DataW.trod enc Tryz.prog w base spare held n 42 ((c5 :: [c6]).take (Tryz.prog.cellsOf 42)) = some y := hf 5 _ rfl
  rw [take1 (show Tryz.prog.cellsOf 42 = 1 from by kernel_rfl)] at e5
  obtain ⟨y5, e5⟩ := e5
  have e6 : ∃ y, DataW.trod enc Tryz.prog w base spare held n 43 ((c6 :: []).take (Tryz.prog.cellsOf 43)) = some y := hf 6 _ rfl
  rw [take1 (show Tryz.prog.cellsOf 43 = 1 from by kernel_rfl)] at e6
  obtain ⟨y6, e6⟩ := e6
  obtain ⟨d0, g0, b0⟩ := cell_str Tryz.underlying9 e0
  simp only [List.cons.injEq, and_true] at g0
  subst g0
  obtain ⟨u1, d1, g1, b1⟩ := o_Labels e1
  simp only [List.cons.injEq, and_true] at g1
  subst g1
  obtain ⟨d2, g2, b2⟩ := cell_int Tryz.underlying3 e2
  simp only [List.cons.injEq, and_true] at g2
  subst g2
  obtain ⟨d3, g3, b3⟩ := cell_int Tryz.underlying3 e3
  simp only [List.cons.injEq, and_true] at g3
  subst g3
  obtain ⟨d4, g4, b4⟩ := cell_int Tryz.underlying3 e4
  simp only [List.cons.injEq, and_true] at g4
  subst g4
  obtain ⟨u5, d5, g5, b5⟩ := o_Needs e5
  simp only [List.cons.injEq, and_true] at g5
  subst g5
  obtain ⟨u6, d6, g6, b6⟩ := o_Tolerances e6
  simp only [List.cons.injEq, and_true] at g6
  subst g6
  exact ⟨⟨d0, d1, d2, d3, d4, d5, d6⟩, _, _, _, rfl, b0, b1, b2, b3, b4, b5, b6⟩
variable {r : Reach} {b0 : Nat} {v : Value} {d : DataW H} {p : List MemPlace}
def R_Pod (w : World) (d : Pod) (v : Value) : Prop := ∃ cs, v = .agg cs.toArray ∧ C_Pod 0 w.heap.size w d cs
set_option maxRecDepth 100000 in
theorem r_Pod (hv : Value.okWide Tryz.prog w r b0 45 v) (h : DataW.Trod enc Tryz.prog w base spare held 45 v d p) : ∃ x, R_Pod w x v := by
  obtain ⟨cs, rfl, _⟩ := okWide_struct Tryz.underlying45 hv
  obtain ⟨fuel, hf⟩ := h
  obtain ⟨x, hx⟩ := o_Pod hf
  exact ⟨x, cs.toList, by simp, hx⟩
end
end Go.Proofs.YteecgklmdfockaaGreatDoor
namespace Go.Proofs.YteecgklmdfockaaGreatDoor
open Go.RowKit
def szI (left : Int) (n : Nat) : Int := if (n : Int) ≤ left then left - n else -1
theorem szI_neg {left : Int} {n : Nat} (h : ¬ (n : Int) ≤ left) : szI left n = -1 := by unfold szI; rw [if_neg h]
theorem szI_pos {left : Int} {n : Nat} (h : (n : Int) ≤ left) : szI left n = left - n := by unfold szI; rw [if_pos h]
def szL {D : Type} (f : D → Nat) : List D → Nat
  | [] => 0
  | d :: l => f d + szL f l
theorem szL_append {D : Type} (f : D → Nat) (a b : List D) : szL f (a ++ b) = szL f a + szL f b := by
  induction a with
  | nil => simp [szL]
  | cons x xs ih => simp [szL, ih]; omega
theorem szL_take_succ {D : Type} (f : D → Nat) (l : List D) (k : Nat) (d : D) (h : l[k]? = some d) : szL f (l.take (k + 1)) = szL f (l.take k) + f d := by
  have hl : k < l.length := (List.getElem?_eq_some_iff.1 h).1
  rw [List.take_succ_eq_append_getElem hl, szL_append]
  have : l[k] = d := by rw [List.getElem?_eq_getElem hl] at h; exact Option.some.inj h
  simp [szL, this]
theorem szL_take_le {D : Type} (f : D → Nat) (l : List D) (k : Nat) : szL f (l.take k) ≤ szL f l := by
  have := szL_append f (l.take k) (l.drop k); rw [List.take_append_drop] at this; omega
theorem exists_at {D : Type} {l : List D} {k : Nat} (h : k < l.length) : ∃ d, l[k]? = some d := ⟨l[k], List.getElem?_eq_getElem h⟩
def nL {D : Type} (f : D → Nat) (l : List D) : Nat := l.length + szL f l
theorem nL_def {D : Type} (f : D → Nat) (l : List D) : nL f l = l.length + szL f l := rfl
theorem c_laws_szStringS (l : List ByteArray) (v : Value) (left : Int) (w : World) (lo : Nat) (hs : Sl_Str lo w.heap.size w l v) (h3 : 0 ≤ left) (h4 : left ≤ 1048576) :
    Calls Tryz.prog 117 #[v, .int .i64 left] w fun e w' => e = .returned (.int .i64 (szI left (nL ByteArray.size l))) ∧ w = w' := by
  obtain ⟨A, c, rfl, hlc, hc, hA⟩ := hs
  by_cases hlt : left - l.length < 0
  · have Hf := Lib.hid (show szI left (nL ByteArray.size l) = -1 by rw [nL_def]; unfold szI; rw [if_neg (by omega)])
    go_enter Tryz.func117, Tryz.ntmps117
    go_wp2_with fail
    go_ret
    exact ⟨ret_int Hf.out.symm, rfl⟩
  · go_enter Tryz.func117, Tryz.ntmps117
    go_wp2_with fail
    go_loop [1, 5] (fun x i => ∃ k : Nat, k ≤ l.length ∧ i = .int .i64 k ∧ x = .int .i64 (left - l.length - szL ByteArray.size (l.take k)) ∧ 0 ≤ left - l.length - szL ByteArray.size (l.take k)) (fun _ i => l.length - (intOf i).toNat)
    case atStart => exact ⟨0, Nat.zero_le _, rfl, by simp [szL], by simp [szL]; omega⟩
    case round =>
      obtain ⟨k, hk, rfl, rfl, hge⟩ := hrel
      by_cases hlt : k < l.length
      · obtain ⟨b, o, rfl, -, hb2, hcell⟩ := hA (by omega)
        obtain ⟨d, hd⟩ := exists_at hlt
        obtain ⟨cs, -, hcs, rfl, hk1⟩ := hcell k d hd
        have hc0 := hcs 0 (by omega)
        simp at hc0
        clear hcs hcell hA
        have Hs := Lib.hid (szL_take_succ ByteArray.size l k d hd)
        have hle := szL_take_le ByteArray.size l (k+1)
        by_cases hneg : left - l.length - szL ByteArray.size (l.take k) - d.size < 0
        · have Hf := Lib.hid (show szI left (nL ByteArray.size l) = -1 by rw [nL_def]; unfold szI; have := Hs.out; rw [if_neg (by omega)])
          go_wp2_with fail
          go_ret
          exact ⟨ret_int Hf.out.symm, rfl⟩
        · go_wp2_with fail
          go_round
          case rel => exact ⟨k + 1, by omega, by go_num, by rw [Hs.out]; go_num, by rw [Hs.out]; omega⟩
          case measure => simp [intOf]; omega
      · obtain rfl : k = l.length := by omega
        rw [List.take_length] at *
        have Hf := Lib.hid (show szI left (nL ByteArray.size l) = left - l.length - szL ByteArray.size l by rw [nL_def]; unfold szI; rw [if_pos (by omega)]; omega)
        clear hA
        go_wp2_with fail
        go_ret
        exact ⟨ret_int Hf.out.symm, rfl⟩
theorem c_laws_toStringS (l : List ByteArray) (v : Value) (w : World) (lo : Nat) (hs : Sl_Str lo w.heap.size w l v) (hn : l.length ≤ 1048576) :
    Calls Tryz.prog 120 #[v] w fun e w' => ∃ A c, e = .returned (.slice A l.length c) ∧ Sl_Str w.heap.size w'.heap.size w' l (.slice A l.length c) ∧ Below w.heap.size w w' := by
  obtain ⟨A, c, rfl, hlc, hc, hA⟩ := hs
  have hmk := run_make_slice (P := Tryz.prog) (z := .string ⟨#[]⟩) (size := 1) (bytes := 16) Tryz.underlying27 (by kernel_rfl) l.length (by omega) (by omega)
  go_enter Tryz.func120, Tryz.ntmps120
  go_wp2_with fail
  go_loopw [4] (fun i wr => ∃ (k : Nat) (cs : Array Value), k ≤ l.length ∧ i = .int .i64 k ∧ Below w.heap.size w wr ∧ wr.heap[w.heap.size]? = some (.cells cs 9 (0, 0)) ∧ Part C_Str 1 l k cs) (fun i _ => l.length - (intOf i).toNat)
  case atStart => exact ⟨0, _, Nat.zero_le _, rfl, bel, heap_alloc_new _ _, Part.zero (by simp [size_madeCells])⟩
  case round =>
    obtain ⟨k, cs, hk, rfl, hbr, hg, hp⟩ := hrel
    by_cases hlt : k < l.length
    · obtain ⟨b, o, rfl, -, hb2, hcell⟩ := hA (by omega)
      obtain ⟨d, hd⟩ := exists_at hlt
      obtain ⟨es, -, hcs, rfl, hk1⟩ := hcell k d hd
      have hc0 := (hbr.cell (p := ⟨b, o + k * 1 + 0, none⟩) (by simp; omega)).trans (hcs 0 (by omega))
      simp at hc0
      obtain ⟨x0, hx0⟩ := row_cell hg (o := k * 1 + 0) (by rw [hp.1]; omega)
      have hf0 := frozen_row hg (k * 1 + 0)
      simp at hx0 hf0
      clear hcs hcell hA
      go_wp2_with fail
      go_roundw
      case rel => exact ⟨k + 1, putAt cs k [.string d], by omega, by go_num, bel, heap_putCells [.string d] _ _ _ _ _ hg, by simpa using hp.store hd rfl ⟨rfl, hk1⟩⟩
      case measure => simp [intOf]; omega
    · obtain rfl : k = l.length := by omega
      clear hA
      go_wp2_with fail
      go_ret
      exact ⟨_, _, rfl, SlOf.of_part hp hg (Nat.le_refl _) (row_lt hg) (Nat.le_refl _) (by omega), bel⟩
theorem c_laws_eqStringS (l : List ByteArray) (va vb : Value) (w : World) (lo lo' : Nat) (ha : Sl_Str lo w.heap.size w l va) (hb : Sl_Str lo' w.heap.size w l vb) :
    Calls Tryz.prog 36 #[va, vb] w fun e w' => e = .returned (.bool true) ∧ Below w.heap.size w w' := by
  obtain ⟨A, c, rfl, hlc, hc, hA⟩ := ha
  obtain ⟨B, c', rfl, hlc', hc', hB⟩ := hb
  go_enter Tryz.func36, Tryz.ntmps36
  go_wp2_with fail
  go_loopw [5] (fun i wr => ∃ k : Nat, k ≤ l.length ∧ i = .int .i64 k ∧ ∃ n, wr = w.drewN n) (fun i _ => l.length - (intOf i).toNat)
  case atStart => exact ⟨0, Nat.zero_le _, rfl, 0, rfl⟩
  case round =>
    obtain ⟨k, hk, rfl, n, rfl⟩ := hrel
    by_cases hlt : k < l.length
    · obtain ⟨b, o, rfl, -, -, hcell⟩ := hA (by omega)
      obtain ⟨b', o', rfl, -, -, hcell'⟩ := hB (by omega)
      obtain ⟨d, hd⟩ := exists_at hlt
      obtain ⟨es, -, hcs, rfl, -⟩ := hcell k d hd
      obtain ⟨es', -, hcs', rfl, -⟩ := hcell' k d hd
      have hc0 := hcs 0 (by omega)
      have hc1 := hcs' 0 (by omega)
      simp at hc0 hc1
      have hk0 : (0 : Int) ≤ k := by omega
      have hk1 : (k : Int) < l.length := by omega
      clear hcs hcell hA hcs' hcell' hB hd
      go_wp2_with fail
      go_quiet (fail)
      go_wp2_with fail
      go_roundw
      case rel => exact ⟨k + 1, by omega, by go_num, _, rfl⟩
      case measure => simp [intOf]; omega
    · obtain rfl : k = l.length := by omega
      clear hA hB
      go_wp2_with fail
      go_ret
      exact ⟨rfl, bel⟩
end Go.Proofs.YteecgklmdfockaaGreatDoor
namespace Go.Proofs.YteecgklmdfockaaGreatDoor
open Go.RowKit Go.ChangeShapes Go.WideShapes Go.Deep
structure TreeD where
  kind : Int
  flag : Bool
  num : Int
  text : ByteArray
  keys : List ByteArray
  kids : List TreeD
/-- The cells cs hold the tree d, whose height is at most n. -/
def C_Tree : Nat → Nat → Nat → World → TreeD → List Value → Prop
  | 0, _, _, _, _, _ => False
  | n + 1, lo, hi, w, d, cs => ∃ v4 v5, cs = [.int .i64 d.kind, .bool d.flag, .int .i64 d.num, .string d.text, v4, v5] ∧ I64 d.kind ∧ I64 d.num ∧ d.text.size ≤ 9223372036854775807 ∧ Sl_Str lo hi w d.keys v4 ∧ SlOf (C_Tree n lo hi w) 6 lo hi w d.kids v5
abbrev Sl_Tree (n lo hi : Nat) (w : World) (l : List TreeD) (v : Value) : Prop := SlOf (C_Tree n lo hi w) 6 lo hi w l v
theorem C_Tree.out {n lo hi : Nat} {w : World} {d : TreeD} {cs : List Value} (h : C_Tree (n + 1) lo hi w d cs) : ∃ v4 v5, cs = [.int .i64 d.kind, .bool d.flag, .int .i64 d.num, .string d.text, v4, v5] ∧ I64 d.kind ∧ I64 d.num ∧ d.text.size ≤ 9223372036854775807 ∧ Sl_Str lo hi w d.keys v4 ∧ Sl_Tree n lo hi w d.kids v5 := h
theorem C_Tree.into {n lo hi : Nat} {w : World} {d : TreeD} {cs : List Value} (h : ∃ v4 v5, cs = [.int .i64 d.kind, .bool d.flag, .int .i64 d.num, .string d.text, v4, v5] ∧ I64 d.kind ∧ I64 d.num ∧ d.text.size ≤ 9223372036854775807 ∧ Sl_Str lo hi w d.keys v4 ∧ Sl_Tree n lo hi w d.kids v5) : C_Tree (n + 1) lo hi w d cs := h
theorem C_Tree.none {lo hi : Nat} {w : World} {d : TreeD} {cs : List Value} (h : C_Tree 0 lo hi w d cs) : False := h
theorem C_Tree.any {n lo hi : Nat} {w : World} {d : TreeD} {cs : List Value} (h : C_Tree n lo hi w d cs) : ∃ m, n = m + 1 := by
  cases n with
  | zero => exact h.none.elim
  | succ m => exact ⟨m, rfl⟩
theorem C_Tree.open {n lo hi : Nat} {w : World} {d : TreeD} {cs : List Value} (h : C_Tree n lo hi w d cs) : ∃ A4 c4 A5 c5, cs = [.int .i64 d.kind, .bool d.flag, .int .i64 d.num, .string d.text, .slice A4 d.keys.length c4, .slice A5 d.kids.length c5] := by
  obtain ⟨m, rfl⟩ := h.any
  obtain ⟨v4, v5, rfl, a0, a2, a3, a4, a5⟩ := h.out
  obtain ⟨A4, c4, rfl⟩ := a4.form
  obtain ⟨A5, c5, rfl⟩ := a5.form
  exact ⟨A4, c4, A5, c5, rfl⟩
theorem C_Tree.flat {n lo hi : Nat} {w : World} {d : TreeD} {cs : List Value} (h : C_Tree n lo hi w d cs) : ∃ A4 c4 A5 c5, cs = [.int .i64 d.kind, .bool d.flag, .int .i64 d.num, .string d.text, .slice A4 d.keys.length c4, .slice A5 d.kids.length c5] ∧ I64 d.kind ∧ I64 d.num ∧ d.text.size ≤ 9223372036854775807 := by
  obtain ⟨m, rfl⟩ := h.any
  obtain ⟨v4, v5, rfl, a0, a2, a3, a4, a5⟩ := h.out
  obtain ⟨A4, c4, rfl⟩ := a4.form
  obtain ⟨A5, c5, rfl⟩ := a5.form
  exact ⟨A4, c4, A5, c5, rfl, a0, a2, a3⟩
theorem C_Tree.keep : ∀ {n lo hi lo' hi' : Nat} {w w' : World} {d : TreeD} {cs : List Value}, C_Tree n lo hi w d cs → Same lo hi w w' → lo' ≤ lo → hi ≤ hi' → C_Tree n lo' hi' w' d cs
  | 0, _, _, _, _, _, _, _, _, h, _, _, _ => h.none.elim
  | n + 1, _, _, _, _, _, _, _, _, h, hs, h1, h2 => by
    obtain ⟨v4, v5, rfl, a0, a2, a3, a4, a5⟩ := h.out
    exact C_Tree.into ⟨v4, v5, rfl, a0, a2, a3, a4.keep hs h1 h2, SlOf.keep a5 hs h1 h2 (fun _ _ _ h => C_Tree.keep h hs h1 h2)⟩
theorem C_Tree.up : ∀ {n m lo hi : Nat} {w : World} {d : TreeD} {cs : List Value}, C_Tree n lo hi w d cs → n ≤ m → C_Tree m lo hi w d cs
  | 0, _, _, _, _, _, _, h, _ => h.none.elim
  | n + 1, 0, _, _, _, _, _, _, hm => absurd hm (by omega)
  | n + 1, m + 1, _, _, _, _, _, h, hm => by
    obtain ⟨v4, v5, rfl, a0, a2, a3, a4, a5⟩ := h.out
    exact C_Tree.into ⟨v4, v5, rfl, a0, a2, a3, a4, SlOf.keep a5 (Same.refl _ _ _) (Nat.le_refl _) (Nat.le_refl _) (fun _ _ _ h => C_Tree.up h (by omega))⟩
theorem C_Tree.now {n lo : Nat} {w w' : World} {d : TreeD} {cs : List Value} (h : C_Tree n lo w.heap.size w d cs) (hb : Below w.heap.size w w') : C_Tree n lo w'.heap.size w' d cs := h.keep (same_below hb) (Nat.le_refl _) hb.size
theorem Sl_Tree.keep {n lo hi lo' hi' : Nat} {w w' : World} {l : List TreeD} {v : Value} (h : Sl_Tree n lo hi w l v) (hs : Same lo hi w w') (h1 : lo' ≤ lo) (h2 : hi ≤ hi') : Sl_Tree n lo' hi' w' l v := SlOf.keep h hs h1 h2 (fun _ _ _ h => C_Tree.keep h hs h1 h2)
theorem Sl_Tree.now {n lo : Nat} {w w' : World} {l : List TreeD} {v : Value} (h : Sl_Tree n lo w.heap.size w l v) (hb : Below w.heap.size w w') : Sl_Tree n lo w'.heap.size w' l v := h.keep (same_below hb) (Nat.le_refl _) hb.size
/-- The size by which the laws measure a tree. -/
def nTree : Nat → TreeD → Nat
  | 0, _ => 0
  | n + 1, d => d.text.size + nL ByteArray.size d.keys + nL (nTree n) d.kids
theorem nTree_succ (n : Nat) (d : TreeD) : nTree (n + 1) d = d.text.size + nL ByteArray.size d.keys + nL (nTree n) d.kids := rfl
section
variable {H : Type} {enc : TypeId × Value → H} {w : World} {base : Nat} {spare : Nat → Bool} {held : Bool}
variable {r : Reach} {b0 : Nat} {v : Value} {d : DataW H} {p : List MemPlace}
end
end Go.Proofs.YteecgklmdfockaaGreatDoor
namespace Go.Proofs.YteecgklmdfockaaGreatDoor
open Go.RowKit
def T_eqTree (n : Nat) : Prop := ∀ (d : TreeD) (cs cs' : List Value) (w : World) (lo lo' : Nat) (_ : C_Tree n lo w.heap.size w d cs) (_ : C_Tree n lo' w.heap.size w d cs'),
    Calls Tryz.prog 9 #[.agg cs.toArray, .agg cs'.toArray] w fun e w' => e = .returned (.bool true) ∧ Below w.heap.size w w'
def T_eqTreeS (n : Nat) : Prop := ∀ (l : List TreeD) (va vb : Value) (w : World) (lo lo' : Nat) (_ : Sl_Tree n lo w.heap.size w l va) (_ : Sl_Tree n lo' w.heap.size w l vb),
    Calls Tryz.prog 37 #[va, vb] w fun e w' => e = .returned (.bool true) ∧ Below w.heap.size w w'
set_option maxHeartbeats 2000000 in
theorem of_eqTreeS (n : Nat) (ih : T_eqTree n) : T_eqTreeS n := by
  intro l va vb w lo lo' ha hb
  obtain ⟨A, c, rfl, hlc, hc, hA⟩ := ha
  obtain ⟨B, c', rfl, hlc', hc', hB⟩ := hb
  go_enter Tryz.func37, Tryz.ntmps37
  go_wp2_with fail
  go_loopw [5] (fun i wr => ∃ k : Nat, k ≤ l.length ∧ i = .int .i64 k ∧ Below w.heap.size w wr) (fun i _ => l.length - (intOf i).toNat)
  case atStart => exact ⟨0, Nat.zero_le _, rfl, bel⟩
  case round =>
    obtain ⟨k, hk, rfl, hbr⟩ := hrel
    by_cases hlt : k < l.length
    · obtain ⟨b, o, rfl, -, hb2, hcell⟩ := hA (by omega)
      obtain ⟨b', o', rfl, -, hb2', hcell'⟩ := hB (by omega)
      obtain ⟨d, hd⟩ := exists_at hlt
      obtain ⟨es, -, hcs, hC⟩ := hcell k d hd
      obtain ⟨es', -, hcs', hD⟩ := hcell' k d hd
      have hC' := hC
      have hD' := hD
      obtain ⟨eA4, ec4, eA5, ec5, rfl, ea0, ea2, ea3⟩ := hC'.flat
      obtain ⟨fA4, fc4, fA5, fc5, rfl, fa0, fa2, fa3⟩ := hD'.flat
      have hc0 := (hbr.cell (p := ⟨b, o + k * 6 + 0, none⟩) (by simp; omega)).trans (hcs 0 (by omega))
      simp at hc0
      have hc1 := (hbr.cell (p := ⟨b, o + k * 6 + 1, none⟩) (by simp; omega)).trans (hcs 1 (by omega))
      simp at hc1
      have hc2 := (hbr.cell (p := ⟨b, o + k * 6 + 2, none⟩) (by simp; omega)).trans (hcs 2 (by omega))
      simp at hc2
      have hc3 := (hbr.cell (p := ⟨b, o + k * 6 + 3, none⟩) (by simp; omega)).trans (hcs 3 (by omega))
      simp at hc3
      have hc4 := (hbr.cell (p := ⟨b, o + k * 6 + 4, none⟩) (by simp; omega)).trans (hcs 4 (by omega))
      simp at hc4
      have hc5 := (hbr.cell (p := ⟨b, o + k * 6 + 5, none⟩) (by simp; omega)).trans (hcs 5 (by omega))
      simp at hc5
      have hd0 := (hbr.cell (p := ⟨b', o' + k * 6 + 0, none⟩) (by simp; omega)).trans (hcs' 0 (by omega))
      simp at hd0
      have hd1 := (hbr.cell (p := ⟨b', o' + k * 6 + 1, none⟩) (by simp; omega)).trans (hcs' 1 (by omega))
      simp at hd1
      have hd2 := (hbr.cell (p := ⟨b', o' + k * 6 + 2, none⟩) (by simp; omega)).trans (hcs' 2 (by omega))
      simp at hd2
      have hd3 := (hbr.cell (p := ⟨b', o' + k * 6 + 3, none⟩) (by simp; omega)).trans (hcs' 3 (by omega))
      simp at hd3
      have hd4 := (hbr.cell (p := ⟨b', o' + k * 6 + 4, none⟩) (by simp; omega)).trans (hcs' 4 (by omega))
      simp at hd4
      have hd5 := (hbr.cell (p := ⟨b', o' + k * 6 + 5, none⟩) (by simp; omega)).trans (hcs' 5 (by omega))
      simp at hd5
      have hk0 : (0 : Int) ≤ k := by omega
      have hk1 : (k : Int) < l.length := by omega
      have hbl : b < wr.heap.size := Nat.lt_of_lt_of_le hb2 hbr.size
      have hbl' : b' < wr.heap.size := Nat.lt_of_lt_of_le hb2' hbr.size
      clear hcs hcell hA hcs' hcell' hB hd
      go_wp2_with fail
      go_region_held3 (fun w' => Below (wr).heap.size (wr) w' ∧ (∀ xb xo, xb < (wr).heap.size → w'.cell? ⟨xb, xo, none⟩ = (wr).cell? ⟨xb, xo, none⟩)) (first | exact keep_drew _ | exact keep_ext (by assumption) (by assumption) | exact keep_same (by assumption) | exact keep_alloc (by assumption) _) (first | (go_at_call 9; refine (ih d _ _ _ _ _ (hC.now (ext_trans hbr (by first | (with_reducible exact Below.refl _ _) | exact (keep_same (by assumption)).1))) (hD.now (ext_trans hbr (by first | (with_reducible exact Below.refl _ _) | exact (keep_same (by assumption)).1)))).mono ?_; rintro e w9 ⟨rfl, hb9⟩))
      (have hb := held_step (by assumption); (first | (have hcu2 := Cum.join hcu hb; (try clear hcu); (try clear hc); (try clear hfz); (try clear hsz); (try clear hs0); (try clear hs1); (try clear hs2); (try clear hs3); (try clear hs4); ) | have hcu2 := Cum.mk hb); have hcu := hcu2; clear hcu2; obtain ⟨hc, hfz⟩ := bcell hcu.h; have hsz := hcu.h.size; (try simp at hsz); (try have hs0 := lt_of_succ_le hsz); (try (have hs1 := lt_pred hsz; (try (have hs2 := lt_pred hs1; (try (have hs3 := lt_pred hs2; (try have hs4 := lt_pred hs3))))))))
      go_wp2_with fail
      go_roundw
      case rel => exact ⟨k + 1, by omega, by go_num, bel⟩
      case measure => simp [intOf]; omega
    · obtain rfl : k = l.length := by omega
      clear hA hB
      go_wp2_with fail
      go_ret
      exact ⟨rfl, bel⟩
set_option maxHeartbeats 2000000 in
theorem of_eqTree (n : Nat) (ihS : T_eqTreeS n) : T_eqTree (n + 1) := by
  intro d cs cs' w lo lo' h h'
  obtain ⟨v4, v5, rfl, a0, a2, a3, a4, a5⟩ := C_Tree.out h
  obtain ⟨A4, c4, rfl⟩ := a4.form
  obtain ⟨A5, c5, rfl⟩ := a5.form
  unfold I64 at a0
  unfold I64 at a2
  obtain ⟨zv4, zv5, rfl, za0, za2, za3, za4, za5⟩ := C_Tree.out h'
  obtain ⟨zA4, zc4, rfl⟩ := za4.form
  obtain ⟨zA5, zc5, rfl⟩ := za5.form
  unfold I64 at za0
  unfold I64 at za2
  go_enter Tryz.func9, Tryz.ntmps9
  go_wp2_with (first | (go_at_call 36; refine (c_laws_eqStringS _ _ _ _ _ _ (Sl_Str.now (by assumption) bel) (Sl_Str.now (by assumption) bel)).mono ?_; rintro e w1 ⟨rfl, hb⟩; (first | (have hcu2 := Cum.join hcu hb; (try clear hcu); (try clear hc); (try clear hfz); (try clear hsz); (try clear hs0); (try clear hs1); (try clear hs2); (try clear hs3); (try clear hs4); ) | have hcu2 := Cum.mk hb); have hcu := hcu2; clear hcu2; obtain ⟨hc, hfz⟩ := bcell hcu.h; have hsz := hcu.h.size; (try simp at hsz); (try have hs0 := lt_of_succ_le hsz); (try (have hs1 := lt_pred hsz; (try (have hs2 := lt_pred hs1; (try (have hs3 := lt_pred hs2; (try have hs4 := lt_pred hs3)))))))) | (go_at_call 37; refine (ihS _ _ _ _ _ _ (Sl_Tree.now (by assumption) bel) (Sl_Tree.now (by assumption) bel)).mono ?_; rintro e w1 ⟨rfl, hb⟩; (first | (have hcu2 := Cum.join hcu hb; (try clear hcu); (try clear hc); (try clear hfz); (try clear hsz); (try clear hs0); (try clear hs1); (try clear hs2); (try clear hs3); (try clear hs4); ) | have hcu2 := Cum.mk hb); have hcu := hcu2; clear hcu2; obtain ⟨hc, hfz⟩ := bcell hcu.h; have hsz := hcu.h.size; (try simp at hsz); (try have hs0 := lt_of_succ_le hsz); (try (have hs1 := lt_pred hsz; (try (have hs2 := lt_pred hs1; (try (have hs3 := lt_pred hs2; (try have hs4 := lt_pred hs3)))))))))
  go_ret
  exact ⟨rfl, bel⟩
theorem all_eqTree : ∀ n, T_eqTree n
  | 0 => fun _ _ _ _ _ _ h _ => (C_Tree.none h).elim
  | n + 1 => of_eqTree n (of_eqTreeS n (all_eqTree n))
end Go.Proofs.YteecgklmdfockaaGreatDoor
