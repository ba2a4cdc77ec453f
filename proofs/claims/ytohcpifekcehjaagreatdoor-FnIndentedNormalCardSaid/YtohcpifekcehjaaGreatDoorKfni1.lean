/- Steps to FnIndentedNormal. No conditions. -/
import Derived.Test.YtohcpifekcehjaaGreatDoorChecked
import Derived.WalkKit
import Derived.ProofKit
import Derived.WalkLawsBesides
import Derived.Lib.Hide
import Derived.Lib.Bytealg
import Derived.Below
import Derived.Deep.QuietTactic
import Derived.BigQuiet
import Derived.Deep.RegionHeld3
import Derived.Shelf.Lays
import Derived.Shelf.Strings.Split
import Derived.Shelf.Strings.Count
import Derived.Shelf.GgClosure.StringsIndexFuncTop
import Derived.Deep.Slices
import Derived.Lib.SmallJoins
import Derived.ChangeArms
import Derived.RowKit
import Derived.Lib.DecodeN
import Derived.Lib.IndexAny
import Derived.Shelf.Unicode.DecodeAny
import Derived.Shelf.Unicode.ValidAny
import Derived.Orders
set_option maxHeartbeats 16000000
set_option maxRecDepth 20000
namespace Go.Proofs.YtohcpifekcehjaaGreatDoor
open Go.RowKit
theorem JmF {p : Prop} [Decidable p] (h : ¬p) : decide p = false := decide_eq_false h
theorem JmG {p : Prop} [Decidable p] (h : p) : decide p = true := decide_eq_true h
theorem JmH {α : Type} [BEq α] [LawfulBEq α] {a b : α} (h : a ≠ b) : (a == b) = false := beq_eq_false_iff_ne.2 h
theorem JE {W w1 : World} (hb : Below W.heap.size W w1) : (∀ b o, b < W.heap.size -> w1.cell? ⟨b, o, none⟩ = W.cell? ⟨b, o, none⟩) /\ (∀ b o, b < W.heap.size -> w1.frozen? ⟨b, o, none⟩ = W.frozen? ⟨b, o, none⟩) :=
 ⟨fun b o h => hb.cell (p := ⟨b, o, none⟩) h, fun b o h => hb.frozen (p := ⟨b, o, none⟩) h⟩
theorem Jem {k : IntKind} {a b : Int} (h : a = b) : Ending.returned (.int k a) = .returned (.int k b) := by rw [h]
theorem JB {a b : Bool} (h : a = b) : Ending.returned (.bool a) = .returned (.bool b) := by rw [h]
theorem Jao {B : Nat} {a w : World} (h : Below B a w) (n : Nat) : Below B a (w.drewN n) := ⟨h.os, h.tape, h.output, h.size, h.block⟩
theorem JfI {a b c : World} (k : Below b.heap.size b c) (h : Below a.heap.size a b) : Below a.heap.size a c := h.trans (k.mono h.size)
theorem ZK {a b c : World} (h : Below a.heap.size a b) (k : Below b.heap.size b c) : Below a.heap.size a c := h.trans (k.mono h.size)
theorem QI {a b : World} {o : Obj} (h : Below a.heap.size a b) : Below a.heap.size a (b.alloc o) := h.alloc h.size o
theorem JaE {a b : World} {p : Addr} {u : Value} (hp : a.heap.size <= p.block) (h : Below a.heap.size a b) : Below a.heap.size a (b.setCell p u) := h.setCell hp u
structure Cum (A W : World) : Prop where
 h : Below A.heap.size A W
theorem Cum.join {a b c : World} (h : Cum a b) (k : Below b.heap.size b c) : Cum a c := ⟨JfI k h.h⟩
theorem Jc {a b : Nat} (h : a + 1 < b) : a < b := Nat.lt_of_succ_lt h
theorem Jd {a b : Nat} (h : a + 1 <= b) : a < b := h
theorem Wd (W : World) : Below W.heap.size W W.drew /\ (∀ b o, b < W.heap.size -> W.drew.cell? ⟨b, o, none⟩ = W.cell? ⟨b, o, none⟩) := ⟨(Below.refl _ _).drew, fun _ _ _ => rfl⟩
theorem Qx {W a : World} (h : Below W.heap.size W a /\ (∀ b o, b < W.heap.size -> a.cell? ⟨b, o, none⟩ = W.cell? ⟨b, o, none⟩)) : Below W.heap.size W a /\ (∀ b o, b < W.heap.size -> a.cell? ⟨b, o, none⟩ = W.cell? ⟨b, o, none⟩) := h
theorem XL {W a c : World} (h : Below W.heap.size W a /\ (∀ b o, b < W.heap.size -> a.cell? ⟨b, o, none⟩ = W.cell? ⟨b, o, none⟩)) (k : Below a.heap.size a c) : Below W.heap.size W c /\ (∀ b o, b < W.heap.size -> c.cell? ⟨b, o, none⟩ = W.cell? ⟨b, o, none⟩) :=
 have h2 := h.1.trans (k.mono h.1.size)
 ⟨h2, fun b o hb => h2.cell (p := ⟨b, o, none⟩) hb⟩
theorem ZZ {W a : World} (h : Below W.heap.size W a /\ (∀ b o, b < W.heap.size -> a.cell? ⟨b, o, none⟩ = W.cell? ⟨b, o, none⟩)) (o : Obj) : Below W.heap.size W (a.alloc o) /\ (∀ b o', b < W.heap.size -> (a.alloc o).cell? ⟨b, o', none⟩ = W.cell? ⟨b, o', none⟩) :=
 have h2 := QI (o := o) h.1
 ⟨h2, fun b o hb => h2.cell (p := ⟨b, o, none⟩) hb⟩
theorem Wo {W a : World} {X : Prop} (k : Below W.heap.size W a /\ X) : Below W.heap.size W a := k.1
theorem Jj {B : Nat} {a b : World} (h : Below B a b := by repeat (first | (with_reducible exact Below.refl _ _) | (with_reducible refine QI ?_) | ((with_reducible refine JaE ?_ ?_); focus (simp; (try omega))) | (with_reducible refine Jao ?_ _) | (with_reducible refine Below.drew ?_) | (with_reducible (apply JfI; assumption)))) : Below B a b := h
open Go.Shelf
def Yf : Go.Shelf.Ren := ⟨fun | 146 => 92 | 221 => 171 | 268 => 225 | 138 => 50 | 143 => 99 | 195 => 97 | 197 => 224 | 218 => 98 | 219 => 176 | 260 => 257 | 217 => 208 | 225 => 233 | 224 => 234 | 267 => 235 | 266 => 249 | 314 => 261 | n => n, fun | 9 => 9 | 31 => 31 | 3 => 3 | 4 => 4 | 0 => 0 | 105 => 180 | 21 => 21 | 5 => 5 | 46 => 179 | 119 => 219 | 139 => 222 | 138 => 221 | 146 => 203 | 51 => 202 | n => n, fun | 1 => 0 | 3 => 1 | 4 => 2 | n => n⟩
theorem JiE : Go.Proofs.Lays.n146 Tryz.prog Yf := {
 mixed := by kernel_rfl
 f138 := Tryz.func50.trans (congrArg some (by kernel_rfl))
 f143 := Tryz.func99.trans (congrArg some (by kernel_rfl))
 f146 := Tryz.func92.trans (congrArg some (by kernel_rfl))
 f195 := Tryz.func97.trans (congrArg some (by kernel_rfl))
 f197 := Tryz.func224.trans (congrArg some (by kernel_rfl))
 f217 := Tryz.func208.trans (congrArg some (by kernel_rfl))
 f218 := Tryz.func98.trans (congrArg some (by kernel_rfl))
 f219 := Tryz.func176.trans (congrArg some (by kernel_rfl))
 f221 := Tryz.func171.trans (congrArg some (by kernel_rfl))
 f224 := Tryz.func234.trans (congrArg some (by kernel_rfl))
 f225 := Tryz.func233.trans (congrArg some (by kernel_rfl))
 f260 := Tryz.func257.trans (congrArg some (by kernel_rfl))
 f266 := Tryz.func249.trans (congrArg some (by kernel_rfl))
 f267 := Tryz.func235.trans (congrArg some (by kernel_rfl))
 f268 := Tryz.func225.trans (congrArg some (by kernel_rfl))
 f314 := Tryz.func261.trans (congrArg some (by kernel_rfl))
 t0 := Tryz.underlying0
 a0 := Tryz.isAgg0
 z0 := Tryz.sizeOf0
 v0 := Tryz.zeroValue0
 t3 := Tryz.underlying3
 a3 := Tryz.isAgg3
 z3 := Tryz.sizeOf3
 v3 := Tryz.zeroValue3
 t4 := Tryz.underlying4
 a4 := Tryz.isAgg4
 z4 := Tryz.sizeOf4
 v4 := Tryz.zeroValue4
 t5 := Tryz.underlying5
 a5 := Tryz.isAgg5
 z5 := Tryz.sizeOf5
 v5 := Tryz.zeroValue5
 t9 := Tryz.underlying9
 a9 := Tryz.isAgg9
 z9 := Tryz.sizeOf9
 v9 := Tryz.zeroValue9
 t21 := Tryz.underlying21
 a21 := Tryz.isAgg21
 z21 := Tryz.sizeOf21
 v21 := Tryz.zeroValue21
 t31 := Tryz.underlying31
 a31 := Tryz.isAgg31
 z31 := Tryz.sizeOf31
 v31 := Tryz.zeroValue31
 t46 := Tryz.underlying179
 a46 := Tryz.isAgg179
 z46 := Tryz.sizeOf179
 v46 := Tryz.zeroValue179
 t51 := Tryz.underlying202
 a51 := Tryz.isAgg202
 z51 := Tryz.sizeOf202
 v51 := Tryz.zeroValue202
 t105 := Tryz.underlying180
 a105 := Tryz.isAgg180
 z105 := Tryz.sizeOf180
 v105 := Tryz.zeroValue180
 t119 := Tryz.underlying219
 a119 := Tryz.isAgg219
 z119 := Tryz.sizeOf219
 t138 := Tryz.underlying221
 a138 := Tryz.isAgg221
 z138 := Tryz.sizeOf221
 v138 := Tryz.zeroValue221
 t139 := Tryz.underlying222
 a139 := Tryz.isAgg222
 z139 := Tryz.sizeOf222
 v139 := Tryz.zeroValue222
 t146 := Tryz.underlying203
 a146 := Tryz.isAgg203
 z146 := Tryz.sizeOf203
 v146 := Tryz.zeroValue203
 g1 := by kernel_rfl
 g3 := by kernel_rfl
 g4 := by kernel_rfl }
def Jcx : Go.Shelf.Ren := ⟨fun | 138 => 50 | 195 => 97 | 218 => 98 | 143 => 99 | 219 => 176 | 217 => 208 | 225 => 233 | 224 => 234 | 267 => 235 | 266 => 249 | 314 => 261 | n => n, fun | 9 => 9 | 3 => 3 | 4 => 4 | 5 => 5 | 0 => 0 | 46 => 179 | 146 => 203 | 51 => 202 | n => n, fun | 1 => 0 | n => n⟩
theorem JiZ : Go.Proofs.Lays.n138 Tryz.prog Jcx := {
 mixed := by kernel_rfl
 f138 := Tryz.func50.trans (congrArg some (by kernel_rfl))
 f143 := Tryz.func99.trans (congrArg some (by kernel_rfl))
 f195 := Tryz.func97.trans (congrArg some (by kernel_rfl))
 f217 := Tryz.func208.trans (congrArg some (by kernel_rfl))
 f218 := Tryz.func98.trans (congrArg some (by kernel_rfl))
 f219 := Tryz.func176.trans (congrArg some (by kernel_rfl))
 f224 := Tryz.func234.trans (congrArg some (by kernel_rfl))
 f225 := Tryz.func233.trans (congrArg some (by kernel_rfl))
 f266 := Tryz.func249.trans (congrArg some (by kernel_rfl))
 f267 := Tryz.func235.trans (congrArg some (by kernel_rfl))
 f314 := Tryz.func261.trans (congrArg some (by kernel_rfl))
 t0 := Tryz.underlying0
 a0 := Tryz.isAgg0
 z0 := Tryz.sizeOf0
 v0 := Tryz.zeroValue0
 t3 := Tryz.underlying3
 a3 := Tryz.isAgg3
 z3 := Tryz.sizeOf3
 v3 := Tryz.zeroValue3
 t4 := Tryz.underlying4
 a4 := Tryz.isAgg4
 z4 := Tryz.sizeOf4
 v4 := Tryz.zeroValue4
 t5 := Tryz.underlying5
 a5 := Tryz.isAgg5
 z5 := Tryz.sizeOf5
 v5 := Tryz.zeroValue5
 t9 := Tryz.underlying9
 a9 := Tryz.isAgg9
 z9 := Tryz.sizeOf9
 v9 := Tryz.zeroValue9
 t46 := Tryz.underlying179
 a46 := Tryz.isAgg179
 z46 := Tryz.sizeOf179
 v46 := Tryz.zeroValue179
 t51 := Tryz.underlying202
 a51 := Tryz.isAgg202
 z51 := Tryz.sizeOf202
 v51 := Tryz.zeroValue202
 t146 := Tryz.underlying203
 a146 := Tryz.isAgg203
 z146 := Tryz.sizeOf203
 v146 := Tryz.zeroValue203
 g1 := by kernel_rfl }
def Jeu : Go.Shelf.Ren := ⟨fun | 15 => 93 | 20 => 172 | n => n, fun | 9 => 9 | 23 => 106 | 3 => 3 | 4 => 4 | 0 => 0 | 21 => 21 | n => n, fun | n => n⟩
theorem JjO : Go.Proofs.LaysGw.n15 Tryz.prog Jeu := {
 mixed := by kernel_rfl
 f15 := Tryz.func93.trans (congrArg some (by kernel_rfl))
 f20 := Tryz.func172.trans (congrArg some (by kernel_rfl))
 t0 := Tryz.underlying0
 a0 := Tryz.isAgg0
 z0 := Tryz.sizeOf0
 v0 := Tryz.zeroValue0
 i0 := by kernel_rfl
 t3 := Tryz.underlying3
 a3 := Tryz.isAgg3
 z3 := Tryz.sizeOf3
 v3 := Tryz.zeroValue3
 i3 := by kernel_rfl
 t4 := Tryz.underlying4
 a4 := Tryz.isAgg4
 z4 := Tryz.sizeOf4
 v4 := Tryz.zeroValue4
 i4 := by kernel_rfl
 t9 := Tryz.underlying9
 a9 := Tryz.isAgg9
 z9 := Tryz.sizeOf9
 v9 := Tryz.zeroValue9
 i9 := by kernel_rfl
 t21 := Tryz.underlying21
 a21 := Tryz.isAgg21
 z21 := Tryz.sizeOf21
 v21 := Tryz.zeroValue21
 i21 := by kernel_rfl
 t23 := Tryz.underlying106
 a23 := Tryz.isAgg106
 z23 := Tryz.sizeOf106
 v23 := Tryz.zeroValue106
 i23 := by kernel_rfl }
open Go.RowKit Go.ChangeShapes Go.WideShapes Go.Deep
def SlOf {D : Type} (C : D -> List Value -> Prop) (size lo hi : Nat) (w : World) (l : List D) (v : Value) : Prop :=
 ∃ A c, v = .slice A l.length c /\ l.length <= c /\ c <= 9223372036854775807 /\ (0 < l.length -> ∃ b o, A = some ⟨b, o, none⟩ /\ lo <= b /\ b < hi /\
  ∀ i d, l[i]? = some d -> ∃ cs, cs.length = size /\ (∀ j, j < size -> w.cell? ⟨b, o + i * size + j, none⟩ = cs[j]?) /\ C d cs)
def Same (lo hi : Nat) (w w' : World) : Prop := ∀ b o, lo <= b -> b < hi -> w'.cell? ⟨b, o, none⟩ = w.cell? ⟨b, o, none⟩
theorem Same.refl (lo hi : Nat) (w : World) : Same lo hi w w := fun _ _ _ _ => rfl
theorem Same.trans {lo hi : Nat} {a b c : World} (h : Same lo hi a b) (k : Same lo hi b c) : Same lo hi a c := fun x o h1 h2 => (k x o h1 h2).trans (h x o h1 h2)
theorem VY {lo hi : Nat} {w w' : World} (h : Below hi w w') : Same lo hi w w' := fun b o _ h2 => h.cell (p := ⟨b, o, none⟩) h2
theorem JeB {lo hi B : Nat} {w w' : World} (h : Below B w w') (hB : hi <= B) : Same lo hi w w' := VY (h.mono hB)
theorem Jeg {lo hi : Nat} {a b : World} {p : Addr} {u : Value} (hp : p.block < lo) (h : Same lo hi a b) : Same lo hi a (b.setCell p u) :=
 h.trans (fun x o h1 h2 => World.cell?_of_block (Below.heap_setCell b p u x (by omega)))
theorem Jgn {lo hi : Nat} {a b : World} {o : Obj} (hb : hi <= b.heap.size) (h : Same lo hi a b) : Same lo hi a (b.alloc o) :=
 h.trans (fun x _ _ h2 => World.cell?_of_block (Below.heap_alloc b o x (by omega)))
theorem Jg2 {lo hi : Nat} {a b : World} (h : Same lo hi a b) (n : Nat) : Same lo hi a (b.drewN n) := h
theorem JiC {lo hi : Nat} {a b c : World} (k : Below b.heap.size b c) (hb : hi <= b.heap.size) (h : Same lo hi a b) : Same lo hi a c := h.trans (JeB k hb)
theorem SlOf.keep {D : Type} {C C' : D -> List Value -> Prop} {size lo hi lo' hi' : Nat} {w w' : World} {l : List D} {v : Value}
  (h : SlOf C size lo hi w l v) (hs : Same lo hi w w') (h1 : lo' <= lo) (h2 : hi <= hi') (hC : ∀ d cs, d ∈ l -> C d cs -> C' d cs) : SlOf C' size lo' hi' w' l v := by
 obtain ⟨A, c, hv, hlc, hc, hA⟩ := h;refine ⟨A, c, hv, hlc, hc, fun hp => ?_⟩;obtain ⟨b, o, hA, hb1, hb2, hcell⟩ := hA hp;refine ⟨b, o, hA, by omega, by omega, fun i d hi => ?_⟩;obtain ⟨cs, hl, hcs, hd⟩ := hcell i d hi;exact ⟨cs, hl, fun j hj => (hs b _ hb1 hb2).trans (hcs j hj), hC d cs (List.mem_of_getElem? hi) hd⟩
theorem SlOf.form {D : Type} {C : D -> List Value -> Prop} {size lo hi : Nat} {w : World} {l : List D} {v : Value} (h : SlOf C size lo hi w l v) : ∃ A c, v = .slice A l.length c := by
 obtain ⟨A, c, hv, _⟩ := h;exact ⟨A, c, hv⟩
theorem Jfy {D : Type} (n : Nat) (P : Nat -> D -> Prop) (h : ∀ i, i < n -> ∃ d, P i d) : ∃ l : List D, l.length = n /\ ∀ i d, l[i]? = some d -> P i d := by
 induction n with
 | zero => exact ⟨[], rfl, fun i d hi => by simp at hi⟩
 | succ n ih =>
  obtain ⟨l, hl, hP⟩ := ih (fun i hi => h i (by omega));obtain ⟨d, hd⟩ := h n (by omega);refine ⟨l ++ [d], by simp [hl], fun i x hi => ?_⟩;by_cases hlt : i < n
  ·rw [List.getElem?_append_left (by omega)] at hi
   exact hP i x hi
  by_cases he : i = n
  ·subst he
   rw [List.getElem?_append_right (by omega), hl] at hi;simp at hi;subst hi;exact hd
  rw [List.getElem?_eq_none (by simp; omega)] at hi;cases hi
section
variable {H : Type} {enc : TypeId × Value -> H} {P : Program} {w : World} {base : Nat} {spare : Nat -> Bool} {held : Bool}
theorem Jh5 {w : World} {a : Addr} {v : Value} (h : w.cell? a = some v) : a.spot = none := World.cell?_spot h
theorem Jfi {t e : TypeId} {fuel size : Nat} {cs : List Value} {x : DataW H × List MemPlace} {D : Type} (C : D -> List Value -> Prop) (ht : P.underlying t = some (.slice e)) (hsz : P.cellsOf e = size) (hpos : 0 < size)
  (h : DataW.trod enc P w base spare held fuel t cs = some x)
  (hC : ∀ n cs' y, DataW.trod enc P w base spare held n e cs' = some y -> ∃ d, C d cs') :
  ∃ v l, cs = [v] /\ SlOf C size 0 w.heap.size w l v := by
 rcases open_slice ht h with ⟨hcs, _⟩ | ⟨a, len, cap, m, n, D', Pl, hcs, _, hl, hm, hmm, _, hi⟩
 ·exact ⟨_, [], hcs, none, 0, rfl, by simp, by simp, fun h => by simp at h⟩
 have hlm : len <= m := by rw [hmm]; split <;> omega
 obtain ⟨l, hll, hP⟩ := Jfy len (fun i d => ∃ cs', w.cells? base (a.add (i * size)) size = some cs' /\ C d cs') (fun i hlt => by
  obtain ⟨cs', h1, h2⟩ := hi i (by omega);obtain ⟨d, hd⟩ := hC n cs' _ h2;rw [hsz] at h1
  exact ⟨d, cs', h1, hd⟩)
 refine ⟨_, l, hcs, some a, cap, by rw [hll], by omega, by unfold maxLen at hm; omega, fun hp => ?_⟩;have hget : ∀ i d, l[i]? = some d -> ∃ cs', w.cells? base (a.add (i * size)) size = some cs' /\ C d cs' := hP
 have hspot : a.spot = none := by
  obtain ⟨d0, h0⟩ : ∃ d, l[0]? = some d := ⟨l[0], List.getElem?_eq_getElem hp⟩
  obtain ⟨cs', h1, _⟩ := hget 0 d0 h0;obtain ⟨_, hlen, hat⟩ := World.cells?_some h1;have := hat (i := 0) (by omega);rw [Go.Deep.add_add] at this;have hh := Jh5 (this.trans (List.getElem?_eq_getElem (by omega)))
  simpa [Addr.add] using hh
 obtain ⟨b, o, s⟩ := a;simp at hspot;subst hspot
 have hblk : b < w.heap.size := by
  obtain ⟨d0, h0⟩ : ∃ d, l[0]? = some d := ⟨l[0], List.getElem?_eq_getElem hp⟩
  obtain ⟨cs', h1, _⟩ := hget 0 d0 h0;obtain ⟨_, hlen, hat⟩ := World.cells?_some h1;have := hat (i := 0) (by omega);have hh := block_lt_of_cell (this.trans (List.getElem?_eq_getElem (by omega)))
  simpa [Addr.add] using hh
 refine ⟨b, o, rfl, Nat.zero_le _, hblk, fun i d hid => ?_⟩;obtain ⟨cs', h1, hd⟩ := hget i d hid;obtain ⟨_, hlen, hat⟩ := World.cells?_some h1;refine ⟨cs', hlen, fun j hj => ?_, hd⟩;have := hat (i := j) (by omega);rw [Go.Deep.add_add] at this
 have e : (⟨b, o, none⟩ : Addr).add (i * size + j) = ⟨b, o + i * size + j, none⟩ := by
  rw [Nat.add_assoc];unfold Addr.add;split
  ·simp_all
  rfl
 rw [e] at this;exact this
def QA (n : Int) : Prop := -9223372036854775808 <= n /\ n <= 9223372036854775807
end
theorem QJ {w : World} {g : Nat} {cs : Array Value} {e : TypeId} (h : w.heap[g]? = some (.cells cs e (0, 0))) (o : Nat) : w.frozen? ⟨g, o, none⟩ = false := frozen_of_row w g o cs e h
theorem Ja {w : World} {g : Nat} {o : Obj} (h : w.heap[g]? = some o) : g < w.heap.size := (Array.getElem?_eq_some_iff.1 h).1
theorem Jce {P : Program} {t e : TypeId} {z : Value} {size bytes : Nat} (ht : P.underlying t = some (.slice e)) (hi : (P.info? e).map (fun i => (i.zero, i.size, i.bytes)) = some (some z, size, bytes)) (n : Nat) (hb : n * bytes <= 281474976710656) (hn : n <= 9223372036854775807) (w : World) :
  (Instr.makeSlice t (.int .i64 (n : Int)) (.int .i64 (n : Int))).run P w = .ok (.slice (some ⟨w.heap.size, 0, none⟩) n n) (w.alloc (.cells (madeCells z.cells (n * size)) e)) := by
 obtain ⟨i, h1, h2, h3, h4⟩ := info_parts hi;have := run_make (P := P) w t e i z ht h1 h2 .i64 .i64 n n (by omega) (by omega) (by rw [h4, Int.mul_comm, <- Int.natCast_mul]; omega) (by omega);rw [this, h3, Int.toNat_natCast]
def Jho (s : ByteArray) (cs : List Value) : Prop := cs = [.string s] /\ s.size <= 9223372036854775807
abbrev Sl_Str (lo hi : Nat) (w : World) (l : List ByteArray) (v : Value) : Prop := SlOf Jho 1 lo hi w l v
theorem Sl_Str.keep {lo hi lo' hi' : Nat} {w w' : World} {l : List ByteArray} {v : Value} (h : Sl_Str lo hi w l v) (hs : Same lo hi w w') (h1 : lo' <= lo) (h2 : hi <= hi') : Sl_Str lo' hi' w' l v := SlOf.keep h hs h1 h2 (fun _ _ _ h => h)
def QZ {D : Type} (f : D -> Nat) : List D -> Nat
 | [] => 0
 | d :: l => f d + QZ f l
theorem WO {D : Type} (f : D -> Nat) (a b : List D) : QZ f (a ++ b) = QZ f a + QZ f b := by
 induction a with
 | nil => simp [QZ]
 | cons x xs ih => simp [QZ, ih]; omega
theorem Ql {D : Type} (f : D -> Nat) (l : List D) (k : Nat) (d : D) (h : l[k]? = some d) : QZ f (l.take (k + 1)) = QZ f (l.take k) + f d := by
 have hl : k < l.length := (List.getElem?_eq_some_iff.1 h).1;rw [List.take_succ_eq_append_getElem hl, WO];have : l[k] = d := by rw [List.getElem?_eq_getElem hl] at h; exact Option.some.inj h
 simp [QZ, this]
theorem Yl {D : Type} (f : D -> Nat) (l : List D) (k : Nat) : QZ f (l.take k) <= QZ f l := by
 have := WO f (l.take k) (l.drop k); rw [List.take_append_drop] at this; omega
theorem Jg {D : Type} {l : List D} {k : Nat} (h : k < l.length) : ∃ d, l[k]? = some d := ⟨l[k], List.getElem?_eq_getElem h⟩
def nL {D : Type} (f : D -> Nat) (l : List D) : Nat := l.length + QZ f l
theorem Jcm {D : Type} (f : D -> Nat) (l : List D) : nL f l = l.length + QZ f l := rfl
structure TreeD where
 kind : Int
 flag : Bool
 num : Int
 text : ByteArray
 keys : List ByteArray
 kids : List TreeD
def C_Tree : Nat -> Nat -> Nat -> World -> TreeD -> List Value -> Prop
 | 0, _, _, _, _, _ => False
 | n + 1, lo, hi, w, d, cs => ∃ v4 v5, cs = [.int .i64 d.kind, .bool d.flag, .int .i64 d.num, .string d.text, v4, v5] /\ QA d.kind /\ QA d.num /\ d.text.size <= 9223372036854775807 /\ Sl_Str lo hi w d.keys v4 /\ SlOf (C_Tree n lo hi w) 6 lo hi w d.kids v5
abbrev JhY (n lo hi : Nat) (w : World) (l : List TreeD) (v : Value) : Prop := SlOf (C_Tree n lo hi w) 6 lo hi w l v
theorem C_Tree.out {n lo hi : Nat} {w : World} {d : TreeD} {cs : List Value} (h : C_Tree (n + 1) lo hi w d cs) : ∃ v4 v5, cs = [.int .i64 d.kind, .bool d.flag, .int .i64 d.num, .string d.text, v4, v5] /\ QA d.kind /\ QA d.num /\ d.text.size <= 9223372036854775807 /\ Sl_Str lo hi w d.keys v4 /\ JhY n lo hi w d.kids v5 := h
theorem C_Tree.into {n lo hi : Nat} {w : World} {d : TreeD} {cs : List Value} (h : ∃ v4 v5, cs = [.int .i64 d.kind, .bool d.flag, .int .i64 d.num, .string d.text, v4, v5] /\ QA d.kind /\ QA d.num /\ d.text.size <= 9223372036854775807 /\ Sl_Str lo hi w d.keys v4 /\ JhY n lo hi w d.kids v5) : C_Tree (n + 1) lo hi w d cs := h
theorem C_Tree.none {lo hi : Nat} {w : World} {d : TreeD} {cs : List Value} (h : C_Tree 0 lo hi w d cs) : False := h
theorem C_Tree.any {n lo hi : Nat} {w : World} {d : TreeD} {cs : List Value} (h : C_Tree n lo hi w d cs) : ∃ m, n = m + 1 := by
 cases n with
 | zero => exact h.none.elim
 | succ m => exact ⟨m, rfl⟩
theorem C_Tree.open {n lo hi : Nat} {w : World} {d : TreeD} {cs : List Value} (h : C_Tree n lo hi w d cs) : ∃ A4 c4 A5 c5, cs = [.int .i64 d.kind, .bool d.flag, .int .i64 d.num, .string d.text, .slice A4 d.keys.length c4, .slice A5 d.kids.length c5] := by
 obtain ⟨m, rfl⟩ := h.any;obtain ⟨v4, v5, rfl, a0, a2, a3, a4, a5⟩ := h.out;obtain ⟨A4, c4, rfl⟩ := a4.form;obtain ⟨A5, c5, rfl⟩ := a5.form;exact ⟨A4, c4, A5, c5, rfl⟩
theorem C_Tree.flat {n lo hi : Nat} {w : World} {d : TreeD} {cs : List Value} (h : C_Tree n lo hi w d cs) : ∃ A4 c4 A5 c5, cs = [.int .i64 d.kind, .bool d.flag, .int .i64 d.num, .string d.text, .slice A4 d.keys.length c4, .slice A5 d.kids.length c5] /\ QA d.kind /\ QA d.num /\ d.text.size <= 9223372036854775807 := by
 obtain ⟨m, rfl⟩ := h.any;obtain ⟨v4, v5, rfl, a0, a2, a3, a4, a5⟩ := h.out;obtain ⟨A4, c4, rfl⟩ := a4.form;obtain ⟨A5, c5, rfl⟩ := a5.form;exact ⟨A4, c4, A5, c5, rfl, a0, a2, a3⟩
theorem C_Tree.keep : ∀ {n lo hi lo' hi' : Nat} {w w' : World} {d : TreeD} {cs : List Value}, C_Tree n lo hi w d cs -> Same lo hi w w' -> lo' <= lo -> hi <= hi' -> C_Tree n lo' hi' w' d cs
 | 0, _, _, _, _, _, _, _, _, h, _, _, _ => h.none.elim
 | n + 1, _, _, _, _, _, _, _, _, h, hs, h1, h2 => by
  obtain ⟨v4, v5, rfl, a0, a2, a3, a4, a5⟩ := h.out;exact C_Tree.into ⟨v4, v5, rfl, a0, a2, a3, a4.keep hs h1 h2, SlOf.keep a5 hs h1 h2 (fun _ _ _ h => C_Tree.keep h hs h1 h2)⟩
theorem C_Tree.now {n lo : Nat} {w w' : World} {d : TreeD} {cs : List Value} (h : C_Tree n lo w.heap.size w d cs) (hb : Below w.heap.size w w') : C_Tree n lo w'.heap.size w' d cs := h.keep (VY hb) (Nat.le_refl _) hb.size
def QT : Nat -> TreeD -> Nat
 | 0, _ => 0
 | n + 1, d => d.text.size + nL ByteArray.size d.keys + nL (QT n) d.kids
theorem V0 (n : Nat) (d : TreeD) : QT (n + 1) d = d.text.size + nL ByteArray.size d.keys + nL (QT n) d.kids := rfl
section
variable {H : Type} {enc : TypeId × Value -> H} {w : World} {base : Nat} {spare : Nat -> Bool} {held : Bool}
variable {r : Reach} {b0 : Nat} {v : Value} {d : DataW H} {p : List MemPlace}
end
open Go.Lib
def JI (s : ByteArray) (i : Nat) : Int × Int :=
 if i < s.size then (if Utf8.decode s i = (65533, 1) then (0, -1) else (((Utf8.decode s i).1 : Int), ((i + (Utf8.decode s i).2 : Nat) : Int))) else (0, -1)
def Vr (n : Int) : Bool := decide (0 <= n) && decide (n <= 1114111) && !(decide (55296 <= n) && decide (n <= 57343))
def Jq (n : Int) : ByteArray := if Vr n then Utf8.encode n else ⟨#[]⟩
def Qk (b0 : Nat) : Nat := if 240 <= b0 then b0 - 240 else if 224 <= b0 then b0 - 224 else if 192 <= b0 then b0 - 192 else b0
def JO (b : Nat) : Bool := decide (128 <= b) && decide (b <= 191)
def JS (b0 b1 b2 b3 : Nat) : Nat -> Nat
 | 0 => Qk b0
 | 1 => Qk b0
 | 2 => 64 * Qk b0 + b1 - 128
 | 3 => 64 * (64 * Qk b0 + b1 - 128) + b2 - 128
 | _ => 64 * (64 * (64 * Qk b0 + b1 - 128) + b2 - 128) + b3 - 128
def J5 (n : Nat) : List Nat :=
 if 1114111 < n ∨ (55296 <= n /\ n <= 57343) then []
 else if n < 128 then [n] else if n < 2048 then [192 + n / 64, 128 + n % 64] else if n < 65536 then [224 + n / 4096, 128 + n / 64 % 64, 128 + n % 64]
 else [240 + n / 262144, 128 + n / 4096 % 64, 128 + n / 64 % 64, 128 + n % 64]
theorem Vm (n : Nat) : (Jq n).data.toList.map UInt8.toNat = J5 n := by
 unfold Jq Vr J5 Utf8.encode Utf8.valid;by_cases h1 : 1114111 < n ∨ (55296 <= n /\ n <= 57343)
 ·rw [if_pos h1, if_neg (by simp; omega)]
  rfl
 rw [if_neg h1, if_pos (by simp; omega)];have hv : ((decide (0 <= (n : Int)) && decide ((n : Int) < 55296)) || (decide (57344 <= (n : Int)) && decide ((n : Int) <= 1114111))) = true := by simp; omega
 simp only [hv, if_true, Int.toNat_natCast];by_cases h2 : n < 128
 ·rw [if_pos h2, if_pos h2]
  simp;omega
 rw [if_neg h2, if_neg h2];by_cases h3 : n < 2048
 ·rw [if_pos h3, if_pos h3]
  simp;omega
 rw [if_neg h3, if_neg h3];by_cases h4 : n < 65536
 ·rw [if_pos h4, if_pos h4]
  simp;omega
 rw [if_neg h4, if_neg h4];simp;omega
theorem YP (n b0 b1 b2 b3 : Nat) (hb : b0 < 192) : (J5 b0 = [b0] ↔ decodeN n b0 b1 b2 b3 ≠ (65533, 1)) /\ (J5 b0 = [b0] -> decodeN n b0 b1 b2 b3 = (b0, 1)) := by
 unfold J5 decodeN;by_cases h : b0 < 128
 ·rw [if_neg (by omega), if_pos h, if_pos h]
  refine ⟨⟨fun _ => ?_, fun _ => rfl⟩, fun _ => rfl⟩;intro h2;have := congrArg Prod.fst h2;simp at this;omega
 rw [if_neg (by omega), if_neg h, if_pos (by omega), if_neg h, if_neg (by omega), if_neg (by omega), if_neg (by omega)];simp
theorem YJ (n b0 b1 b2 b3 : Nat) (hb : 192 <= b0) (hb' : b0 < 224) (h1 : b1 < 256) : ((2 <= n /\ JO b1 = true /\ J5 (JS b0 b1 b2 b3 2) = [b0, b1]) ↔ decodeN n b0 b1 b2 b3 ≠ (65533, 1)) /\ (decodeN n b0 b1 b2 b3 ≠ (65533, 1) -> decodeN n b0 b1 b2 b3 = (JS b0 b1 b2 b3 2, 2)) := by
 have hp : Qk b0 = b0 - 192 := by unfold Qk; rw [if_neg (by omega), if_neg (by omega), if_pos hb]
 have hg : JS b0 b1 b2 b3 2 = 64 * (b0 - 192) + b1 - 128 := by show 64 * Qk b0 + b1 - 128 = _; rw [hp]
 rw [hg];unfold decodeN JO;rw [if_neg (by omega)];by_cases hc : 2 <= n /\ 128 <= b1 /\ b1 <= 191
 ·rw [if_pos (by omega)]
  have e : b0 % 32 * 64 + b1 % 64 = 64 * (b0 - 192) + b1 - 128 := by omega
  rw [e];by_cases h3 : 64 * (b0 - 192) + b1 - 128 ≥ 128
  ·rw [if_pos h3]
   refine ⟨⟨fun _ h => ?_, fun _ => ⟨hc.1, by simp; omega, ?_⟩⟩, fun _ => rfl⟩
   ·have := congrArg Prod.snd h
    simp at this
   unfold J5;rw [if_neg (by omega), if_neg (by omega), if_pos (by omega)];simp;omega
  rw [if_neg h3];refine ⟨⟨fun h => ?_, fun h => absurd rfl h⟩, fun h => absurd rfl h⟩;have h2 := h.2.2;unfold J5 at h2;rw [if_neg (by omega), if_pos (by omega)] at h2;simp at h2
 rw [if_neg (by omega), if_neg (by omega), if_neg (by omega)];refine ⟨⟨fun h => ?_, fun h => absurd rfl h⟩, fun h => absurd rfl h⟩;have := h.2.1;simp at this;omega
theorem YU (n b0 b1 b2 b3 : Nat) (hb : 224 <= b0) (hb' : b0 < 240) (h1 : b1 < 256) (h2 : b2 < 256) : ((3 <= n /\ JO b1 = true /\ JO b2 = true /\ J5 (JS b0 b1 b2 b3 3) = [b0, b1, b2]) ↔ decodeN n b0 b1 b2 b3 ≠ (65533, 1)) /\ (decodeN n b0 b1 b2 b3 ≠ (65533, 1) -> decodeN n b0 b1 b2 b3 = (JS b0 b1 b2 b3 3, 3)) := by
 have hp : Qk b0 = b0 - 224 := by unfold Qk; rw [if_neg (by omega), if_pos hb]
 have hg : JS b0 b1 b2 b3 3 = 64 * (64 * (b0 - 224) + b1 - 128) + b2 - 128 := by show 64 * (64 * Qk b0 + b1 - 128) + b2 - 128 = _; rw [hp]
 rw [hg];unfold decodeN JO;rw [if_neg (by omega), if_neg (by omega)];by_cases hc : 3 <= n /\ (128 <= b1 /\ b1 <= 191) /\ (128 <= b2 /\ b2 <= 191)
 ·rw [if_pos (by omega)]
  have e : b0 % 16 * 4096 + b1 % 64 * 64 + b2 % 64 = 64 * (64 * (b0 - 224) + b1 - 128) + b2 - 128 := by omega
  rw [e];obtain ⟨v, hv⟩ : ∃ v, v = 64 * (64 * (b0 - 224) + b1 - 128) + b2 - 128 := ⟨_, rfl⟩
  rw [<- hv];by_cases h3 : v ≥ 2048 /\ (v < 55296 ∨ (57344 <= v /\ v <= 1114111))
  ·rw [if_pos h3]
   refine ⟨⟨fun _ h => ?_, fun _ => ⟨hc.1, by simp; omega, by simp; omega, ?_⟩⟩, fun _ => rfl⟩
   ·have := congrArg Prod.snd h
    simp at this
   unfold J5;rw [if_neg (by omega), if_neg (by omega), if_neg (by omega), if_pos (by omega)];simp;omega
  rw [if_neg h3];refine ⟨⟨fun h => ?_, fun h => absurd rfl h⟩, fun h => absurd rfl h⟩;have h2 := h.2.2.2;unfold J5 at h2;by_cases h5 : 1114111 < v ∨ (55296 <= v /\ v <= 57343)
  ·rw [if_pos h5] at h2
   simp at h2
  rw [if_neg h5] at h2;by_cases h6 : v < 128
  ·rw [if_pos h6] at h2
   simp at h2
  rw [if_neg h6, if_pos (by omega)] at h2;simp at h2
 rw [if_neg (by omega), if_neg (by omega)];refine ⟨⟨fun h => ?_, fun h => absurd rfl h⟩, fun h => absurd rfl h⟩;have h3 := h.2.1;have h4 := h.2.2.1;simp at h3 h4;omega
theorem YK (n b0 b1 b2 b3 : Nat) (hb : 240 <= b0) (hb' : b0 < 256) (h1 : b1 < 256) (h2 : b2 < 256) (h3 : b3 < 256) : ((4 <= n /\ JO b1 = true /\ JO b2 = true /\ JO b3 = true /\ J5 (JS b0 b1 b2 b3 4) = [b0, b1, b2, b3]) ↔ decodeN n b0 b1 b2 b3 ≠ (65533, 1)) /\ (decodeN n b0 b1 b2 b3 ≠ (65533, 1) -> decodeN n b0 b1 b2 b3 = (JS b0 b1 b2 b3 4, 4)) := by
 have hp : Qk b0 = b0 - 240 := by unfold Qk; rw [if_pos hb]
 have hg : JS b0 b1 b2 b3 4 = 64 * (64 * (64 * (b0 - 240) + b1 - 128) + b2 - 128) + b3 - 128 := by show 64 * (64 * (64 * Qk b0 + b1 - 128) + b2 - 128) + b3 - 128 = _; rw [hp]
 rw [hg];unfold decodeN JO;rw [if_neg (by omega), if_neg (by omega), if_neg (by omega)];obtain ⟨v, hv⟩ : ∃ v, v = 64 * (64 * (64 * (b0 - 240) + b1 - 128) + b2 - 128) + b3 - 128 := ⟨_, rfl⟩
 rw [<- hv];by_cases hc : 4 <= n /\ (128 <= b1 /\ b1 <= 191) /\ (128 <= b2 /\ b2 <= 191) /\ (128 <= b3 /\ b3 <= 191)
 ·by_cases h8 : b0 < 248
  focus
   rw [if_pos (by omega)];have e : b0 % 8 * 262144 + b1 % 64 * 4096 + b2 % 64 * 64 + b3 % 64 = v := by omega
   rw [e];by_cases h3 : v ≥ 65536 /\ (v < 55296 ∨ (57344 <= v /\ v <= 1114111))
   ·rw [if_pos h3]
    refine ⟨⟨fun _ h => ?_, fun _ => ⟨hc.1, by simp; omega, by simp; omega, by simp; omega, ?_⟩⟩, fun _ => rfl⟩
    ·have := congrArg Prod.snd h
     simp at this
    unfold J5;rw [if_neg (by omega), if_neg (by omega), if_neg (by omega), if_neg (by omega)];simp;omega
   rw [if_neg h3]
  rotate_left
  focus
   rw [if_neg (by omega)]
  rotate_left
  all_goals
   refine ⟨⟨fun h => ?_, fun h => absurd rfl h⟩, fun h => absurd rfl h⟩;have h2 := h.2.2.2.2;have hl := congrArg List.length h2;unfold J5 at hl;repeat' split at hl
   all_goals first | (simp at hl; done) | omega
 rw [if_neg (by omega)];refine ⟨⟨fun h => ?_, fun h => absurd rfl h⟩, fun h => absurd rfl h⟩;have h3 := h.2.1;have h4 := h.2.2.1;have h5 := h.2.2.2.1;simp at h3 h4 h5;omega
def Zy (c : Int) : Bool := decide (48 <= c /\ c <= 57)
def Q6 (x a b : Int) : Bool := decide (a <= x /\ x <= b)
theorem Y8 (c : Int) (w : World) : Calls Tryz.prog 201 #[.int .u8 c] w fun e w' => e = .returned (.bool (Zy c)) /\ w = w' := by
 go_enter Tryz.func201, Tryz.ntmps201
 go_wp2_with fail
 all_goals
  go_ret
  refine ⟨JB ?_, rfl⟩;rw [Bool.eq_iff_iff];simp [Zy];try omega
theorem JW (x a b : Int) (w : World) : Calls Tryz.prog 63 #[.int .i64 x, .int .i64 a, .int .i64 b] w fun e w' => e = .returned (.bool (Q6 x a b)) /\ w = w' := by
 go_enter Tryz.func63, Tryz.ntmps63
 go_wp2_with fail
 all_goals
  go_ret
  refine ⟨JB ?_, rfl⟩;rw [Bool.eq_iff_iff];simp [Q6];try omega
theorem Jo (x a b : Int) (w : World) : Calls Tryz.prog 115 #[.int .i64 x, .int .i64 a, .int .i64 b] w fun e w' => e = .returned (.bool (Q6 x a b)) /\ w = w' := by
 go_enter Tryz.func115, Tryz.ntmps115
 go_wp2_with fail
 all_goals
  go_ret
  refine ⟨JB ?_, rfl⟩;rw [Bool.eq_iff_iff];simp [Q6];try omega
theorem Wv (s : ByteArray) (c : Int) (w : World) : (callFunc 249 #[.string s, .int .u8 c]).run Tryz.prog w = .ok (.value (.int .i64 (Lib.indexByte s.data.toList c.toNat.toUInt8))) w := by
 rw [run_callFunc_extern Tryz.func249 (by kernel_rfl) (by kernel_rfl) (by kernel_rfl) (e := Extern.BytealgIndexByte.indexByte) (by kernel_rfl), Lib.run_indexByteString];rfl
theorem XT {o : List UInt8} {c : UInt8} : Lib.indexByte o c < 0 ↔ o.contains c = false := by
 have h := Lib.contains_iff_indexByte o c;rw [h]; simp
theorem Xk (s : ByteArray) (c : UInt8) (w : World) : Calls Tryz.prog 208 #[.string s, .int .u8 c.toNat] w fun e w' => e = .returned (.int .i64 (Lib.indexByte s.data.toList c)) /\ w = w' := by
 have h := Wv s c.toNat;rw [show ((c.toNat : Int)).toNat.toUInt8 = c from by simp] at h;go_enter Tryz.func208, Tryz.ntmps208
 go_wp2
 go_ret
 exact ⟨rfl, rfl⟩
theorem QB (s : ByteArray) (c : UInt8) (w : World) : Calls Tryz.prog 130 #[.string s, .int .u8 c.toNat] w fun e w' => e = .returned (.int .i64 (Lib.indexByte s.data.toList c)) /\ w = w' := by
 go_enter Tryz.func130, Tryz.ntmps130
 go_wp2_with (go_at_call 208; refine (Xk _ _ _).mono ?_; rintro e w' ⟨rfl, rfl⟩)
 go_ret
 exact ⟨rfl, rfl⟩
open Go.RowKit Go.Lib
theorem Jcu (n : Int) (w : World) : Calls Tryz.prog 263 #[.int .i64 n] w fun e w' => e = .returned (.bool (Vr n)) /\ w = w' := by
 go_enter Tryz.func263, Tryz.ntmps263
 go_wp2_with (first | (go_at_call 63; refine (JW _ _ _ _).mono ?_; rintro e w' ⟨rfl, rfl⟩))
 all_goals
  go_ret
  refine ⟨JB ?_, rfl⟩;rw [Bool.eq_iff_iff];simp_all [Q6, Vr]
  try omega
theorem Yk (n : Int) (w : World) : Calls Tryz.prog 255 #[.int .i64 n] w fun e w' => e = .returned (.bool (Vr n)) /\ w = w' := by
 go_enter Tryz.func255, Tryz.ntmps255
 go_wp2_with (first | (go_at_call 115; refine (Jo _ _ _ _).mono ?_; rintro e w' ⟨rfl, rfl⟩))
 all_goals
  go_ret
  refine ⟨JB ?_, rfl⟩;rw [Bool.eq_iff_iff];simp_all [Q6, Vr]
  try omega
theorem JaG (n : Int) (w : World) (hn : -9223372036854775808 <= n /\ n <= 9223372036854775807) : Calls Tryz.prog 238 #[.int .i64 n] w fun e w' => e = .returned (.string (Jq n)) /\ w = w' := by
 rcases h : Vr n with _ | _
 focus
  have Hf := hid (show Jq n = ⟨#[]⟩ by unfold Jq; rw [h]; rfl)
 rotate_left
 focus
  have Hf := hid (show Jq n = Utf8.encode n by unfold Jq; rw [h]; rfl);have h2 : 0 <= n /\ n <= 1114111 := by unfold Vr at h; simp at h; omega
  have hw : IntKind.i32.wrap n = n := by rw [IntKind.wrap_i32]; omega
 rotate_left
 all_goals
  go_enter Tryz.func238, Tryz.ntmps238
  go_wp2_with (first | (go_at_call 263; refine (Jcu _ _).mono ?_; rintro e w' ⟨rfl, rfl⟩))
  go_ret
  exact ⟨by rw [Hf.out]; rfl, rfl⟩
theorem JbT (w : World) (bs : List UInt8) (n : Nat) (hn : bs.length = n) (cs : Array Value) (hc : cs = (bs.map fun b => Value.int .u8 (b.toNat : Int)).toArray) (B : Nat) (hB : B = w.heap.size) :
  (convert 28 9 (.slice (some ⟨B, 0, none⟩) n n)).run Tryz.prog (w.alloc (.cells cs 5)) = .ok (.string ⟨bs.toArray⟩) (w.alloc (.cells cs 5)) := by
 subst hn hc hB;refine run_convert_bytes_back (P := Tryz.prog) _ 28 9 5 ⟨w.heap.size, 0, none⟩ bs.length bs Tryz.underlying28 Tryz.underlying5 Tryz.underlying9 (fun i hi => ?_);have e2 : (⟨w.heap.size, 0, none⟩ : Addr).add i = ⟨w.heap.size, i, none⟩ := by unfold Addr.add; simp; intro h; omega
 rw [e2, cell_of_row _ _ _ _ _ _ (heap_alloc_new w _)];simp [hi]
theorem JfH (n : Nat) : Jq n = ⟨((J5 n).map UInt8.ofNat).toArray⟩ := by
 have h := congrArg (List.map UInt8.ofNat) (Vm n);rw [List.map_map] at h;have e : (UInt8.ofNat ∘ UInt8.toNat) = id := by funext x; simp
 rw [e, List.map_id] at h;rw [<- h]
theorem XN (w : World) (n k : Nat) (cs : Array Value) (hk : (J5 n).length = k) (hc : cs = ((J5 n).map fun b : Nat => Value.int .u8 (b : Int)).toArray) (hb : ∀ b ∈ J5 n, b < 256) :
  (convert 28 9 (.slice (some ⟨w.heap.size, 0, none⟩) k k)).run Tryz.prog (w.alloc (.cells cs 5)) = .ok (.string (Jq n)) (w.alloc (.cells cs 5)) := by
 rw [JfH];refine JbT w ((J5 n).map UInt8.ofNat) k (by rw [List.length_map, hk]) cs ?_ _ rfl;rw [hc, List.map_map];congr 1
 apply List.map_congr_left;intro b hb';have := hb b hb';simp [UInt8.toNat_ofNat', Nat.mod_eq_of_lt this]
theorem Qn (n : Int) (w : World) (hn : -9223372036854775808 <= n /\ n <= 9223372036854775807) : Calls Tryz.prog 220 #[.int .i64 n] w fun e w' => e = .returned (.string (Jq n)) /\ Below w.heap.size w w' := by
 rcases h : Vr n with _ | _
 ·have Hf := hid (show Jq n = ⟨#[]⟩ by unfold Jq; rw [h]; rfl)
  go_enter Tryz.func220, Tryz.ntmps220
  go_wp2_with (first | (go_at_call 255; refine (Yk _ _).mono ?_; rintro e w' ⟨rfl, rfl⟩))
  go_ret
  exact ⟨by rw [Hf.out]; rfl, Jj⟩
 have Hf := hid (show Jq n = Utf8.encode n by unfold Jq; rw [h]; rfl);have h2 : 0 <= n /\ n <= 1114111 /\ (n < 55296 ∨ 57343 < n) := by unfold Vr at h; simp at h; omega
 obtain ⟨m, rfl⟩ : ∃ m : Nat, n = m := ⟨n.toNat, by omega⟩
 have hne : ¬ (1114111 < m ∨ (55296 <= m /\ m <= 57343)) := by omega
 have hmx : (m : Int) <= 1114111 := by omega
 clear hn h2 Hf;by_cases h3 : (m : Int) < 128
 ·have he : J5 m = [m] := by unfold J5; rw [if_neg hne, if_pos (by omega)]
  have ht := XN w m 1 #[.int .u8 (m : Int)] (by rw [he]; rfl) (by rw [he]; rfl) (by rw [he]; intro b hb; simp at hb; omega);go_enter Tryz.func220, Tryz.ntmps220
  go_wp2_with (first | (go_at_call 255; refine (Yk _ _).mono ?_; rintro e w' ⟨rfl, rfl⟩))
  go_ret
  exact ⟨rfl, Jj⟩
 by_cases h4 : (m : Int) < 2048
 ·have he : J5 m = [192 + m / 64, 128 + m % 64] := by unfold J5; rw [if_neg hne, if_neg (by omega), if_pos (by omega)]
  have ht := XN w m 2 #[.int .u8 (192 + (m : Int) / 64), .int .u8 (128 + (m : Int) % 64)] (by rw [he]; rfl) (by rw [he]; rfl) (by rw [he]; intro b hb; simp at hb; omega);go_enter Tryz.func220, Tryz.ntmps220
  go_wp2_with (first | (go_at_call 255; refine (Yk _ _).mono ?_; rintro e w' ⟨rfl, rfl⟩))
  go_ret
  exact ⟨rfl, Jj⟩
 by_cases h5 : (m : Int) < 65536
 focus
  have he : J5 m = [224 + m / 4096, 128 + m / 64 % 64, 128 + m % 64] := by unfold J5; rw [if_neg hne, if_neg (by omega), if_neg (by omega), if_pos (by omega)]
  have ht := XN w m 3 #[.int .u8 (224 + (m : Int) / 4096), .int .u8 (128 + (m : Int) / 64 % 64), .int .u8 (128 + (m : Int) % 64)] (by rw [he]; rfl) (by rw [he]; rfl) (by rw [he]; intro b hb; simp at hb; omega);have b3 : decide ((m : Int) < 128) = false := JmF h3;have b4 : decide ((m : Int) < 2048) = false := JmF h4;clear h3 h4 he hne
 rotate_left
 focus
  have he : J5 m = [240 + m / 262144, 128 + m / 4096 % 64, 128 + m / 64 % 64, 128 + m % 64] := by unfold J5; rw [if_neg hne, if_neg (by omega), if_neg (by omega), if_neg (by omega)]
  have ht := XN w m 4 #[.int .u8 (240 + (m : Int) / 262144), .int .u8 (128 + (m : Int) / 4096 % 64), .int .u8 (128 + (m : Int) / 64 % 64), .int .u8 (128 + (m : Int) % 64)] (by rw [he]; rfl) (by rw [he]; rfl) (by rw [he]; intro b hb; simp at hb; omega);have b3 : decide ((m : Int) < 128) = false := JmF h3;have b4 : decide ((m : Int) < 2048) = false := JmF h4;have b5 : decide ((m : Int) < 65536) = false := JmF h5
  clear h3 h4 h5 he hne
 rotate_left
 all_goals
  go_enter Tryz.func220, Tryz.ntmps220
  go_wp2_with (first | (go_at_call 255; refine (Yk _ _).mono ?_; rintro e w' ⟨rfl, rfl⟩))
  go_ret
  exact ⟨rfl, Jj⟩
def Zi : Go.Shelf.Ren := ⟨fun | 197 => 224 | 260 => 257 | n => n, fun | 9 => 9 | 21 => 21 | 3 => 3 | 4 => 4 | 5 => 5 | 105 => 180 | 119 => 219 | 0 => 0 | 46 => 179 | 139 => 222 | 138 => 221 | n => n, fun | 3 => 1 | 4 => 2 | n => n⟩
theorem JhE : Go.Proofs.Lays.n197 Tryz.prog Zi := {
 mixed := by kernel_rfl
 f197 := Tryz.func224.trans (congrArg some (by kernel_rfl))
 f260 := Tryz.func257.trans (congrArg some (by kernel_rfl))
 t0 := Tryz.underlying0
 a0 := Tryz.isAgg0
 z0 := Tryz.sizeOf0
 v0 := Tryz.zeroValue0
 t3 := Tryz.underlying3
 a3 := Tryz.isAgg3
 z3 := Tryz.sizeOf3
 v3 := Tryz.zeroValue3
 t4 := Tryz.underlying4
 a4 := Tryz.isAgg4
 z4 := Tryz.sizeOf4
 v4 := Tryz.zeroValue4
 t5 := Tryz.underlying5
 a5 := Tryz.isAgg5
 z5 := Tryz.sizeOf5
 v5 := Tryz.zeroValue5
 t9 := Tryz.underlying9
 a9 := Tryz.isAgg9
 z9 := Tryz.sizeOf9
 v9 := Tryz.zeroValue9
 t21 := Tryz.underlying21
 a21 := Tryz.isAgg21
 z21 := Tryz.sizeOf21
 v21 := Tryz.zeroValue21
 t46 := Tryz.underlying179
 a46 := Tryz.isAgg179
 z46 := Tryz.sizeOf179
 v46 := Tryz.zeroValue179
 t105 := Tryz.underlying180
 a105 := Tryz.isAgg180
 z105 := Tryz.sizeOf180
 v105 := Tryz.zeroValue180
 t119 := Tryz.underlying219
 a119 := Tryz.isAgg219
 z119 := Tryz.sizeOf219
 t138 := Tryz.underlying221
 a138 := Tryz.isAgg221
 z138 := Tryz.sizeOf221
 v138 := Tryz.zeroValue221
 t139 := Tryz.underlying222
 a139 := Tryz.isAgg222
 z139 := Tryz.sizeOf222
 v139 := Tryz.zeroValue222
 g3 := by kernel_rfl
 g4 := by kernel_rfl }
def JfG : Go.Shelf.Ren := ⟨fun | 196 => 256 | 259 => 277 | n => n, fun | 9 => 9 | 4 => 4 | 3 => 3 | 5 => 5 | 12 => 12 | 119 => 219 | 0 => 0 | 46 => 179 | 139 => 222 | 138 => 221 | 53 => 213 | n => n, fun | 3 => 1 | 4 => 2 | n => n⟩
theorem JkS : Go.Proofs.Lays.n196 Tryz.prog JfG := {
 mixed := by kernel_rfl
 f196 := Tryz.func256.trans (congrArg some (by kernel_rfl))
 f259 := Tryz.func277.trans (congrArg some (by kernel_rfl))
 t0 := Tryz.underlying0
 a0 := Tryz.isAgg0
 z0 := Tryz.sizeOf0
 v0 := Tryz.zeroValue0
 t3 := Tryz.underlying3
 a3 := Tryz.isAgg3
 z3 := Tryz.sizeOf3
 v3 := Tryz.zeroValue3
 t4 := Tryz.underlying4
 a4 := Tryz.isAgg4
 z4 := Tryz.sizeOf4
 v4 := Tryz.zeroValue4
 t5 := Tryz.underlying5
 a5 := Tryz.isAgg5
 z5 := Tryz.sizeOf5
 v5 := Tryz.zeroValue5
 t9 := Tryz.underlying9
 a9 := Tryz.isAgg9
 z9 := Tryz.sizeOf9
 v9 := Tryz.zeroValue9
 t12 := Tryz.underlying12
 a12 := Tryz.isAgg12
 z12 := Tryz.sizeOf12
 v12 := Tryz.zeroValue12
 t46 := Tryz.underlying179
 a46 := Tryz.isAgg179
 z46 := Tryz.sizeOf179
 v46 := Tryz.zeroValue179
 t53 := Tryz.underlying213
 a53 := Tryz.isAgg213
 z53 := Tryz.sizeOf213
 v53 := Tryz.zeroValue213
 t119 := Tryz.underlying219
 a119 := Tryz.isAgg219
 z119 := Tryz.sizeOf219
 t138 := Tryz.underlying221
 a138 := Tryz.isAgg221
 z138 := Tryz.sizeOf221
 v138 := Tryz.zeroValue221
 t139 := Tryz.underlying222
 a139 := Tryz.isAgg222
 z139 := Tryz.sizeOf222
 v139 := Tryz.zeroValue222
 g3 := by kernel_rfl
 g4 := by kernel_rfl }
def Vu (ops : Array Oper) (j : Nat) : Option Tmp := (ops[j]?).bind (·.dst)
def Jks : Op -> Bool
 | .select .. => true
 | _ => false
def JdH (ops : Array Oper) (m : Nat) : Bool :=
 decide (m <= ops.size) && (List.range ops.size).all fun i => match ops[i]? with
  | none => false
  | some o => o.after.all (fun e => !Region.binds .any e || decide (e.on < i)) &&
   (if i < m then
    !Jks o.op &&
    (match o.dst with | none => false | some d => (List.range m).all fun j => j == i || Vu ops j != some d) &&
    (o.looksAt ops).all (fun t => (List.range m).all fun j => Vu ops j != some t || o.after.any (fun e => Region.binds .any e && e.on == j))
   else (List.range i).all fun j => o.after.any (fun e => Region.binds .any e && e.on == j))
def Jgi (A : Act) (w : World) : Exit -> Act -> World -> Prop := fun e a' w' => e = .normal /\ a' = A /\ Below w.heap.size w w'
def UQ (P : Program) (ops : Array Oper) (w : World) (T : Act -> Prop) : List Oper -> Act -> Prop
 | [], A => T A
 | o :: rest, A => ∃ c, (∀ w', Below w.heap.size w w' -> wpList P ops (Jgi (A.put o.dst c) w') [o] A w') /\ UQ P ops w T rest (A.put o.dst c)
def VX (A : Act) : List Oper -> List Value -> Act
 | o :: l, c :: cs => VX (A.put o.dst c) l cs
 | _, _ => A
theorem Jeq (A : Act) (d : Option Tmp) (c : Value) : (A.put d c).tmps.size = A.tmps.size /\ (A.put d c).defers = A.defers := by
 cases d <;> simp [Act.put]
theorem Jam : ∀ (l : List Oper) (cs : List Value) (A : Act), (VX A l cs).tmps.size = A.tmps.size /\ (VX A l cs).defers = A.defers
 | [], _, A => ⟨rfl, rfl⟩
 | _ :: _, [], A => ⟨rfl, rfl⟩
 | o :: l, c :: cs, A => by
  have h := Jam l cs (A.put o.dst c);have h2 := Jeq A o.dst c;exact ⟨h.1.trans h2.1, h.2.trans h2.2⟩
theorem WN {a : Act} {d : Tmp} {v : Value} {t : Tmp} : (a.put (some d) v).tmps[t]? = if d = t then (if d < a.tmps.size then some v else none) else a.tmps[t]? := by
 simp only [Act.put];rw [Array.getElem?_setIfInBounds]
theorem Jk9 {a : Act} {d : Option Tmp} {v : Value} {t : Tmp} (h : d ≠ some t) : (a.put d v).tmps[t]? = a.tmps[t]? := by
 cases d with
 | none => rfl
 | some d =>
  rw [WN, if_neg (fun e => h (by rw [e]))]
theorem Z6 : ∀ (l : List Oper) (cs : List Value) (A : Act) (t : Tmp), (∀ o ∈ l, o.dst ≠ some t) -> (VX A l cs).tmps[t]? = A.tmps[t]?
 | [], _, A, t, _ => rfl
 | _ :: _, [], A, t, _ => rfl
 | o :: l, c :: cs, A, t, h => by
  rw [VX, Z6 l cs _ t (fun o' ho' => h o' (List.mem_cons_of_mem _ ho')), Jk9 (h o (List.mem_cons_self ..))]
theorem Wq : ∀ (l : List Oper) (cs : List Value) (A : Act) (j : Nat) (o : Oper) (d : Tmp), cs.length = l.length -> l[j]? = some o -> o.dst = some d -> (∀ k o', k ≠ j -> l[k]? = some o' -> o'.dst ≠ some d) ->
  (VX A l cs).tmps[d]? = if d < A.tmps.size then cs[j]? else none
 | [], _, A, j, o, d, _, h, _, _ => by simp at h
 | x :: l, [], A, j, o, d, h, _, _, _ => by simp at h
 | x :: l, c :: cs, A, 0, o, d, hl, h, hd, hu => by
  simp at h;subst h
  rw [VX, Z6 l cs _ d (fun o' ho' => by
   obtain ⟨k, hk⟩ := List.mem_iff_getElem?.1 ho'
   exact hu (k + 1) o' (by omega) (by simpa using hk)), hd, WN, if_pos rfl]
  rfl
 | x :: l, c :: cs, A, j + 1, o, d, hl, h, hd, hu => by
  rw [VX, Wq l cs _ j o d (by simpa using hl) (by simpa using h) hd (fun k o' hk ho' => hu (k + 1) o' (by omega) (by simpa using ho')), (Jeq A x.dst c).1];rfl
theorem Jk8 {a b : Act} (h1 : ∀ t : Nat, a.tmps[t]? = b.tmps[t]?) (h2 : a.defers = b.defers) : a = b := by
 cases a; cases b
 simp at h1 h2;subst h2;congr
 exact Array.ext_getElem?  h1
section
variable {P : Program} {ops : Array Oper} {Q : Exit -> Act -> World -> Prop}
theorem Jcc {A : Act} {w : World} : ¬ LetsOut (Jgi A w) := fun ⟨_, _, h⟩ => by cases h.1
theorem JkG {o : Oper} {A B a' : Act} {w' : World} {K : Act -> World -> Prop} {r : Result Next} (hd : B.defers = A.defers)
  (h : o.upon P A (wpList P ops (Jgi B w') []) (Jgi B w') r) (hK : ∀ v w'', A.put o.dst v = B -> Below w'.heap.size w' w'' -> K (a'.put o.dst v) w'') : o.upon P a' K Q r := by
 cases r with
 | ok n w1 =>
  cases n with
  | value v => exact hK v w1 h.2.1 h.2.2
  | skip => exact hK undef w1 h.2.1 h.2.2
  | defer d =>
   have h2 := congrArg Act.defers h.2.1;rw [hd, (Jeq _ _ _).2] at h2;simp at h2
  | enter f args =>
   refine Calls.mono h ?_;intro e w2 he;cases e with
   | returned v => exact hK v w2 he.2.1 he.2.2
   | panicked c => cases he.1
   | outgrown => exact absurd he Jcc
  | row row args =>
   exact Rows.mono h (fun v w2 he => hK v w2 he.2.1 he.2.2)
  | _ => exact h.elim
 | halt x w1 =>
  cases x with
  | panic v => cases h.1
  | _ => exact h.elim
theorem Zb {m i : Nat} {o : Oper} (h : JdH ops m = true) (ho : ops[i]? = some o) :
  (∀ e ∈ o.after, Region.binds .any e = true -> e.on < i) /\
  (i < m -> (∀ cs b, o.op ≠ .select cs b) /\ (∃ d, o.dst = some d /\ ∀ j, j < m -> j ≠ i -> Vu ops j ≠ some d) /\ (∀ t ∈ o.looksAt ops, ∀ j, j < m -> Vu ops j = some t -> ∃ e ∈ o.after, Region.binds .any e = true /\ e.on = j)) /\
  (m <= i -> ∀ j, j < i -> ∃ e ∈ o.after, Region.binds .any e = true /\ e.on = j) := by
 have hi : i < ops.size := (Array.getElem?_eq_some_iff.1 ho).1;unfold JdH at h;rw [Bool.and_eq_true, List.all_eq_true] at h;have h := h.2 i (List.mem_range.2 hi);simp only [ho, Bool.and_eq_true] at h;obtain ⟨h1, h2⟩ := h;refine ⟨fun e he hb => ?_, fun hlt => ?_, fun hge j hj => ?_⟩
 ·have := Array.all_eq_true_iff_forall_mem.1 h1 e he
  simpa [hb] using this
 focus
  rw [if_pos hlt] at h2;simp only [Bool.and_eq_true] at h2;obtain ⟨⟨hs, hd⟩, hl⟩ := h2;refine ⟨(fun cs b he => by rw [he] at hs; cases hs), ?_, fun t ht j hj hdj => ?_⟩
  ·cases hdst : o.dst with
   | none => rw [hdst] at hd; cases hd
   | some d =>
    rw [hdst] at hd;refine ⟨d, rfl, fun j hj hne he => ?_⟩;have := List.all_eq_true.1 hd j (List.mem_range.2 hj);simp [hne, he] at this
  have := List.all_eq_true.1 (List.all_eq_true.1 hl t ht) j (List.mem_range.2 hj);simp only [hdj, bne_self_eq_false, Bool.false_or] at this
 rotate_left
 focus
  rw [if_neg (by omega)] at h2;have := List.all_eq_true.1 h2 j (List.mem_range.2 hj)
 rotate_left
 all_goals
  obtain ⟨e, he, hh⟩ := Array.any_eq_true'.1 this;simp only [Bool.and_eq_true, beq_iff_eq] at hh;exact ⟨e, he, hh.1, hh.2⟩
theorem YY {listed : Array Bool} {i j : Nat} : (listed.setIfInBounds i true).getD j true = if i = j then true else listed.getD j true := by
 by_cases h : i = j
 ·subst h
  rw [if_pos rfl];by_cases hs : i < listed.size
  ·simp [hs]
  simp [hs]
 rw [if_neg h, getD_set_ne _ h]
theorem XD {listed : Array Bool} {j : Nat} (h : j < listed.size) : listed.getD j false = listed.getD j true := by simp [h]
theorem Jj7 {m : Nat} (hchk : JdH ops m = true) : ∀ (fuel k : Nat) (listed : Array Bool) (a : Act) (w : World), m <= k -> k <= ops.size -> listed.size = ops.size -> (∀ j, j < ops.size -> listed.getD j true = decide (j < k)) -> ops.size - k <= fuel ->
  wpList P ops Q (ops.toList.drop k) a w -> wpAny P .any ops Q fuel listed a w := by
 intro fuel;induction fuel with
 | zero =>
  intro k listed a w _ hk hs hl hf h;have hkn : k = ops.size := by omega
  subst hkn;rw [List.drop_of_length_le (by simp)] at h;refine ⟨?_, h⟩;rw [List.eq_nil_iff_forall_not_mem];intro j hj;obtain ⟨h0, o, ho, _⟩ := mem_ready.1 hj;have hjn : j < ops.size := (Array.getElem?_eq_some_iff.1 ho).1;rw [hl j hjn] at h0;simp at h0;omega
 | succ fuel ih =>
  intro k listed a w hm hk hs hl hf h;by_cases hkn : k = ops.size
  ·subst hkn
   rw [List.drop_of_length_le (by simp)] at h;refine ⟨fun _ => h, fun j hj => ?_⟩;obtain ⟨h0, o, ho, _⟩ := mem_ready.1 hj;have hjn : j < ops.size := (Array.getElem?_eq_some_iff.1 ho).1;rw [hl j hjn] at h0;simp at h0;omega
  have hlt : k < ops.size := by omega
  have hok : ops[k]? = some ops[k] := Array.getElem?_eq_getElem hlt
  have hready : k ∈ Region.ready .any ops listed := by
   refine mem_ready.2 ⟨by rw [hl k hlt]; simp, _, hok, fun e he hb => ?_⟩;have hon := (Zb hchk hok).1 e he hb;rw [XD (by omega), hl _ (by omega)]
   simpa using hon
  refine ⟨(fun hn => by rw [hn] at hready; cases hready), fun i hi => ?_⟩;obtain ⟨h0, o, ho, hall⟩ := mem_ready.1 hi;have hin : i < ops.size := (Array.getElem?_eq_some_iff.1 ho).1
  have hik : i = k := by
   rw [hl i hin] at h0;simp at h0;by_cases he : i = k
   ·exact he
   exfalso
   obtain ⟨e, he1, he2, he3⟩ := (Zb hchk ho).2.2 (by omega) k (by omega);have := hall e he1 he2;rw [he3, XD (by omega), hl k hlt] at this;simp at this
  subst hik
  have hdrop : ops.toList.drop i = ops[i] :: ops.toList.drop (i + 1) := by
   rw [List.drop_eq_getElem_cons (by simpa using hlt)];simp
  rw [hdrop] at h;have hoi : o = ops[i] := by rw [hok] at ho; exact (Option.some.inj ho).symm
  have next : ∀ a' w', wpList P ops Q (ops.toList.drop (i + 1)) a' w' -> wpAny P .any ops Q fuel (listed.setIfInBounds i true) a' w' := fun a' w' h' =>
   ih (i + 1) _ a' w' (by omega) (by omega) (by simpa using hs) (fun j hj => by
    rw [YY, hl j hj];by_cases hij : i = j
    ·subst hij; simp
    rw [if_neg hij, Bool.eq_iff_iff]; simp; omega) (by omega) h'
  unfold wpOp;rw [hok];simp only;unfold wpList at h;split
  ·rename_i hw
   rw [if_pos hw] at h;exact h.imp (Oper.wp_mono next) id
  rename_i hw
  rw [if_neg hw] at h;exact next _ _ h
structure DetInv (ops : Array Oper) (m : Nat) (a A : Act) (w0 : World) (listed : Array Bool) (a' : Act) (w' : World) : Prop where
 tail : ∀ j, m <= j -> j < ops.size -> listed.getD j true = false
 below : Below w0.heap.size w0 w'
 done : ∀ j d, j < m -> listed.getD j true = true -> Vu ops j = some d -> a'.tmps[d]? = A.tmps[d]?
 free : ∀ t : Nat, (∀ j, j < m -> listed.getD j true = true -> Vu ops j ≠ some t) -> a'.tmps[t]? = a.tmps[t]?
 sz : a'.tmps.size = a.tmps.size
 ls : listed.size = ops.size
 df : a'.defers = a.defers
def JjH (m : Nat) (listed : Array Bool) : Nat := (List.range m).countP fun j => !listed.getD j true
theorem Jdv {p q : Nat -> Bool} : ∀ {l : List Nat}, (∀ x, p x = true -> q x = true) -> ∀ {i : Nat}, i ∈ l -> p i = false -> q i = true -> l.countP p < l.countP q
 | [], _, i, hi, _, _ => by cases hi
 | x :: l, hpq, i, hi, h1, h2 => by
  have hle : l.countP p <= l.countP q := List.countP_mono_left (fun x _ => hpq x);rw [List.countP_cons, List.countP_cons];rcases List.mem_cons.1 hi with rfl | hi'
  ·simp [h1, h2]; omega
  have := Jdv hpq hi' h1 h2;have hx := hpq x;cases hp : p x <;> cases hq : q x <;> simp_all <;> omega
theorem Jhe {m : Nat} {a A : Act} {w0 : World} (hchk : JdH ops m = true) (hm : m <= ops.size) (hsz : A.tmps.size = a.tmps.size) (hdf : A.defers = a.defers)
  (hfar : ∀ t : Nat, (∀ j, j < m -> Vu ops j ≠ some t) -> A.tmps[t]? = a.tmps[t]?)
  (htail : ∀ w', Below w0.heap.size w0 w' -> wpList P ops Q (ops.toList.drop m) A w')
  (fuel : Nat) (listed : Array Bool) (a' : Act) (w' : World) (hI : DetInv ops m a A w0 listed a' w') (hall : ∀ j, j < m -> listed.getD j true = true) (hf : ops.size - m <= fuel) : wpAny P .any ops Q fuel listed a' w' := by
 have hA : a' = A := by
  refine Jk8 (fun t => ?_) (by rw [hI.df, hdf]);by_cases h : ∃ j, j < m /\ Vu ops j = some t
  ·obtain ⟨j, hj, hd⟩ := h
   exact hI.done j t hj (hall j hj) hd
  have hn : ∀ j, j < m -> Vu ops j ≠ some t := fun j hj hd => h ⟨j, hj, hd⟩
  rw [hfar t hn, hI.free t (fun j hj _ => hn j hj)]
 subst hA;refine Jj7 hchk fuel m listed a' w' (Nat.le_refl _) hm hI.ls (fun j hj => ?_) hf (htail w' hI.below);by_cases hjm : j < m
 ·rw [hall j hjm]; simp [hjm]
 rw [hI.tail j (by omega) hj]; simp [hjm]
theorem JkI {m : Nat} {a A : Act} {w0 : World} (hchk : JdH ops m = true) (hm : m <= ops.size) (hsz : A.tmps.size = a.tmps.size) (hdf : A.defers = a.defers)
  (hfar : ∀ t : Nat, (∀ j, j < m -> Vu ops j ≠ some t) -> A.tmps[t]? = a.tmps[t]?)
  (hob : ∀ (i : Nat) (o : Oper), i < m -> ops[i]? = some o -> ∃ (B : Act) (c : Value), B.tmps.size = a.tmps.size /\ B.defers = a.defers /\ (∀ t ∈ o.looksAt ops, B.tmps[t]? = A.tmps[t]?) /\ (∀ d : Tmp, o.dst = some d -> (B.put o.dst c).tmps[d]? = A.tmps[d]?) /\
   ∀ w', Below w0.heap.size w0 w' -> wpList P ops (Jgi (B.put o.dst c) w') [o] B w')
  (htail : ∀ w', Below w0.heap.size w0 w' -> wpList P ops Q (ops.toList.drop m) A w') :
  ∀ (fuel : Nat) (listed : Array Bool) (a' : Act) (w' : World), DetInv ops m a A w0 listed a' w' -> JjH m listed + (ops.size - m) <= fuel -> wpAny P .any ops Q fuel listed a' w' := by
 intro fuel;induction fuel with
 | zero =>
  intro listed a' w' hI hf
  exact Jhe hchk hm hsz hdf hfar htail 0 listed a' w' hI (fun j hj => by
   by_cases hl : listed.getD j true = true
   ·exact hl
   exfalso
   have : 0 < JjH m listed := List.countP_pos_iff.2 ⟨j, List.mem_range.2 hj, by simpa using hl⟩
   omega) (by omega)
 | succ fuel ih =>
  intro listed a' w' hI hf;by_cases hall : ∀ j, j < m -> listed.getD j true = true
  ·exact Jhe hchk hm hsz hdf hfar htail _ listed a' w' hI hall (by omega)
  obtain ⟨j0, hj0, hj1⟩ : ∃ j, j < m /\ listed.getD j true = false := by
   rcases Classical.not_forall.1 hall with ⟨j, hj⟩
   rcases Classical.not_imp.1 hj with ⟨hj, hl⟩
   exact ⟨j, hj, by simpa using hl⟩
  have hfind : ∀ (b j : Nat), j <= b -> j < m -> listed.getD j true = false -> ∃ i, i ∈ Region.ready .any ops listed := by
   intro b;induction b using Nat.strongRecOn with
   | _ b ihb =>
    intro j hjb hjm hjf;have hjn : j < ops.size := by omega
    have hok : ops[j]? = some ops[j] := Array.getElem?_eq_getElem hjn;by_cases hr : ∀ e ∈ ops[j].after, Region.binds .any e = true -> listed.getD e.on false = true
    ·exact ⟨j, mem_ready.2 ⟨hjf, _, hok, hr⟩⟩
    rcases Classical.not_forall.1 hr with ⟨e, he⟩
    rcases Classical.not_imp.1 he with ⟨he, he2⟩
    rcases Classical.not_imp.1 he2 with ⟨hb, he3⟩
    have hon := (Zb hchk hok).1 e he hb;have hls := hI.ls;rw [XD (by omega)] at he3;exact ihb e.on (by omega) e.on (Nat.le_refl _) (by omega) (by simpa using he3)
  obtain ⟨i0, hi0⟩ := hfind j0 j0 (Nat.le_refl _) hj0 hj1;refine ⟨(fun hn => by rw [hn] at hi0; cases hi0), fun i hi => ?_⟩;obtain ⟨h0, o, ho, hpre⟩ := mem_ready.1 hi;have hin : i < ops.size := (Array.getElem?_eq_some_iff.1 ho).1;have hls := hI.ls;obtain ⟨_, hbody, htl⟩ := Zb hchk ho
  have him : i < m := by
   rcases Nat.lt_or_ge i m with h | h
   ·exact h
   exfalso
   obtain ⟨e, he1, he2, he3⟩ := htl h j0 (by omega);have := hpre e he1 he2;rw [he3, XD (by omega), hj1] at this;cases this
  obtain ⟨hsel, ⟨d, hd, hdu⟩, hlook⟩ := hbody him;have hdi : Vu ops i = some d := by unfold Vu; rw [ho]; exact hd
  obtain ⟨B, c, hBs, hBd, hBl, hBc, hBo⟩ := hob i o him ho
  -- what the operation looks at reads as in B
  have hview : ∀ t ∈ o.looksAt ops, a'.tmps[t]? = B.tmps[t]? := by
   intro t ht;rw [hBl t ht];by_cases h : ∃ j, j < m /\ Vu ops j = some t
   ·obtain ⟨j, hj, hdj⟩ := h
    obtain ⟨e, he1, he2, he3⟩ := hlook t ht j hj hdj;have hl := hpre e he1 he2;rw [he3, XD (by omega)] at hl;exact hI.done j t hj hl hdj
   have hn : ∀ j, j < m -> Vu ops j ≠ some t := fun j hj hd => h ⟨j, hj, hd⟩
   rw [hfar t hn, hI.free t (fun j hj _ => hn j hj)]
  have heval : ∀ x ∈ o.op.operands, B.eval x = a'.eval x := by
   intro x hx;cases x with
   | tmp t =>
    have ht : t ∈ o.looksAt ops := by
     unfold Oper.looksAt;exact List.mem_append_left _ (List.mem_filterMap.2 ⟨.tmp t, by simpa using hx, rfl⟩)
    simp only [Act.eval];rw [Array.getD_eq_getD_getElem?, Array.getD_eq_getD_getElem?, hview t ht]
   | _ => rfl
  have hwant : Region.wanted o (yielded ops a'.tmps) = Region.wanted o (yielded ops B.tmps) := by
   unfold Region.wanted;cases hg : o.guard with
   | none => rfl
   | some p =>
    obtain ⟨g, want⟩ := p;simp only
    have : yielded ops a'.tmps g = yielded ops B.tmps g := by
     unfold yielded;cases hgd : (ops[g]?).bind (·.dst) with
     | none => rfl
     | some t =>
      have ht : t ∈ o.looksAt ops := by
       unfold Oper.looksAt;refine List.mem_append_right _ ?_;simp only [hg];rw [hgd];simp
      simp only [Option.bind_some];rw [hview t ht]
    rw [this]
  have hexec : execOp a'.eval o = execOp B.eval o := (execOp_congr o hsel heval).symm;have hOi := hBo w' hI.below
  -- the next state
  have next : ∀ v w'', B.put o.dst v = B.put o.dst c -> Below w'.heap.size w' w'' -> wpAny P .any ops Q fuel (listed.setIfInBounds i true) (a'.put o.dst v) w'' := by
   intro v w'' hv hb;have hBc' := hBc d hd;rw [hd] at hv hBc' ⊢;refine ih _ _ _ ⟨fun j hj hjn => ?_, ZK hI.below hb, fun j d' hj hl hdj => ?_, fun t ht => ?_, ?_, by simpa using hls, hI.df⟩ ?_
   ·rw [YY, if_neg (by omega)]
    exact hI.tail j hj hjn
   ·by_cases hji : j = i
    ·subst hji
     rw [hdi] at hdj;obtain rfl := Option.some.inj hdj;rw [<- hBc', <- hv, WN, if_pos rfl, WN, if_pos rfl, hI.sz, hBs]
    rw [YY, if_neg (fun h => hji h.symm)] at hl;rw [WN, if_neg (fun h => hdu j hj hji (by rw [hdj, h]))];exact hI.done j d' hj hl hdj
   ·have hne : d ≠ t := fun h => ht i him (by rw [YY, if_pos rfl]) (by rw [hdi, h])
    rw [WN, if_neg hne];refine hI.free t (fun j hj hl => ht j hj ?_);rw [YY];split
    ·rfl
    exact hl
   ·simp only [Act.put]
    rw [Array.size_setIfInBounds];exact hI.sz
   have : JjH m (listed.setIfInBounds i true) < JjH m listed := by
    refine Jdv (fun x hx => ?_) (List.mem_range.2 him) ?_ ?_
    ·rw [YY] at hx
     split at hx
     ·cases hx
     exact hx
    ·rw [YY, if_pos rfl]; rfl
    simp [h0]
   omega
  unfold wpOp;rw [ho];simp only;unfold wpList at hOi;rw [hwant];split
  ·rename_i hw
   rw [if_pos hw] at hOi;refine .inl ?_;rcases hOi with hOi | ⟨_, hl⟩
   ·unfold Oper.wp at hOi ⊢
    rw [hexec];exact JkG (Jeq _ _ _).2 hOi next
   exact absurd hl Jcc
  rename_i hw
  rw [if_neg hw] at hOi;exact next undef w' hOi.2.1 (Below.refl _ _)
theorem JaA {w : World} {T : Act -> Prop} : ∀ (l : List Oper) (A : Act), UQ P ops w T l A -> ∃ cs : List Value, cs.length = l.length /\ T (VX A l cs) /\
  ∀ (i : Nat) (o : Oper), l[i]? = some o -> ∃ c, cs[i]? = some c /\ ∀ w', Below w.heap.size w w' -> wpList P ops (Jgi ((VX A (l.take i) (cs.take i)).put o.dst c) w') [o] (VX A (l.take i) (cs.take i)) w'
 | [], A, h => ⟨[], rfl, h, fun i o hi => by simp at hi⟩
 | x :: l, A, h => by
  obtain ⟨c, h1, h2⟩ := h;obtain ⟨cs, hl, hT, hi⟩ := JaA l _ h2;refine ⟨c :: cs, by simp [hl], hT, fun i o ho => ?_⟩;cases i with
  | zero =>
   simp at ho;subst ho;exact ⟨c, rfl, h1⟩
  | succ i => exact hi i o (by simpa using ho)
theorem Jm {id : Nat} {a : Act} {w : World} (m : Nat) (hmix : P.follows .mixedOrders = true) (hchk : JdH ops m = true) (hm : m <= ops.size)
  (h : UQ P ops w (fun A => ∀ w', Below w.heap.size w w' -> wpList P ops Q (ops.toList.drop m) A w') (ops.toList.take m) a) : (Code.region id ops true).wp P Q a w := by
 refine wp_region_any hmix ?_;obtain ⟨cs, hl, hT, hi⟩ := JaA _ _ h;have hlen : (ops.toList.take m).length = m := by simp [hm]
 have hget : ∀ (j : Nat) (o : Oper), (ops.toList.take m)[j]? = some o ↔ j < m /\ ops[j]? = some o := by
  intro j o;rw [List.getElem?_take];by_cases hj : j < m
  ·rw [if_pos hj]; simp [hj]
  rw [if_neg hj]; simp [hj]
 have huniq : ∀ (j : Nat) (o : Oper) (d : Tmp), (ops.toList.take m)[j]? = some o -> o.dst = some d -> ∀ k o', k ≠ j -> (ops.toList.take m)[k]? = some o' -> o'.dst ≠ some d := by
  intro j o d hj hd k o' hk ho' hd';obtain ⟨hjm, hj'⟩ := (hget j o).1 hj;obtain ⟨hkm, hk'⟩ := (hget k o').1 ho';obtain ⟨_, ⟨d2, hd2, hu⟩, _⟩ := (Zb hchk hj').2.1 hjm;rw [hd] at hd2;obtain rfl := Option.some.inj hd2;exact hu k hkm hk (by unfold Vu; rw [hk']; exact hd')
 have hfar : ∀ t : Nat, (∀ j, j < m -> Vu ops j ≠ some t) -> (VX a (ops.toList.take m) cs).tmps[t]? = a.tmps[t]? := by
  intro t ht;refine Z6 _ _ _ _ (fun o ho hd => ?_);obtain ⟨j, hj⟩ := List.mem_iff_getElem?.1 ho;obtain ⟨hjm, hj'⟩ := (hget j o).1 hj;exact ht j hjm (by unfold Vu; rw [hj']; exact hd)
 have hsz := Jam (ops.toList.take m) cs a;refine JkI (m := m) (a := a) (A := VX a (ops.toList.take m) cs) (w0 := w) hchk hm hsz.1 hsz.2 hfar (fun i o him ho => ?_) hT ops.size _ a _ ⟨fun j _ hj => by simp [hj], (Below.refl _ w).drew, fun j d hj hl => ?_, fun _ _ => rfl, rfl, by simp, rfl⟩ ?_
 ·obtain ⟨c, hc, hw⟩ := hi i o ((hget i o).2 ⟨him, ho⟩)
  have hsi := Jam ((ops.toList.take m).take i) (cs.take i) a;obtain ⟨_, hbody, _⟩ := Zb hchk ho;obtain ⟨_, ⟨d, hd, _⟩, hlook⟩ := hbody him;refine ⟨_, c, hsi.1, hsi.2, fun t ht => ?_, fun d' hd' => ?_, hw⟩
  ·by_cases h : ∃ j, j < m /\ Vu ops j = some t
   ·obtain ⟨j, hj, hdj⟩ := h
    obtain ⟨e, he1, he2, he3⟩ := hlook t ht j hj hdj;have hji := (Zb hchk ho).1 e he1 he2;rw [he3] at hji;have hjn : j < ops.size := by omega
    have hoj : ops[j]? = some ops[j] := Array.getElem?_eq_getElem hjn;have hdj' : ops[j].dst = some t := by unfold Vu at hdj; rw [hoj] at hdj; exact hdj
    have hlj := (hget j _).2 ⟨hj, hoj⟩;rw [Wq _ _ _ j _ t hl hlj hdj' (huniq j _ t hlj hdj')]
    rw [Wq _ _ _ j ops[j] t (by simp [hl]) (by rw [List.getElem?_take, if_pos hji]; exact hlj) hdj' (fun k o' hk ho' => huniq j _ t hlj hdj' k o' hk (by
     rw [List.getElem?_take] at ho';split at ho'
     ·exact ho'
     cases ho'))]
    rw [List.getElem?_take, if_pos hji]
   have hn : ∀ j, j < m -> Vu ops j ≠ some t := fun j hj hd => h ⟨j, hj, hd⟩
   rw [hfar t hn];refine Z6 _ _ _ _ (fun o' ho' hd' => ?_);obtain ⟨j, hj⟩ := List.mem_iff_getElem?.1 (List.mem_of_mem_take ho');obtain ⟨hjm, hj'⟩ := (hget j o').1 hj;exact hn j hjm (by unfold Vu; rw [hj']; exact hd')
  have hli := (hget i o).2 ⟨him, ho⟩;rw [Wq _ _ _ i o d' hl hli hd' (huniq i o d' hli hd'), hd', WN, if_pos rfl, hsi.1, hc]
 ·exfalso
  have : j < ops.size := by omega
  simp [this] at hl
 unfold JjH;have := List.countP_le_length (p := fun j => !(Array.replicate ops.size false).getD j true) (l := List.range m);rw [List.length_range] at this;omega
end
theorem ds {P : Program} {ops : Array Oper} {w : World} {T : Act -> Prop} {o : Oper} {rest : List Oper} {A : Act} {c : Value} (k : UQ P ops w T rest (A.put o.dst c)) (h : ∀ w', Below w.heap.size w w' -> wpList P ops (Jgi (A.put o.dst c) w') [o] A w' := by (intro W hW; (try simp only [Act.put, List.setIfInBounds_toArray, List.set_cons_zero, List.set_cons_succ]); first | (exact wpList_skip rfl ⟨rfl, rfl, Below.refl _ _⟩) | (go_wp2_with fail; exact ⟨rfl, rfl, Below.refl _ _⟩) | (obtain ⟨hcW, hfW⟩ := JE hW; have hsW := hW.size; (try simp at hsW); (try have hsW0 := Jd hsW); (try (have hsW1 := Jc hsW; (try (have hsW2 := Jc hsW1)))); go_wp2_with fail; exact ⟨rfl, rfl, Below.refl _ _⟩))) : UQ P ops w T (o :: rest) A := ⟨c, h, k⟩
end Go.Proofs.YtohcpifekcehjaaGreatDoor
