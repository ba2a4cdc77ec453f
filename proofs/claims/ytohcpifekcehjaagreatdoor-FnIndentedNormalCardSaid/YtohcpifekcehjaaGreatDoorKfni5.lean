/- Steps to FnIndentedNormal. No conditions. -/
import Derived.Test.YtohcpifekcehjaaGreatDoorKfni4
import Derived.Deep.AppendLies
import Derived.OwnWalk
import Derived.Test.YtohcpifekcehjaaGreatDoorKfni1
import Derived.RowKit
import Derived.Test.YtohcpifekcehjaaGreatDoorKfni2
import Derived.Test.YtohcpifekcehjaaGreatDoorKfni3
import Derived.Deep.CutRange
import Derived.Deep.RegionHeld3
import Derived.Lib.TrimByte
set_option maxHeartbeats 16000000
set_option maxRecDepth 20000
namespace Go.Proofs.YtohcpifekcehjaaGreatDoor
open Go.RowKit
def GrowS (base hi : Nat) (w : World) (l : List ByteArray) (v : Value) : Prop := w.ownsRow base 9 1 v l.length (l.map Value.string) /\ (∀ g, v.ownBlock = some g -> g < hi) /\ ∀ s ∈ l, s.size <= 9223372036854775807
theorem GrowS.form {base hi : Nat} {w : World} {l : List ByteArray} {v : Value} (h : GrowS base hi w l v) : ∃ A c, v = .slice A l.length c := by
 rcases h.1.2 with ⟨rfl, h0⟩ | ⟨g, cap, cur, rfl, _⟩
 ·exact ⟨_, _, by rw [h0]⟩
 exact ⟨_, _, rfl⟩
theorem GrowS.own {base hi : Nat} {w : World} {l : List ByteArray} {v : Value} (h : GrowS base hi w l v) : OwnS (fun b => base <= b /\ b < hi) w l v := by
 obtain ⟨⟨hl, h1⟩, h2, h3⟩ := h;rcases h1 with ⟨rfl, h0⟩ | ⟨g, cap, cur, rfl, hb, hg, hnc, hcm, hcs, ht⟩
 ·exact ⟨none, 0, by rw [h0], by omega, by omega, fun hp => by omega⟩
 refine ⟨_, cap, rfl, hnc, by unfold maxLen at hcm; omega, fun _ => ⟨g, cur, rfl, ⟨hb, h2 g rfl⟩, hg, fun i s hs => ?_⟩⟩;refine ⟨?_, h3 s (List.mem_of_getElem? hs)⟩;have hi : i < l.length := (List.getElem?_eq_some_iff.1 hs).1;have : (cur.toList.take (l.length * 1))[i]? = some (.string s) := by rw [ht, List.getElem?_map, hs]; rfl
 rw [List.getElem?_take, if_pos (by omega)] at this
 simpa using this
theorem JbJ : ∀ (ess : List (List Value)) (i : Nat) (es : List Value) (j : Nat), (∀ es ∈ ess, es.length = 6) -> ess[i]? = some es -> j < 6 -> ess.flatten[i * 6 + j]? = es[j]?
 | [], i, es, j, _, h, _ => by simp at h
 | x :: ess, 0, es, j, hl, h, hj => by
  simp at h;subst h;rw [List.flatten_cons, List.getElem?_append_left (by rw [hl x (by simp)]; omega)];simp
 | x :: ess, i + 1, es, j, hl, h, hj => by
  simp at h;have hx := hl x (by simp);rw [List.flatten_cons, List.getElem?_append_right (by omega), hx, show (i + 1) * 6 + j - 6 = i * 6 + j by omega];exact JbJ ess i es j (fun y hy => hl y (by simp [hy])) h hj
def GrowK (n base hi : Nat) (w : World) (l : List TreeD) (v : Value) : Prop :=
 ∃ (ess : List (List Value)) (F : Nat -> Nat -> Prop), ess.length = l.length /\ (∀ es ∈ ess, es.length = 6) /\ w.ownsRow base 34 6 v l.length ess.flatten /\ (∀ g, v.ownBlock = some g -> g < hi) /\
  (∀ i b, F i b -> base <= b /\ b < hi /\ v.ownBlock ≠ some b) /\ (∀ i j b, F i b -> F j b -> i = j) /\ ∀ i d es, l[i]? = some d -> ess[i]? = some es -> OwnT n (F i) w d es
theorem GrowK.carry {n base hi hi' : Nat} {w w' : World} {l : List TreeD} {v : Value} (h : GrowK n base hi w l v) (hh : hi <= hi') (hb : ∀ g, base <= g -> g < hi -> w'.heap[g]? = w.heap[g]?) : GrowK n base hi' w' l v := by
 obtain ⟨ess, F, h1, h2, h3, h4, h5, h6, h7⟩ := h
 exact ⟨ess, F, h1, h2, Jh h3 (fun g hg => hb g (h3.lt g hg).1 (h4 g hg)), fun g hg => Nat.lt_of_lt_of_le (h4 g hg) hh, fun i b hF => ⟨(h5 i b hF).1, Nat.lt_of_lt_of_le (h5 i b hF).2.1 hh, (h5 i b hF).2.2⟩, h6,
  fun i d es hd he => (h7 i d es hd he).carry (fun b hF => hb b (h5 i b hF).1 (h5 i b hF).2.1) (fun _ h => h)⟩
theorem GrowK.own {n base hi : Nat} {w : World} {l : List TreeD} {v : Value} (h : GrowK n base hi w l v) : OwnK (OwnT n) (fun b => base <= b /\ b < hi) w l v := by
 obtain ⟨ess, F, e1, e2, ⟨hl, h1⟩, h4, h5, h6, h7⟩ := h;rcases h1 with ⟨rfl, h0⟩ | ⟨g, cap, cur, rfl, hb, hg, hnc, hcm, hcs, ht⟩
 ·exact ⟨none, 0, by rw [h0], by omega, by omega, fun hp => by omega⟩
 refine ⟨_, cap, rfl, hnc, by unfold maxLen at hcm; omega, fun _ => ⟨g, F, rfl, ⟨hb, h4 g rfl⟩, fun i b hF => ⟨⟨(h5 i b hF).1, (h5 i b hF).2.1⟩, fun e => (h5 i b hF).2.2 (by rw [e]; rfl)⟩, h6, cur, hg, fun i d hd => ?_⟩⟩;have hi : i < l.length := (List.getElem?_eq_some_iff.1 hd).1;obtain ⟨es, hes⟩ := Jg (l := ess) (k := i) (by omega);refine ⟨es, e2 es (List.mem_of_getElem? hes), fun j hj => ?_, h7 i d es hd hes⟩
 have hf := JbJ ess i es j e2 hes hj;rw [<- ht, List.getElem?_take, if_pos (by omega)] at hf
 simpa using hf
theorem OwnT.one {n : Nat} {S : Nat -> Prop} {w : World} {d : TreeD} {es : List Value} (h : OwnT n S w d es) : ∀ u ∈ es, u.oneCell' = true := by
 obtain ⟨A4, c4, A5, c5, rfl, -⟩ := h.flat;intro u hu;simp at hu;rcases hu with rfl | rfl | rfl | rfl | rfl | rfl <;> rfl
theorem OwnT.len {n : Nat} {S : Nat -> Prop} {w : World} {d : TreeD} {es : List Value} (h : OwnT n S w d es) : es.length = 6 := by
 obtain ⟨A4, c4, A5, c5, rfl, -⟩ := h.flat;rfl
theorem GrowK.push {n base hi : Nat} {w w' : World} {l : List TreeD} {v : Value} {d : TreeD} {es : List Value} {S : Nat -> Prop} {g cap : Nat} (m : Nat) (hm : l.length = m) (hhi : hi <= w.heap.size) (hd : OwnT n S w d es) (hS : ∀ b, S b -> hi <= b /\ b < w.heap.size) (hbh : base <= hi)
  (ess : List (List Value)) (F : Nat -> Nat -> Prop) (e1 : ess.length = l.length) (e2 : ∀ es ∈ ess, es.length = 6) (h4 : ∀ g, v.ownBlock = some g -> g < hi) (h5 : ∀ i b, F i b -> base <= b /\ b < hi /\ v.ownBlock ≠ some b) (h6 : ∀ i j b, F i b -> F j b -> i = j) (h7 : ∀ i d es, l[i]? = some d -> ess[i]? = some es -> OwnT n (F i) w d es)
  (ho : w'.ownsRow base 34 6 (.slice (some ⟨g, 0, none⟩) (m + 1) cap) (m + 1) (ess.flatten ++ es)) (hgr : w.grownBy w' v.ownBlock) (hat : v.ownBlock = some g ∨ w.heap.size <= g) (hg : g < w'.heap.size) :
  GrowK n base w'.heap.size w' (l ++ [d]) (.slice (some ⟨g, 0, none⟩) (m + 1) cap) := by
 subst hm;have hkeep : ∀ b, b < w.heap.size -> v.ownBlock ≠ some b -> w'.heap[b]? = w.heap[b]? := fun b h1 h2 => hgr.block b h1 (fun e => h2 e.symm)
 refine ⟨ess ++ [es], fun i b => (i < l.length /\ F i b) ∨ (i = l.length /\ S b), by simp [e1], ?_, by simpa using ho, ?_, ?_, ?_, ?_⟩
 ·intro x hx
  rcases List.mem_append.1 hx with hx | hx
  ·exact e2 x hx
  simp at hx; subst hx; exact hd.len
 ·intro g' hg'
  simp [Value.ownBlock] at hg';omega
 ·rintro i b (⟨hi, hF⟩ | ⟨hi, hF⟩)
  ·obtain ⟨f1, f2, f3⟩ := h5 i b hF
   refine ⟨f1, by have := hgr.size; omega, fun e => ?_⟩;simp [Value.ownBlock] at e;rcases hat with hat | hat
   ·rw [hat, e] at f3; exact f3 rfl
   omega
  obtain ⟨f1, f2⟩ := hS b hF;refine ⟨by omega, by have := hgr.size; omega, fun e => ?_⟩;simp [Value.ownBlock] at e;rcases hat with hat | hat
  ·have := h4 g hat; omega
  omega
 ·rintro i j b (⟨hi, hF⟩ | ⟨hi, hF⟩) (⟨hj, hG⟩ | ⟨hj, hG⟩)
  ·exact h6 i j b hF hG
  ·have := (h5 i b hF).2.1; have := (hS b hG).1; omega
  ·have := (h5 j b hG).2.1; have := (hS b hF).1; omega
  omega
 intro i d' es' hd' hes';by_cases hlt : i < l.length
 ·rw [List.getElem?_append_left hlt] at hd'
  rw [List.getElem?_append_left (by omega)] at hes';refine (h7 i d' es' hd' hes').carry (fun b hF => hkeep b ?_ (h5 i b hF).2.2) (fun b hF => .inl ⟨hlt, hF⟩);have := (h5 i b hF).2.1;omega
 have hil : i = l.length := by
  have := (List.getElem?_eq_some_iff.1 hd').1;simp at this;omega
 subst hil;rw [List.getElem?_append_right (by omega)] at hd';rw [List.getElem?_append_right (by omega)] at hes';simp at hd';simp [e1] at hes';subst hd' hes';refine hd.carry (fun b hF => hkeep b (hS b hF).2 (fun e => ?_)) (fun b hF => .inr ⟨rfl, hF⟩);have := h4 b e;have := (hS b hF).1;omega
def W5 {D : Type} (f : D -> Nat) : List D -> Nat
 | [] => 0
 | d :: l => max (f d) (W5 f l)
theorem JdT {D : Type} (f : D -> Nat) : ∀ a b : List D, W5 f (a ++ b) = max (W5 f a) (W5 f b)
 | [], b => by simp [W5]
 | d :: a, b => by
  simp only [List.cons_append, W5];rw [JdT f a b];omega
theorem YH {D : Type} {l : List D} {k : Nat} {d : D} (h : l[k]? = some d) : l.take (k + 1) = l.take k ++ [d] := by rw [List.take_add_one, h]; rfl
theorem Jbs {D : Type} (f : D -> Nat) {l : List D} {k : Nat} {d : D} (h : l[k]? = some d) : W5 f (l.take (k + 1)) = max (W5 f (l.take k)) (f d) := by
 rw [YH h, JdT];simp [W5]
def Jl : Nat -> TreeD -> Nat
 | 0, _ => 0
 | n + 1, d => 1 + QZ (Jl n) d.kids
def Jw : Nat -> TreeD -> Nat
 | 0, _ => 0
 | n + 1, d => W5 (Jw n) d.kids + 1
theorem JJ (n : Nat) (d : TreeD) : Jl (n + 1) d = 1 + QZ (Jl n) d.kids := rfl
theorem QF (n : Nat) (d : TreeD) : Jw (n + 1) d = W5 (Jw n) d.kids + 1 := rfl
theorem QM : ∀ (n : Nat) (d : TreeD), Jw n d <= Jl n d
 | 0, _ => Nat.le_refl _
 | n + 1, d => by
  have h : ∀ l : List TreeD, W5 (Jw n) l <= QZ (Jl n) l := by
   intro l;induction l with
   | nil => exact Nat.le_refl _
   | cons t l ih =>
    have := QM n t;simp only [W5, QZ];omega
  rw [QF, JJ];have := h d.kids;omega
theorem VL {n k : Nat} {d t : TreeD} (h : d.kids[k]? = some t) : QZ (Jl n) (d.kids.take k) + Jl n t + 1 <= Jl (n + 1) d := by
 have h1 := Ql (Jl n) d.kids k t h;have h2 := Yl (Jl n) d.kids (k + 1);rw [JJ];omega
theorem Vq {n k : Nat} {d t : TreeD} (h : d.kids[k]? = some t) : W5 (Jw n) (d.kids.take k) + 1 <= Jw (n + 1) d /\ Jw n t + 1 <= Jw (n + 1) d := by
 have h1 := Jbs (Jw n) h;have h2 : W5 (Jw n) d.kids = max (W5 (Jw n) (d.kids.take (k + 1))) (W5 (Jw n) (d.kids.drop (k + 1))) := by rw [<- JdT, List.take_append_drop]
 rw [QF];omega
def Jbz (n : Nat) : Prop := ∀ (d : TreeD) (cs : List Value) (w : World) (lo : Nat), C_Tree n lo w.heap.size w d cs -> Jl n d <= 1073741824 ->
  Calls Tryz.prog 150 #[.agg cs.toArray] w fun e w' => e = .returned (.int .i64 (Jw n d : Nat)) /\ Below w.heap.size w w'
theorem JiR (n : Nat) (ih : Jbz n) : Jbz (n + 1) := by
 intro d cs w lo h hsz;have hds := QM (n + 1) d;obtain ⟨v4, v5, rfl, a0, a2, a3, a4, a5⟩ := C_Tree.out h;obtain ⟨A4, c4, rfl⟩ := a4.form;obtain ⟨A5, c5, rfl, hlc, hcc, hA⟩ := a5;clear h a4;go_enter Tryz.func150, Tryz.ntmps150
 go_wp2_with fail
 go_loopw [3, 9] (fun s v wr => ∃ k : Nat, k <= d.kids.length /\ v = .int .i64 k /\ s = .int .i64 (W5 (Jw n) (d.kids.take k) : Nat) /\ Below w.heap.size w wr) (fun _ v _ => d.kids.length - (intOf v).toNat)
 case atStart => exact ⟨0, Nat.zero_le _, rfl, rfl, Jj⟩
 case round =>
  obtain ⟨k, hk, rfl, rfl, hbr⟩ := hrel;by_cases hlt : k < d.kids.length
  ·skip
   obtain ⟨p, o, rfl, -, hbl, hcell⟩ := hA (by omega);obtain ⟨t, ht⟩ := Jg hlt;obtain ⟨es, -, hcs, hC⟩ := hcell k t ht;obtain ⟨eA4, ec4, eA5, ec5, rfl, ea0, ea2, ea3⟩ := hC.flat;have hc0 := (hbr.cell (p := ⟨p, o + k * 6 + 0, none⟩) (by simp; omega)).trans (hcs 0 (by omega));simp at hc0;have hc1 := (hbr.cell (p := ⟨p, o + k * 6 + 1, none⟩) (by simp; omega)).trans (hcs 1 (by omega));simp at hc1
   have hc2 := (hbr.cell (p := ⟨p, o + k * 6 + 2, none⟩) (by simp; omega)).trans (hcs 2 (by omega));simp at hc2;have hc3 := (hbr.cell (p := ⟨p, o + k * 6 + 3, none⟩) (by simp; omega)).trans (hcs 3 (by omega));simp at hc3;have hc4 := (hbr.cell (p := ⟨p, o + k * 6 + 4, none⟩) (by simp; omega)).trans (hcs 4 (by omega));simp at hc4;have hc5 := (hbr.cell (p := ⟨p, o + k * 6 + 5, none⟩) (by simp; omega)).trans (hcs 5 (by omega))
   simp at hc5;have hbr1 := Nat.lt_of_lt_of_le hbl hbr.size;have hk0 : (0 : Int) <= k := by omega
   have hk1 : (k : Int) < d.kids.length := by omega
   have hs1 := VL (n := n) ht;have hd1 := Vq (n := n) ht;have hts : Jl n t <= 1073741824 := by omega
   have HC := Lib.hid hC;have Hnx := Lib.hid (Jbs (Jw n) ht);clear hcs hcell hA hC;obtain ⟨x, hx⟩ : ∃ x : Nat, x = W5 (Jw n) (d.kids.take k) := ⟨_, rfl⟩
   have hxb : x <= 1073741824 := by omega
   rw [<- hx];have HX := Lib.hid hx;obtain ⟨y, hy⟩ : ∃ y : Nat, y = Jw n t := ⟨_, rfl⟩
   have hyb : y + x <= 2147483648 := by have := QM n t; omega
   have HY := Lib.hid hy;clear hx hy hs1 hd1;go_wp2_with (go_at_call 150; refine (ih t _ _ _ (HC.out.now Jj) hts).mono ?_; rintro e w9 ⟨rfl, hb9⟩; rw [<- HY.out])
   go_roundw
   case rel => exact ⟨k + 1, by omega, by go_num, by (have h1 := Hnx.out; rw [<- HX.out, <- HY.out] at h1; rw [h1]; simp; omega), Jj⟩
   case measure => simp [intOf]; omega
  obtain rfl : k = d.kids.length := by omega
  have Hf := Lib.hid (show Jw (n + 1) d = W5 (Jw n) (d.kids.take d.kids.length) + 1 by rw [QF, List.take_of_length_le (Nat.le_refl _)]);obtain ⟨x, hx⟩ : ∃ x : Nat, x = W5 (Jw n) (d.kids.take d.kids.length) := ⟨_, rfl⟩
  rw [<- hx] at Hf;rw [<- hx];have hxb : x <= 1073741824 := by have := Hf.out; omega
  clear hA hx;go_wp2_with fail
  go_ret
  exact ⟨by rw [Hf.out]; go_num, Jj⟩
theorem Jb1 : ∀ n, Jbz n
 | 0 => fun _ _ _ _ h _ => (C_Tree.none h).elim
 | n + 1 => JiR n (Jb1 n)
def Jep (n : Nat) : Prop := ∀ (d : TreeD) (cs : List Value) (w : World) (lo : Nat), C_Tree n lo w.heap.size w d cs -> Jl n d <= 1073741824 ->
  Calls Tryz.prog 151 #[.agg cs.toArray] w fun e w' => e = .returned (.int .i64 (Jl n d : Nat)) /\ Below w.heap.size w w'
theorem Jki (n : Nat) (ih : Jep n) : Jep (n + 1) := by
 intro d cs w lo h hsz;have hds := QM (n + 1) d;obtain ⟨v4, v5, rfl, a0, a2, a3, a4, a5⟩ := C_Tree.out h;obtain ⟨A4, c4, rfl⟩ := a4.form;obtain ⟨A5, c5, rfl, hlc, hcc, hA⟩ := a5;clear h a4;go_enter Tryz.func151, Tryz.ntmps151
 go_wp2_with fail
 go_loopw [3, 9] (fun s v wr => ∃ k : Nat, k <= d.kids.length /\ v = .int .i64 k /\ s = .int .i64 (1 + QZ (Jl n) (d.kids.take k) : Nat) /\ Below w.heap.size w wr) (fun _ v _ => d.kids.length - (intOf v).toNat)
 case atStart => exact ⟨0, Nat.zero_le _, rfl, rfl, Jj⟩
 case round =>
  obtain ⟨k, hk, rfl, rfl, hbr⟩ := hrel;by_cases hlt : k < d.kids.length
  ·skip
   obtain ⟨p, o, rfl, -, hbl, hcell⟩ := hA (by omega);obtain ⟨t, ht⟩ := Jg hlt;obtain ⟨es, -, hcs, hC⟩ := hcell k t ht;obtain ⟨eA4, ec4, eA5, ec5, rfl, ea0, ea2, ea3⟩ := hC.flat;have hc0 := (hbr.cell (p := ⟨p, o + k * 6 + 0, none⟩) (by simp; omega)).trans (hcs 0 (by omega));simp at hc0;have hc1 := (hbr.cell (p := ⟨p, o + k * 6 + 1, none⟩) (by simp; omega)).trans (hcs 1 (by omega));simp at hc1
   have hc2 := (hbr.cell (p := ⟨p, o + k * 6 + 2, none⟩) (by simp; omega)).trans (hcs 2 (by omega));simp at hc2;have hc3 := (hbr.cell (p := ⟨p, o + k * 6 + 3, none⟩) (by simp; omega)).trans (hcs 3 (by omega));simp at hc3;have hc4 := (hbr.cell (p := ⟨p, o + k * 6 + 4, none⟩) (by simp; omega)).trans (hcs 4 (by omega));simp at hc4;have hc5 := (hbr.cell (p := ⟨p, o + k * 6 + 5, none⟩) (by simp; omega)).trans (hcs 5 (by omega))
   simp at hc5;have hbr1 := Nat.lt_of_lt_of_le hbl hbr.size;have hk0 : (0 : Int) <= k := by omega
   have hk1 : (k : Int) < d.kids.length := by omega
   have hs1 := VL (n := n) ht;have hd1 := Vq (n := n) ht;have hts : Jl n t <= 1073741824 := by omega
   have HC := Lib.hid hC;have Hnx := Lib.hid (Ql (Jl n) d.kids k t ht);clear hcs hcell hA hC;obtain ⟨x, hx⟩ : ∃ x : Nat, x = 1 + QZ (Jl n) (d.kids.take k) := ⟨_, rfl⟩
   have hxb : x <= 1073741824 := by omega
   rw [<- hx];have HX := Lib.hid hx;obtain ⟨y, hy⟩ : ∃ y : Nat, y = Jl n t := ⟨_, rfl⟩
   have hyb : y + x <= 2147483648 := by have := QM n t; omega
   have HY := Lib.hid hy;clear hx hy hs1 hd1;go_wp2_with (go_at_call 151; refine (ih t _ _ _ (HC.out.now Jj) hts).mono ?_; rintro e w9 ⟨rfl, hb9⟩; rw [<- HY.out])
   go_roundw
   case rel => exact ⟨k + 1, by omega, by go_num, by (have h1 := Hnx.out; have h2 := HX.out; have h3 := HY.out; go_num), Jj⟩
   case measure => simp [intOf]; omega
  obtain rfl : k = d.kids.length := by omega
  have Hf := Lib.hid (show Jl (n + 1) d = 1 + QZ (Jl n) (d.kids.take d.kids.length) by rw [JJ, List.take_of_length_le (Nat.le_refl _)]);obtain ⟨x, hx⟩ : ∃ x : Nat, x = 1 + QZ (Jl n) (d.kids.take d.kids.length) := ⟨_, rfl⟩
  rw [<- hx] at Hf;rw [<- hx];have hxb : x <= 1073741824 := by have := Hf.out; omega
  clear hA hx;go_wp2_with fail
  go_ret
  exact ⟨by rw [Hf.out]; rfl, Jj⟩
theorem Jdn : ∀ n, Jep n
 | 0 => fun _ _ _ _ h _ => (C_Tree.none h).elim
 | n + 1 => Jki n (Jdn n)
def Jco (n : Nat) : Prop := ∀ (d : TreeD) (cs : List Value) (w : World) (lo : Nat), C_Tree n lo w.heap.size w d cs -> Jl n d <= 1073741824 ->
  Calls Tryz.prog 57 #[.agg cs.toArray] w fun e w' => e = .returned (.int .i64 (Jw n d : Nat)) /\ Below w.heap.size w w'
theorem Ji0 (n : Nat) (ih : Jco n) : Jco (n + 1) := by
 intro d cs w lo h hsz;have hds := QM (n + 1) d;obtain ⟨v4, v5, rfl, a0, a2, a3, a4, a5⟩ := C_Tree.out h;obtain ⟨A4, c4, rfl⟩ := a4.form;obtain ⟨A5, c5, rfl, hlc, hcc, hA⟩ := a5;clear h a4;go_enter Tryz.func57, Tryz.ntmps57
 go_wp2_with fail
 go_loopw [3, 4] (fun s v wr => ∃ k : Nat, k <= d.kids.length /\ v = .int .i64 k /\ s = .int .i64 (W5 (Jw n) (d.kids.take k) : Nat) /\ wr.heap[w.heap.size]? = some (.cells #[.int .i64 d.kind, .bool d.flag, .int .i64 d.num, .string d.text, .slice A4 d.keys.length c4, .slice A5 d.kids.length c5] 34 (0, 0)) /\ Below w.heap.size w wr) (fun _ v _ => d.kids.length - (intOf v).toNat)
 case atStart => exact ⟨0, Nat.zero_le _, rfl, rfl, Je rfl, Jj⟩
 case round =>
  obtain ⟨k, hk, rfl, rfl, hT, hbr⟩ := hrel;have HT := Lib.hid hT;clear hT;obtain ⟨x0, x1, x2, x3, x4, x5, xf⟩ := Jf HT.out;have hl1 := Ja HT.out;by_cases hlt : k < d.kids.length
  ·skip
   obtain ⟨p, o, rfl, -, hbl, hcell⟩ := hA (by omega);obtain ⟨t, ht⟩ := Jg hlt;obtain ⟨es, -, hcs, hC⟩ := hcell k t ht;obtain ⟨eA4, ec4, eA5, ec5, rfl, ea0, ea2, ea3⟩ := hC.flat;have hc0 := (hbr.cell (p := ⟨p, o + k * 6 + 0, none⟩) (by simp; omega)).trans (hcs 0 (by omega));simp at hc0;have hc1 := (hbr.cell (p := ⟨p, o + k * 6 + 1, none⟩) (by simp; omega)).trans (hcs 1 (by omega));simp at hc1
   have hc2 := (hbr.cell (p := ⟨p, o + k * 6 + 2, none⟩) (by simp; omega)).trans (hcs 2 (by omega));simp at hc2;have hc3 := (hbr.cell (p := ⟨p, o + k * 6 + 3, none⟩) (by simp; omega)).trans (hcs 3 (by omega));simp at hc3;have hc4 := (hbr.cell (p := ⟨p, o + k * 6 + 4, none⟩) (by simp; omega)).trans (hcs 4 (by omega));simp at hc4;have hc5 := (hbr.cell (p := ⟨p, o + k * 6 + 5, none⟩) (by simp; omega)).trans (hcs 5 (by omega))
   simp at hc5;have hbr1 := Nat.lt_of_lt_of_le hbl hbr.size;have hk0 : (0 : Int) <= k := by omega
   have hk1 : (k : Int) < d.kids.length := by omega
   have hs1 := VL (n := n) ht;have hd1 := Vq (n := n) ht;have hts : Jl n t <= 1073741824 := by omega
   have HC := Lib.hid hC;have Hnx := Lib.hid (Jbs (Jw n) ht);clear hcs hcell hA hC;obtain ⟨x, hx⟩ : ∃ x : Nat, x = W5 (Jw n) (d.kids.take k) := ⟨_, rfl⟩
   have hxb : x <= 1073741824 := by omega
   rw [<- hx];have HX := Lib.hid hx;obtain ⟨y, hy⟩ : ∃ y : Nat, y = Jw n t := ⟨_, rfl⟩
   have hyb : y + x <= 2147483648 := by have := QM n t; omega
   have HY := Lib.hid hy;clear hx hy hs1 hd1;have hyx : decide (x < y) = true ∨ decide (x < y) = false := by rcases decide (x < y) with _ | _ <;> simp
   rcases hyx with hyx | hyx
   focus
    have hyi : (x : Int) < y := by have := of_decide_eq_true hyx; omega
    have hn : max x y = y := by have := of_decide_eq_true hyx; omega
   rotate_left
   focus
    have hyi : decide ((x : Int) < y) = false := JmF (by have := of_decide_eq_false hyx; omega);have hn : max x y = x := by have := of_decide_eq_false hyx; omega
   rotate_left
   all_goals
    clear hyx;go_wp2_with (go_at_call 57; refine (ih t _ _ _ (HC.out.now Jj) hts).mono ?_; rintro e w9 ⟨rfl, hb9⟩; rw [<- HY.out])
    go_roundw
    case rel => exact ⟨k + 1, by omega, by go_num, by (have h1 := Hnx.out; rw [<- HX.out, <- HY.out, hn] at h1; rw [h1]), (hb9.block _ (by first | omega | (simp; omega))).trans HT.out, Jj⟩
    case measure => simp [intOf]; omega
  obtain rfl : k = d.kids.length := by omega
  have Hf := Lib.hid (show Jw (n + 1) d = W5 (Jw n) (d.kids.take d.kids.length) + 1 by rw [QF, List.take_of_length_le (Nat.le_refl _)]);obtain ⟨x, hx⟩ : ∃ x : Nat, x = W5 (Jw n) (d.kids.take d.kids.length) := ⟨_, rfl⟩
  rw [<- hx] at Hf;rw [<- hx];have hxb : x <= 1073741824 := by have := Hf.out; omega
  clear hA hx;go_wp2_with fail
  go_ret
  exact ⟨by rw [Hf.out]; go_num, Jj⟩
theorem Ja9 : ∀ n, Jco n
 | 0 => fun _ _ _ _ h _ => (C_Tree.none h).elim
 | n + 1 => Ji0 n (Ja9 n)
def Jed (n : Nat) : Prop := ∀ (d : TreeD) (cs : List Value) (w : World) (lo : Nat), C_Tree n lo w.heap.size w d cs -> Jl n d <= 1073741824 ->
  Calls Tryz.prog 58 #[.agg cs.toArray] w fun e w' => e = .returned (.int .i64 (Jl n d : Nat)) /\ Below w.heap.size w w'
theorem JjZ (n : Nat) (ih : Jed n) : Jed (n + 1) := by
 intro d cs w lo h hsz;have hds := QM (n + 1) d;obtain ⟨v4, v5, rfl, a0, a2, a3, a4, a5⟩ := C_Tree.out h;obtain ⟨A4, c4, rfl⟩ := a4.form;obtain ⟨A5, c5, rfl, hlc, hcc, hA⟩ := a5;clear h a4;go_enter Tryz.func58, Tryz.ntmps58
 go_wp2_with fail
 go_loopw [3, 4] (fun s v wr => ∃ k : Nat, k <= d.kids.length /\ v = .int .i64 k /\ s = .int .i64 (1 + QZ (Jl n) (d.kids.take k) : Nat) /\ wr.heap[w.heap.size]? = some (.cells #[.int .i64 d.kind, .bool d.flag, .int .i64 d.num, .string d.text, .slice A4 d.keys.length c4, .slice A5 d.kids.length c5] 34 (0, 0)) /\ Below w.heap.size w wr) (fun _ v _ => d.kids.length - (intOf v).toNat)
 case atStart => exact ⟨0, Nat.zero_le _, rfl, rfl, Je rfl, Jj⟩
 case round =>
  obtain ⟨k, hk, rfl, rfl, hT, hbr⟩ := hrel;have HT := Lib.hid hT;clear hT;obtain ⟨x0, x1, x2, x3, x4, x5, xf⟩ := Jf HT.out;have hl1 := Ja HT.out;by_cases hlt : k < d.kids.length
  ·skip
   obtain ⟨p, o, rfl, -, hbl, hcell⟩ := hA (by omega);obtain ⟨t, ht⟩ := Jg hlt;obtain ⟨es, -, hcs, hC⟩ := hcell k t ht;obtain ⟨eA4, ec4, eA5, ec5, rfl, ea0, ea2, ea3⟩ := hC.flat;have hc0 := (hbr.cell (p := ⟨p, o + k * 6 + 0, none⟩) (by simp; omega)).trans (hcs 0 (by omega));simp at hc0;have hc1 := (hbr.cell (p := ⟨p, o + k * 6 + 1, none⟩) (by simp; omega)).trans (hcs 1 (by omega));simp at hc1
   have hc2 := (hbr.cell (p := ⟨p, o + k * 6 + 2, none⟩) (by simp; omega)).trans (hcs 2 (by omega));simp at hc2;have hc3 := (hbr.cell (p := ⟨p, o + k * 6 + 3, none⟩) (by simp; omega)).trans (hcs 3 (by omega));simp at hc3;have hc4 := (hbr.cell (p := ⟨p, o + k * 6 + 4, none⟩) (by simp; omega)).trans (hcs 4 (by omega));simp at hc4;have hc5 := (hbr.cell (p := ⟨p, o + k * 6 + 5, none⟩) (by simp; omega)).trans (hcs 5 (by omega))
   simp at hc5;have hbr1 := Nat.lt_of_lt_of_le hbl hbr.size;have hk0 : (0 : Int) <= k := by omega
   have hk1 : (k : Int) < d.kids.length := by omega
   have hs1 := VL (n := n) ht;have hd1 := Vq (n := n) ht;have hts : Jl n t <= 1073741824 := by omega
   have HC := Lib.hid hC;have Hnx := Lib.hid (Ql (Jl n) d.kids k t ht);clear hcs hcell hA hC;obtain ⟨x, hx⟩ : ∃ x : Nat, x = 1 + QZ (Jl n) (d.kids.take k) := ⟨_, rfl⟩
   have hxb : x <= 1073741824 := by omega
   rw [<- hx];have HX := Lib.hid hx;obtain ⟨y, hy⟩ : ∃ y : Nat, y = Jl n t := ⟨_, rfl⟩
   have hyb : y + x <= 2147483648 := by have := QM n t; omega
   have HY := Lib.hid hy;clear hx hy hs1 hd1;go_wp2_with (go_at_call 58; refine (ih t _ _ _ (HC.out.now Jj) hts).mono ?_; rintro e w9 ⟨rfl, hb9⟩; rw [<- HY.out])
   go_roundw
   case rel => exact ⟨k + 1, by omega, by go_num, by (have h1 := Hnx.out; have h2 := HX.out; have h3 := HY.out; go_num), (hb9.block _ (by first | omega | (simp; omega))).trans HT.out, Jj⟩
   case measure => simp [intOf]; omega
  obtain rfl : k = d.kids.length := by omega
  have Hf := Lib.hid (show Jl (n + 1) d = 1 + QZ (Jl n) (d.kids.take d.kids.length) by rw [JJ, List.take_of_length_le (Nat.le_refl _)]);obtain ⟨x, hx⟩ : ∃ x : Nat, x = 1 + QZ (Jl n) (d.kids.take d.kids.length) := ⟨_, rfl⟩
  rw [<- hx] at Hf;rw [<- hx];have hxb : x <= 1073741824 := by have := Hf.out; omega
  clear hA hx;go_wp2_with fail
  go_ret
  exact ⟨by rw [Hf.out]; rfl, Jj⟩
theorem Jc1 : ∀ n, Jed n
 | 0 => fun _ _ _ _ h _ => (C_Tree.none h).elim
 | n + 1 => JjZ n (Jc1 n)
def QG (n : Nat) (p : Nat -> Bool) : Bool := (List.range n).all p
theorem Vc (n : Nat) (p : Nat -> Bool) : QG (n + 1) p = (QG n p && p n) := by
 unfold QG; rw [List.range_succ, List.all_append]; simp
theorem ZI (n k : Nat) (p : Nat -> Bool) (hk : k < n) (h : p k = false) : QG n p = false := by
 unfold QG; rw [List.all_eq_false]; exact ⟨k, by simpa using hk, by simp [h]⟩
def Jby {D : Type} (eq : D -> D -> Bool) (l m : List D) (i : Nat) : Bool := match l[i]?, m[i]? with | some a, some b => eq a b | _, _ => true
theorem JdX {D : Type} (eq : D -> D -> Bool) (l m : List D) (i : Nat) (a b : D) (ha : l[i]? = some a) (hb : m[i]? = some b) : Jby eq l m i = eq a b := by unfold Jby; rw [ha, hb]
def eqL {D : Type} (eq : D -> D -> Bool) (l m : List D) : Bool := decide (l.length = m.length) && QG l.length (Jby eq l m)
theorem Jhd {D : Type} (eq : D -> D -> Bool) (l m : List D) (h : l.length ≠ m.length) : eqL eq l m = false := by unfold eqL; simp [h]
theorem Jhk {D : Type} (eq : D -> D -> Bool) (l m : List D) (k : Nat) (hk : k < l.length) (h : Jby eq l m k = false) : eqL eq l m = false := by unfold eqL; rw [ZI _ k _ hk h, Bool.and_false]
theorem Jd2 {D : Type} (eq : D -> D -> Bool) (l m : List D) (h : l.length = m.length) (ha : QG l.length (Jby eq l m) = true) : eqL eq l m = true := by unfold eqL; rw [ha]; simp [h]
def U8 (d d' : ByteArray) : Bool := (d.toList == d'.toList)
def Qs (s : ByteArray) : Bool := decide (s.size <= 400) && Qt s
def Va (d : TreeD) : Bool := !Q6 d.kind 1 6 || (d.flag && d.kind != 2) || (d.num != 0 && d.kind != 3) || (!d.text.toList.isEmpty && d.kind != 4) || (decide (0 < d.keys.length) && d.kind != 6) || (decide (0 < d.kids.length) && decide (d.kind < 5))
def Q3 (ks : List ByteArray) (i : Nat) : Bool := match ks[i]? with
 | none => true
 | some k => Qs k && (match i with
  | 0 => true
  | j + 1 => match ks[j]? with
   | none => true
   | some p => JU p k)
def JQ (d : TreeD) : Bool := !(d.kind == 6 && decide (d.keys.length ≠ d.kids.length))
def Y1 (f : TreeD -> Bool) (l : List TreeD) (i : Nat) : Bool := match l[i]? with | none => true | some t => f t
def Ju : Nat -> TreeD -> Bool
 | 0, _ => false
 | n + 1, d => !Va d && Qs d.text && JQ d && QG d.keys.length (Q3 d.keys) && QG d.kids.length (Y1 (Ju n) d.kids)
theorem Zn (n : Nat) (d : TreeD) : Ju (n + 1) d = (!Va d && Qs d.text && JQ d && QG d.keys.length (Q3 d.keys) && QG d.kids.length (Y1 (Ju n) d.kids)) := rfl
theorem Jbj {ks : List ByteArray} {i : Nat} {k : ByteArray} (h : ks[i]? = some k) (hs : Qs k = false) : Q3 ks i = false := by unfold Q3; rw [h]; simp only; rw [hs]; rfl
theorem WK {ks : List ByteArray} {k : ByteArray} (h : ks[0]? = some k) : Q3 ks 0 = Qs k := by unfold Q3; rw [h]; simp only; rw [Bool.and_true]
theorem Ue {ks : List ByteArray} {j : Nat} {p k : ByteArray} (h : ks[j + 1]? = some k) (hp : ks[j]? = some p) : Q3 ks (j + 1) = (Qs k && JU p k) := by unfold Q3; rw [h]; simp only; rw [hp]
theorem Xf {f : TreeD -> Bool} {l : List TreeD} {i : Nat} {t : TreeD} (h : l[i]? = some t) : Y1 f l i = f t := by unfold Y1; rw [h]
theorem QP (s : ByteArray) (w : World) (hT : Tabs w) (hs : s.size <= 9223372036854775807) :
  Calls Tryz.prog 215 #[.string s] w fun e w' => e = .returned (.bool (Qs s)) /\ Below w.heap.size w w' := by
 by_cases h : s.size <= 400
 ·have Hf := Lib.hid (show Qs s = Qt s by unfold Qs; rw [JmG h, Bool.true_and])
  have d1 : decide ((s.size : Int) <= 400) = true := JmG (by omega);have HC := Lib.hid (fun (w' : World) (hb : Below w.heap.size w w') => ZB s w' hs (hT.below hb));clear h hT;go_enter Tryz.func215, Tryz.ntmps215
  go_wp2_with (go_at_call 222; refine (HC.out _ Jj).mono ?_; rintro e w1 ⟨rfl, hb⟩; (first | (have hcu2 := Cum.join hcu hb; (try clear hcu); (try clear hc); (try clear hfz); (try clear hsz); (try clear hs0); (try clear hs1); (try clear hs2); (try clear hs3); (try clear hs4); ) | have hcu2 := Cum.mk hb); have hcu := hcu2; clear hcu2; obtain ⟨hc, hfz⟩ := JE hcu.h; have hsz := hcu.h.size; (try simp at hsz); (try have hs0 := Jd hsz); (try (have hs1 := Jc hsz; (try (have hs2 := Jc hs1; (try (have hs3 := Jc hs2; (try have hs4 := Jc hs3))))))))
  go_ret
  exact ⟨JB Hf.out.symm, Jj⟩
 have Hf := Lib.hid (show Qs s = false by unfold Qs; rw [JmF h, Bool.false_and]);have d1 : decide ((s.size : Int) <= 400) = false := JmF (by omega);clear h hT;go_enter Tryz.func215, Tryz.ntmps215
 go_wp2_with fail
 go_ret
 exact ⟨JB Hf.out.symm, Jj⟩
theorem VM (s : ByteArray) (w : World) :
  Calls Tryz.prog 116 #[.string s] w fun e w' => e = .returned (.bool (Qs s)) /\ Below w.heap.size w w' := by
 by_cases h : s.size <= 400
 ·have Hf := Lib.hid (show Qs s = Qt s by unfold Qs; rw [JmG h, Bool.true_and])
  have d1 : decide ((s.size : Int) <= 400) = true := JmG (by omega);have HC := Lib.hid (fun (w' : World) => WB s w' (by omega));clear h;go_enter Tryz.func116, Tryz.ntmps116
  go_wp2_with (go_at_call 195; refine (HC.out _).mono ?_; rintro e w1 ⟨rfl, hb⟩; (first | (have hcu2 := Cum.join hcu hb; (try clear hcu); (try clear hc); (try clear hfz); (try clear hsz); (try clear hs0); (try clear hs1); (try clear hs2); (try clear hs3); (try clear hs4); ) | have hcu2 := Cum.mk hb); have hcu := hcu2; clear hcu2; obtain ⟨hc, hfz⟩ := JE hcu.h; have hsz := hcu.h.size; (try simp at hsz); (try have hs0 := Jd hsz); (try (have hs1 := Jc hsz; (try (have hs2 := Jc hs1; (try (have hs3 := Jc hs2; (try have hs4 := Jc hs3))))))))
  go_ret
  exact ⟨JB Hf.out.symm, Jj⟩
 have Hf := Lib.hid (show Qs s = false by unfold Qs; rw [JmF h, Bool.false_and]);have d1 : decide ((s.size : Int) <= 400) = false := JmF (by omega);clear h;go_enter Tryz.func116, Tryz.ntmps116
 go_wp2_with fail
 go_ret
 exact ⟨JB Hf.out.symm, Jj⟩
def Jgc (n : Nat) : Prop := ∀ (d : TreeD) (cs : List Value) (w : World) (lo : Nat), C_Tree n lo w.heap.size w d cs -> Tabs w ->
  Calls Tryz.prog 152 #[.agg cs.toArray] w fun e w' => e = .returned (.bool (Ju n d)) /\ Below w.heap.size w w'
theorem Jlw (n : Nat) (ih : Jgc n) : Jgc (n + 1) := by
 intro d cs w lo h hTab;have HT0 := Lib.hid hTab;clear hTab;obtain ⟨v4, v5, rfl, a0, a2, a3, a4, a5⟩ := C_Tree.out h;obtain ⟨A4, c4, rfl, hlk, hck, hK⟩ := a4;obtain ⟨A5, c5, rfl, hlc, hcc, hA⟩ := a5;have Hf := Lib.hid (Zn n d);clear h;obtain ⟨dk, df, dn, dt, dks, dkd⟩ := d;simp only at a0 a2 a3 hlk hK hlc hA ⊢;obtain ⟨z, hz⟩ : ∃ z, z = Ju (n + 1) ⟨dk, df, dn, dt, dks, dkd⟩ := ⟨_, rfl⟩
 rw [<- hz] at Hf ⊢;simp only at Hf;clear hz;obtain ⟨W0, hW0⟩ : ∃ W, W = w.alloc (.cells #[.int .i64 dk, .bool df, .int .i64 dn, .string dt, .slice A4 dks.length c4, .slice A5 dkd.length c5] 34) := ⟨_, rfl⟩
 have hB0 : Below w.heap.size w W0 := by rw [hW0]; exact Jj
 have HR0 := Lib.hid (show W0.heap[w.heap.size]? = some (.cells #[.int .i64 dk, .bool df, .int .i64 dn, .string dt, .slice A4 dks.length c4, .slice A5 dkd.length c5] 34 (0, 0)) by rw [hW0]; exact Je rfl);have HW0 := Lib.hid hW0;clear hW0;go_enter Tryz.func152, Tryz.ntmps152
 go_upto_region 1 with fail
 go_cut [61] from 7 to 61 (fun s61 wx => s61 = .bool (Va ⟨dk, df, dn, dt, dks, dkd⟩) /\ wx = w.alloc (.cells #[.int .i64 dk, .bool df, .int .i64 dn, .string dt, .slice A4 dks.length c4, .slice A5 dkd.length c5] 34))
 case first =>
  clear Hf hK hA HR0 HW0 hB0;go_wp2_with (go_at_call 63; refine (JW _ _ _ _).mono ?_; rintro e w1 ⟨rfl, rfl⟩)
  all_goals
   (try simp only [Bool.not_eq_true] at *)
   (try subst_vars)
   go_meet
   refine ⟨?_, rfl⟩;congr 1
  all_goals (unfold Va; simp_all; done)
 case rest =>
 obtain ⟨rfl, rfl⟩ := hcut;rw [<- HW0.out];obtain ⟨q1, hq1⟩ : ∃ q, q = Va ⟨dk, df, dn, dt, dks, dkd⟩ := ⟨_, rfl⟩
 rw [<- hq1] at Hf ⊢;clear hq1;rcases q1 with _ | _
 rotate_left
 ·have HX := Lib.hid (show z = false by rw [Hf.out]; rfl)
  go_wp2_with fail
  go_ret
  exact ⟨JB HX.out.symm, Jj⟩
 obtain ⟨x0, x1, x2, x3, x4, x5, xf⟩ := Jf HR0.out;have l0 := Ja HR0.out;go_upto_region 3 with fail
 go_cut [79] from 62 to 79 (fun s79 wx => s79 = .bool (!(Qs dt && JQ ⟨dk, df, dn, dt, dks, dkd⟩)) /\ Below W0.heap.size W0 wx)
 case first =>
  clear Hf hK hA;rcases hst : Qs dt with _ | _
  ·go_wp2_with (go_at_call 215; refine (QP _ _ (HT0.out.below hB0) (by omega)).mono ?_; rintro e w9 ⟨rfl, hb9⟩)
   go_meet
   exact ⟨by rw [hst]; rfl, hb9⟩
  by_cases hk6 : dk = 6
  ·by_cases hln : dks.length = dkd.length
   focus
    have d1 : (dk == 6) = true := by simp [hk6]
    have d2 : ((dks.length : Int) != dkd.length) = false := by simp [hln]
    have HV := Lib.hid (show JQ ⟨dk, df, dn, dt, dks, dkd⟩ = true by unfold JQ; simp [hk6, hln])
   rotate_left
   focus
    have d1 : (dk == 6) = true := by simp [hk6]
    have d2 : ((dks.length : Int) != dkd.length) = true := bne_iff_ne.2 (by omega);have HV := Lib.hid (show JQ ⟨dk, df, dn, dt, dks, dkd⟩ = false by unfold JQ; simp [hk6, hln])
   rotate_left
   all_goals
    clear hk6 hln;go_wp2_with (go_at_call 215; refine (QP _ _ (HT0.out.below hB0) (by omega)).mono ?_; rintro e w9 ⟨rfl, hb9⟩; obtain ⟨m0, m1, m2, m3, m4, m5, mf⟩ := Jf ((hb9.block _ l0).trans HR0.out); have lm := Nat.lt_of_lt_of_le l0 hb9.size)
    go_meet
    exact ⟨by rw [hst, HV.out]; rfl, hb9⟩
  have d1 : (dk == 6) = false := JmH hk6;have HV := Lib.hid (show JQ ⟨dk, df, dn, dt, dks, dkd⟩ = true by unfold JQ; simp [hk6]);clear hk6;go_wp2_with (go_at_call 215; refine (QP _ _ (HT0.out.below hB0) (by omega)).mono ?_; rintro e w9 ⟨rfl, hb9⟩; obtain ⟨m0, m1, m2, m3, m4, m5, mf⟩ := Jf ((hb9.block _ l0).trans HR0.out); have lm := Nat.lt_of_lt_of_le l0 hb9.size)
  go_meet
  exact ⟨by rw [hst, HV.out]; rfl, hb9⟩
 case rest =>
 obtain ⟨rfl, hb1⟩ := hcut;have HR1 := Lib.hid ((hb1.block _ l0).trans HR0.out);have hB1 := hB0.trans (hb1.mono hB0.size);have hE := Lib.hid (show z = (Qs dt && JQ ⟨dk, df, dn, dt, dks, dkd⟩ && QG dks.length (Q3 dks) && QG dkd.length (Y1 (Ju n) dkd)) by rw [Hf.out]; rfl);obtain ⟨q2, hq2⟩ : ∃ q, q = (Qs dt && JQ ⟨dk, df, dn, dt, dks, dkd⟩) := ⟨_, rfl⟩
 rw [<- hq2] at hE ⊢;clear hq2 Hf HR0 HW0 hB0 hb1 x0 x1 x2 x3 x4 x5 xf l0;rcases q2 with _ | _
 ·have HX := Lib.hid (show z = false by rw [hE.out]; rfl)
  go_wp2_with fail
  go_ret
  exact ⟨JB HX.out.symm, Jj⟩
 obtain ⟨x0, x1, x2, x3, x4, x5, xf⟩ := Jf HR1.out;have l0 := Ja HR1.out;go_wp2_with fail
 go_loopw [83] (fun v wr => ∃ k : Nat, k <= dks.length /\ v = .int .i64 k /\ QG k (Q3 dks) = true /\ wr.heap[w.heap.size]? = some (.cells #[.int .i64 dk, .bool df, .int .i64 dn, .string dt, .slice A4 dks.length c4, .slice A5 dkd.length c5] 34 (0, 0)) /\ Below w.heap.size w wr) (fun v _ => dks.length - (intOf v).toNat)
 case atStart => exact ⟨0, Nat.zero_le _, rfl, rfl, HR1.out, hB1⟩
 case round =>
  clear x0 x1 x2 x3 x4 x5 xf l0 HR1 hB1;obtain ⟨k, hk, rfl, hall, hT, hbr⟩ := hrel;have HT := Lib.hid hT;have Hall := Lib.hid hall;clear hT hall;obtain ⟨x0, x1, x2, x3, x4, x5, xf⟩ := Jf HT.out;have l0 := Ja HT.out;by_cases hlt : k < dks.length
  ·obtain ⟨p, o, rfl, -, hbl, hcell⟩ := hK (by omega)
   obtain ⟨s, hs⟩ := Jg hlt;obtain ⟨es, -, hcs, rfl, hss⟩ := hcell k s hs;have hc0 := (hbr.cell (p := ⟨p, o + k * 1 + 0, none⟩) hbl).trans (hcs 0 (by omega));simp at hc0;have hbr1 := Nat.lt_of_lt_of_le hbl hbr.size;have hk0 : (0 : Int) <= k := by omega
   have hk1 : (k : Int) < dks.length := by omega
   have HS := Lib.hid hs;have HCl := Lib.hid hcell;clear hcs hcell hs hK hA;go_upto_region 8 with fail
   go_cut [104] from 88 to 104 (fun s wx => s = .bool (!Q3 dks k) /\ Below wr.heap.size wr wx)
   case first =>
    rcases hst : Qs s with _ | _
    ·have HV := Lib.hid (Jbj HS.out hst)
     go_wp2_with (go_at_call 215; refine (QP _ _ (HT0.out.below hbr) (by omega)).mono ?_; rintro e w9 ⟨rfl, hb9⟩)
     go_meet
     exact ⟨by rw [HV.out]; rfl, hb9⟩
    rcases k with _ | j
    ·have HV := Lib.hid ((WK HS.out).trans hst)
     go_wp2_with (go_at_call 215; refine (QP _ _ (HT0.out.below hbr) (by omega)).mono ?_; rintro e w9 ⟨rfl, hb9⟩)
     go_meet
     exact ⟨by rw [HV.out]; rfl, hb9⟩
    obtain ⟨r, hr⟩ := Jg (show j < dks.length by omega);obtain ⟨es, -, hcs, rfl, hrs⟩ := HCl.out j r hr;have hd0 := (hbr.cell (p := ⟨p, o + j * 1 + 0, none⟩) hbl).trans (hcs 0 (by omega));simp at hd0;have hj0 : (0 : Int) < ((j + 1 : Nat) : Int) := by omega
    obtain ⟨y, hy⟩ : ∃ y : Nat, y = j + 1 := ⟨_, rfl⟩
    have HV := Lib.hid ((Ue HS.out hr).trans (by rw [hst, Bool.true_and]));have HY := Lib.hid hy;have hji : (y : Int) - 1 = (j : Int) := by omega
    have hj1 : (0 : Int) <= j := by omega
    have hj2 : (j : Int) < dks.length := by omega
    rw [<- hy] at hc0 hk0 hk1 hj0 HV ⊢;clear hcs hr hy hk hlt;rcases hls : JU r s with _ | _
    focus
     have g1 : Op.bytesLess r.toList s.toList = false := hls
    rotate_left
    focus
     have g1 : Op.bytesLess r.toList s.toList = true := hls
    rotate_left
    all_goals
     have HV2 := Lib.hid (HV.out.trans hls);clear hls HV;go_wp2_with (go_at_call 215; refine (QP _ _ (HT0.out.below hbr) (by omega)).mono ?_; rintro e w9 ⟨rfl, hb9⟩; obtain ⟨m0, m1, m2, m3, m4, m5, mf⟩ := Jf ((hb9.block _ l0).trans HT.out); have lm := Nat.lt_of_lt_of_le l0 hb9.size; have e0 := (hb9.cell (p := ⟨p, o + j, none⟩) hbr1).trans hd0; have le := Nat.lt_of_lt_of_le hbr1 hb9.size)
     all_goals
      have hy := HY.out;subst hy;go_meet
      exact ⟨by rw [HV2.out]; simp_all, hb9⟩
   case rest =>
    obtain ⟨rfl, hb9⟩ := hcut;have HT9 := Lib.hid ((hb9.block _ l0).trans HT.out);have hbr9 := hbr.trans (hb9.mono hbr.size);obtain ⟨q3, hq3⟩ : ∃ q, q = Q3 dks k := ⟨_, rfl⟩
    rw [<- hq3];rcases q3 with _ | _
    ·have HX := Lib.hid (show z = false by rw [hE.out, ZI _ k _ hlt hq3.symm]; rfl)
     clear hE hq3;go_wp2_with fail
     go_ret
     exact ⟨JB HX.out.symm, Jj⟩
    have Hn := Lib.hid (show QG (k + 1) (Q3 dks) = true by rw [Vc, Hall.out, <- hq3]; rfl);clear hq3 hbr hb9 hc0 x0 x1 x2 x3 x4 x5 xf;go_wp2_with fail
    go_roundw
    case rel => exact ⟨k + 1, by omega, by go_num, Hn.out, HT9.out, hbr9⟩
    case measure => simp [intOf]; omega
  obtain rfl : k = dks.length := by omega
  have hE2 := Lib.hid (show z = QG dkd.length (Y1 (Ju n) dkd) by rw [hE.out, Hall.out]; rfl);have hke : decide (dks.length < dks.length) = false := JmF (Nat.lt_irrefl _);clear hK hE Hall;go_wp2_with fail
  go_loopw [109] (fun v wr => ∃ k : Nat, k <= dkd.length /\ v = .int .i64 k /\ QG k (Y1 (Ju n) dkd) = true /\ Below w.heap.size w wr) (fun v _ => dkd.length - (intOf v).toNat)
  case atStart => exact ⟨0, Nat.zero_le _, rfl, rfl, hbr⟩
  case round =>
   have hb0 := hbr;clear hbr hb0 HT x0 x1 x2 x3 x4 x5 xf l0;obtain ⟨k, hk, rfl, hall, hbr⟩ := hrel;have Hall := Lib.hid hall;clear hall;by_cases hlt : k < dkd.length
   ·obtain ⟨p, o, rfl, -, hbl, hcell⟩ := hA (by omega)
    obtain ⟨t, ht⟩ := Jg hlt;obtain ⟨es, -, hcs, hC⟩ := hcell k t ht;obtain ⟨eA4, ec4, eA5, ec5, rfl, ea0, ea2, ea3⟩ := hC.flat;have hc0 := (hbr.cell (p := ⟨p, o + k * 6 + 0, none⟩) (by simp; omega)).trans (hcs 0 (by omega));simp at hc0;have hc1 := (hbr.cell (p := ⟨p, o + k * 6 + 1, none⟩) (by simp; omega)).trans (hcs 1 (by omega));simp at hc1;have hc2 := (hbr.cell (p := ⟨p, o + k * 6 + 2, none⟩) (by simp; omega)).trans (hcs 2 (by omega))
    simp at hc2;have hc3 := (hbr.cell (p := ⟨p, o + k * 6 + 3, none⟩) (by simp; omega)).trans (hcs 3 (by omega));simp at hc3;have hc4 := (hbr.cell (p := ⟨p, o + k * 6 + 4, none⟩) (by simp; omega)).trans (hcs 4 (by omega));simp at hc4;have hc5 := (hbr.cell (p := ⟨p, o + k * 6 + 5, none⟩) (by simp; omega)).trans (hcs 5 (by omega));simp at hc5;have hbr1 := Nat.lt_of_lt_of_le hbl hbr.size;have hk0 : (0 : Int) <= k := by omega
    have hk1 : (k : Int) < dkd.length := by omega
    have HC := Lib.hid hC;have HKi := Lib.hid (Xf (f := Ju n) ht);clear hcs hcell hA hC ht;rcases q0 : Ju n t with _ | _
    ·have HX := Lib.hid (show z = false by rw [hE2.out]; exact ZI _ k _ hlt (by rw [HKi.out, q0]))
     go_wp2_with (go_at_call 152; refine (ih t _ _ _ (HC.out.now Jj) (HT0.out.below Jj)).mono ?_; rintro e w9 ⟨rfl, hb9⟩)
     go_ret
     exact ⟨JB HX.out.symm, Jj⟩
    have Hn := Lib.hid (show QG (k + 1) (Y1 (Ju n) dkd) = true by rw [Vc, Hall.out, HKi.out, q0]; rfl);go_wp2_with (go_at_call 152; refine (ih t _ _ _ (HC.out.now Jj) (HT0.out.below Jj)).mono ?_; rintro e w9 ⟨rfl, hb9⟩)
    go_roundw
    case rel => ((repeat apply Exists.intro); exact ⟨⟨k + 1, by omega, by go_num, Hn.out, Jj⟩, rfl⟩)
    case measure => simp [intOf]; omega
   obtain rfl : k = dkd.length := by omega
   have HX := Lib.hid (show z = true by rw [hE2.out]; exact Hall.out);clear hA;go_wp2_with fail
   go_ret
   exact ⟨JB HX.out.symm, Jj⟩
theorem Jfx : ∀ n, Jgc n
 | 0 => fun _ _ _ _ h _ => (C_Tree.none h).elim
 | n + 1 => Jlw n (Jfx n)
def Jg8 (n : Nat) : Prop := ∀ (d : TreeD) (cs : List Value) (w : World) (lo : Nat), C_Tree n lo w.heap.size w d cs ->
  Calls Tryz.prog 59 #[.agg cs.toArray] w fun e w' => e = .returned (.bool (Ju n d)) /\ Below w.heap.size w w'
theorem Jlt (n : Nat) (ih : Jg8 n) : Jg8 (n + 1) := by
 intro d cs w lo h;obtain ⟨v4, v5, rfl, a0, a2, a3, a4, a5⟩ := C_Tree.out h;obtain ⟨A4, c4, rfl, hlk, hck, hK⟩ := a4;obtain ⟨A5, c5, rfl, hlc, hcc, hA⟩ := a5;have Hf := Lib.hid (Zn n d);clear h;obtain ⟨dk, df, dn, dt, dks, dkd⟩ := d;simp only at a0 a2 a3 hlk hK hlc hA ⊢;obtain ⟨z, hz⟩ : ∃ z, z = Ju (n + 1) ⟨dk, df, dn, dt, dks, dkd⟩ := ⟨_, rfl⟩
 rw [<- hz] at Hf ⊢;simp only at Hf;clear hz;obtain ⟨W0, hW0⟩ : ∃ W, W = w.alloc (.cells #[.int .i64 dk, .bool df, .int .i64 dn, .string dt, .slice A4 dks.length c4, .slice A5 dkd.length c5] 34) := ⟨_, rfl⟩
 have hB0 : Below w.heap.size w W0 := by rw [hW0]; exact Jj
 have HR0 := Lib.hid (show W0.heap[w.heap.size]? = some (.cells #[.int .i64 dk, .bool df, .int .i64 dn, .string dt, .slice A4 dks.length c4, .slice A5 dkd.length c5] 34 (0, 0)) by rw [hW0]; exact Je rfl);have HW0 := Lib.hid hW0;clear hW0;go_enter Tryz.func59, Tryz.ntmps59
 go_upto_region 1 with fail
 obtain ⟨x0, x1, x2, x3, x4, x5, xf⟩ := Jf HR0.out;have l0 := Ja HR0.out;go_cut [65] from 5 to 65 (fun s65 wx => s65 = .bool (!(!Va ⟨dk, df, dn, dt, dks, dkd⟩ && Qs dt)) /\ Below W0.heap.size W0 wx)
 case first =>
  rw [<- HW0.out];clear Hf hK hA HW0;have hbb : Below W0.heap.size W0 W0 := Below.refl _ _;go_wp2_with (first | (go_at_call 115; refine (Jo _ _ _ _).mono ?_; rintro e w1 ⟨rfl, rfl⟩) | (go_at_call 116; refine (VM _ _).mono ?_; rintro e w9 ⟨rfl, hb9⟩))
  all_goals
   (try simp only [Bool.not_eq_true] at *)
   (try subst_vars)
   go_meet
   refine ⟨?_, by first | exact hb9 | exact Below.refl _ _⟩;congr 1
  all_goals (unfold Va; simp_all; done)
 case rest =>
 obtain ⟨rfl, hb1⟩ := hcut;have HR1 := Lib.hid ((hb1.block _ l0).trans HR0.out);have hB1 := hB0.trans (hb1.mono hB0.size);obtain ⟨q1, hq1⟩ : ∃ q, q = (!Va ⟨dk, df, dn, dt, dks, dkd⟩ && Qs dt) := ⟨_, rfl⟩
 have hE0 := Lib.hid (show z = ((!Va ⟨dk, df, dn, dt, dks, dkd⟩ && Qs dt) && JQ ⟨dk, df, dn, dt, dks, dkd⟩ && QG dks.length (Q3 dks) && QG dkd.length (Y1 (Ju n) dkd)) from Hf.out);rw [<- hq1] at hE0 ⊢;clear hq1 Hf HR0 HW0 hB0 hb1 x0 x1 x2 x3 x4 x5 xf l0;rcases q1 with _ | _
 ·have HX := Lib.hid (show z = false by rw [hE0.out]; rfl)
  go_wp2_with fail
  go_ret
  exact ⟨JB HX.out.symm, Jj⟩
 obtain ⟨x0, x1, x2, x3, x4, x5, xf⟩ := Jf HR1.out;have l0 := Ja HR1.out;have hE1 := Lib.hid (show z = (JQ ⟨dk, df, dn, dt, dks, dkd⟩ && QG dks.length (Q3 dks) && QG dkd.length (Y1 (Ju n) dkd)) by rw [hE0.out]; rfl);clear hE0;go_upto_region 3 with fail
 go_cut [77] from 66 to 77 (fun s77 wx => s77 = .bool (!JQ ⟨dk, df, dn, dt, dks, dkd⟩) /\ wx = wc)
 case first =>
  clear hE1 hK hA;by_cases hk6 : dk = 6
  ·by_cases hln : dks.length = dkd.length
   focus
    have d1 : (dk == 6) = true := by simp [hk6]
    have d2 : ((dks.length : Int) != dkd.length) = false := by simp [hln]
    have HV := Lib.hid (show JQ ⟨dk, df, dn, dt, dks, dkd⟩ = true by unfold JQ; simp [hk6, hln])
   rotate_left
   focus
    have d1 : (dk == 6) = true := by simp [hk6]
    have d2 : ((dks.length : Int) != dkd.length) = true := bne_iff_ne.2 (by omega);have HV := Lib.hid (show JQ ⟨dk, df, dn, dt, dks, dkd⟩ = false by unfold JQ; simp [hk6, hln])
   rotate_left
   all_goals
    clear hk6 hln;go_wp2_with fail
    go_meet
    exact ⟨by rw [HV.out]; rfl, rfl⟩
  have d1 : (dk == 6) = false := JmH hk6;have HV := Lib.hid (show JQ ⟨dk, df, dn, dt, dks, dkd⟩ = true by unfold JQ; simp [hk6]);clear hk6;go_wp2_with fail
  go_meet
  exact ⟨by rw [HV.out]; rfl, rfl⟩
 case rest =>
 obtain ⟨rfl, hwc⟩ := hcut;subst hwc;obtain ⟨q2, hq2⟩ : ∃ q, q = JQ ⟨dk, df, dn, dt, dks, dkd⟩ := ⟨_, rfl⟩
 rw [<- hq2] at hE1 ⊢;clear hq2;rcases q2 with _ | _
 ·have HX := Lib.hid (show z = false by rw [hE1.out]; rfl)
  go_wp2_with fail
  go_ret
  exact ⟨JB HX.out.symm, Jj⟩
 have hE := Lib.hid (show z = (QG dks.length (Q3 dks) && QG dkd.length (Y1 (Ju n) dkd)) by rw [hE1.out]; rfl);clear hE1;go_wp2_with fail
 go_loopw [3] (fun v wr => ∃ k : Nat, k <= dks.length /\ v = .int .i64 k /\ QG k (Q3 dks) = true /\ wr.heap[w.heap.size]? = some (.cells #[.int .i64 dk, .bool df, .int .i64 dn, .string dt, .slice A4 dks.length c4, .slice A5 dkd.length c5] 34 (0, 0)) /\ Below w.heap.size w wr) (fun v _ => dks.length - (intOf v).toNat)
 case atStart => exact ⟨0, Nat.zero_le _, rfl, rfl, HR1.out, hB1⟩
 case round =>
  clear x0 x1 x2 x3 x4 x5 xf l0 HR1 hB1;obtain ⟨k, hk, rfl, hall, hT, hbr⟩ := hrel;have HT := Lib.hid hT;have Hall := Lib.hid hall;clear hT hall;obtain ⟨x0, x1, x2, x3, x4, x5, xf⟩ := Jf HT.out;have l0 := Ja HT.out;by_cases hlt : k < dks.length
  ·obtain ⟨p, o, rfl, -, hbl, hcell⟩ := hK (by omega)
   obtain ⟨s, hs⟩ := Jg hlt;obtain ⟨es, -, hcs, rfl, hss⟩ := hcell k s hs;have hc0 := (hbr.cell (p := ⟨p, o + k * 1 + 0, none⟩) hbl).trans (hcs 0 (by omega));simp at hc0;have hbr1 := Nat.lt_of_lt_of_le hbl hbr.size;have hk0 : (0 : Int) <= k := by omega
   have hk1 : (k : Int) < dks.length := by omega
   have HS := Lib.hid hs;have HCl := Lib.hid hcell;clear hcs hcell hs hK hA;go_upto_region 8 with fail
   go_cut [109] from 85 to 109 (fun s wx => s = .bool (!Q3 dks k) /\ Below wr.heap.size wr wx)
   case first =>
    rcases hst : Qs s with _ | _
    ·have HV := Lib.hid (Jbj HS.out hst)
     refine Jm 25 (by kernel_rfl) (by kernel_rfl) (by decide) ?_
     iterate 25 ((try simp only [Bool.not_true]); apply Exists.intro; refine And.intro ?_ ?_; (focus (intro W hW; (try simp only [Act.put, List.setIfInBounds_toArray, List.set_cons_zero, List.set_cons_succ]); first | (exact wpList_skip rfl ⟨rfl, rfl, Below.refl _ _⟩) | (obtain ⟨hcW, hfW⟩ := JE hW; have hsW := hW.size; (try simp at hsW); (try have hsW0 := Jd hsW); (try (have hsW1 := Jc hsW; (try (have hsW2 := Jc hsW1)))); go_wp2_with (first | (go_at_call 116; refine (VM _ _).mono ?_; rintro e w9 ⟨rfl, hb9⟩)); exact ⟨rfl, rfl, Jj⟩))))
     intro wq hbwq
     (try simp only [Act.put, List.setIfInBounds_toArray, List.set_cons_zero, List.set_cons_succ])
     (try simp only [List.drop_succ_cons, List.drop_nil])
     have hb := hbwq;go_wp2_with fail
     go_meet
     exact ⟨by rw [HV.out]; rfl, hb⟩
    by_cases hk00 : k = 0
    ·have HV := Lib.hid (show Q3 dks k = true by rw [<- hst]; have h := HS.out; subst hk00; exact WK h)
     have d0 : decide (0 < k) = false := JmF (by omega);have dI : decide ((0 : Int) < k) = false := JmF (by omega);clear hk00;refine Jm 25 (by kernel_rfl) (by kernel_rfl) (by decide) ?_
     iterate 25 ((try simp only [Bool.not_true]); apply Exists.intro; refine And.intro ?_ ?_; (focus (intro W hW; (try simp only [Act.put, List.setIfInBounds_toArray, List.set_cons_zero, List.set_cons_succ]); first | (exact wpList_skip rfl ⟨rfl, rfl, Below.refl _ _⟩) | (obtain ⟨hcW, hfW⟩ := JE hW; have hsW := hW.size; (try simp at hsW); (try have hsW0 := Jd hsW); (try (have hsW1 := Jc hsW; (try (have hsW2 := Jc hsW1)))); go_wp2_with (first | (go_at_call 116; refine (VM _ _).mono ?_; rintro e w9 ⟨rfl, hb9⟩)); exact ⟨rfl, rfl, Jj⟩))))
     intro wq hbwq
     (try simp only [Act.put, List.setIfInBounds_toArray, List.set_cons_zero, List.set_cons_succ])
     (try simp only [List.drop_succ_cons, List.drop_nil])
     have hb := hbwq;go_wp2_with fail
     go_meet
     exact ⟨by rw [HV.out]; rfl, hb⟩
    obtain ⟨j, hj⟩ : ∃ j, k = j + 1 := ⟨k - 1, by omega⟩
    obtain ⟨r, hr⟩ := Jg (show j < dks.length by omega);obtain ⟨es, -, hcs, rfl, hrs⟩ := HCl.out j r hr;have hd0 := (hbr.cell (p := ⟨p, o + j * 1 + 0, none⟩) hbl).trans (hcs 0 (by omega));simp at hd0;have d0 : decide (0 < k) = true := JmG (by omega);have dI : decide ((0 : Int) < k) = true := JmG (by omega);have HV := Lib.hid (show Q3 dks k = JU r s by have h := HS.out; subst hj; rw [Ue h hr, hst, Bool.true_and])
    have hji : (k : Int) - 1 = (j : Int) := by omega
    have hj1 : (0 : Int) <= j := by omega
    have hj2 : (j : Int) < dks.length := by omega
    clear hcs hr hk hlt hj hk00;rcases hls : JU r s with _ | _
    focus
     have g1 : Op.bytesLess r.toList s.toList = false := hls
    rotate_left
    focus
     have g1 : Op.bytesLess r.toList s.toList = true := hls
    rotate_left
    all_goals
     have HV2 := Lib.hid (HV.out.trans hls);clear hls HV;refine Jm 25 (by kernel_rfl) (by kernel_rfl) (by decide) ?_
     iterate 25 ((try simp only [Bool.not_true]); apply Exists.intro; refine And.intro ?_ ?_; (focus (intro W hW; (try simp only [Act.put, List.setIfInBounds_toArray, List.set_cons_zero, List.set_cons_succ]); first | (exact wpList_skip rfl ⟨rfl, rfl, Below.refl _ _⟩) | (obtain ⟨hcW, hfW⟩ := JE hW; have hsW := hW.size; (try simp at hsW); (try have hsW0 := Jd hsW); (try (have hsW1 := Jc hsW; (try (have hsW2 := Jc hsW1)))); go_wp2_with (first | (go_at_call 116; refine (VM _ _).mono ?_; rintro e w9 ⟨rfl, hb9⟩)); exact ⟨rfl, rfl, Jj⟩))))
     intro wq hbwq
     (try simp only [Act.put, List.setIfInBounds_toArray, List.set_cons_zero, List.set_cons_succ])
     (try simp only [List.drop_succ_cons, List.drop_nil])
     have hb := hbwq;go_wp2_with fail
     go_meet
     exact ⟨by rw [HV2.out]; simp_all, hb⟩
   case rest =>
    obtain ⟨rfl, hb9⟩ := hcut;have HT9 := Lib.hid ((hb9.block _ l0).trans HT.out);have hbr9 := hbr.trans (hb9.mono hbr.size);obtain ⟨q3, hq3⟩ : ∃ q, q = Q3 dks k := ⟨_, rfl⟩
    rw [<- hq3];rcases q3 with _ | _
    ·have HX := Lib.hid (show z = false by rw [hE.out, ZI _ k _ hlt hq3.symm]; rfl)
     clear hE hq3;go_wp2_with fail
     go_ret
     exact ⟨JB HX.out.symm, Jj⟩
    have Hn := Lib.hid (show QG (k + 1) (Q3 dks) = true by rw [Vc, Hall.out, <- hq3]; rfl);clear hq3 hbr hb9 hc0 x0 x1 x2 x3 x4 x5 xf;go_wp2_with fail
    go_roundw
    case rel => exact ⟨k + 1, by omega, by go_num, Hn.out, HT9.out, hbr9⟩
    case measure => simp [intOf]; omega
  obtain rfl : k = dks.length := by omega
  have hE2 := Lib.hid (show z = QG dkd.length (Y1 (Ju n) dkd) by rw [hE.out, Hall.out]; rfl);have hke : decide (dks.length < dks.length) = false := JmF (Nat.lt_irrefl _);clear hK hE Hall;go_wp2_with fail
  go_loopw [4] (fun v wr => ∃ k : Nat, k <= dkd.length /\ v = .int .i64 k /\ QG k (Y1 (Ju n) dkd) = true /\ wr.heap[w.heap.size]? = some (.cells #[.int .i64 dk, .bool df, .int .i64 dn, .string dt, .slice A4 dks.length c4, .slice A5 dkd.length c5] 34 (0, 0)) /\ Below w.heap.size w wr) (fun v _ => dkd.length - (intOf v).toNat)
  case atStart => exact ⟨0, Nat.zero_le _, rfl, rfl, HT.out, hbr⟩
  case round =>
   have hb0 := hbr;clear hbr hb0 HT x0 x1 x2 x3 x4 x5 xf l0;obtain ⟨k, hk, rfl, hall, hT, hbr⟩ := hrel;have HT := Lib.hid hT;have Hall := Lib.hid hall;clear hall hT;obtain ⟨x0, x1, x2, x3, x4, x5, xf⟩ := Jf HT.out;have l0 := Ja HT.out;by_cases hlt : k < dkd.length
   ·obtain ⟨p, o, rfl, -, hbl, hcell⟩ := hA (by omega)
    obtain ⟨t, ht⟩ := Jg hlt;obtain ⟨es, -, hcs, hC⟩ := hcell k t ht;obtain ⟨eA4, ec4, eA5, ec5, rfl, ea0, ea2, ea3⟩ := hC.flat;have hc0 := (hbr.cell (p := ⟨p, o + k * 6 + 0, none⟩) (by simp; omega)).trans (hcs 0 (by omega));simp at hc0;have hc1 := (hbr.cell (p := ⟨p, o + k * 6 + 1, none⟩) (by simp; omega)).trans (hcs 1 (by omega));simp at hc1;have hc2 := (hbr.cell (p := ⟨p, o + k * 6 + 2, none⟩) (by simp; omega)).trans (hcs 2 (by omega))
    simp at hc2;have hc3 := (hbr.cell (p := ⟨p, o + k * 6 + 3, none⟩) (by simp; omega)).trans (hcs 3 (by omega));simp at hc3;have hc4 := (hbr.cell (p := ⟨p, o + k * 6 + 4, none⟩) (by simp; omega)).trans (hcs 4 (by omega));simp at hc4;have hc5 := (hbr.cell (p := ⟨p, o + k * 6 + 5, none⟩) (by simp; omega)).trans (hcs 5 (by omega));simp at hc5;have hbr1 := Nat.lt_of_lt_of_le hbl hbr.size;have hk0 : (0 : Int) <= k := by omega
    have hk1 : (k : Int) < dkd.length := by omega
    have HC := Lib.hid hC;have HKi := Lib.hid (Xf (f := Ju n) ht);clear hcs hcell hA hC ht;rcases q0 : Ju n t with _ | _
    ·have HX := Lib.hid (show z = false by rw [hE2.out]; exact ZI _ k _ hlt (by rw [HKi.out, q0]))
     go_wp2_with (go_at_call 59; refine (ih t _ _ _ (HC.out.now Jj)).mono ?_; rintro e w9 ⟨rfl, hb9⟩)
     go_ret
     exact ⟨JB HX.out.symm, Jj⟩
    have Hn := Lib.hid (show QG (k + 1) (Y1 (Ju n) dkd) = true by rw [Vc, Hall.out, HKi.out, q0]; rfl);go_wp2_with (go_at_call 59; refine (ih t _ _ _ (HC.out.now Jj)).mono ?_; rintro e w9 ⟨rfl, hb9⟩)
    have HT9 := Lib.hid ((hb9.block _ l0).trans HT.out);go_roundw
    case rel => ((repeat apply Exists.intro); exact ⟨⟨k + 1, by omega, by go_num, Hn.out, HT9.out, Jj⟩, rfl⟩)
    case measure => simp [intOf]; omega
   obtain rfl : k = dkd.length := by omega
   have HX := Lib.hid (show z = true by rw [hE2.out]; exact Hall.out);clear hA;go_wp2_with fail
   go_ret
   exact ⟨JB HX.out.symm, Jj⟩
theorem JfC : ∀ n, Jg8 n
 | 0 => fun _ _ _ _ h => (C_Tree.none h).elim
 | n + 1 => Jlt n (JfC n)
def Uu (n : Nat) (d : TreeD) : Bool := decide (Jw n d <= 8) && decide (Jl n d <= 300) && Ju n d
theorem XG (n : Nat) (d : TreeD) : Uu n d = (decide (Jw n d <= 8) && decide (Jl n d <= 300) && Ju n d) := rfl
theorem Ww (n : Nat) (d : TreeD) (cs : List Value) (w : World) (lo : Nat) (h : C_Tree n lo w.heap.size w d cs) (hz : Jl n d <= 1073741824) (hT : Tabs w) :
  Calls Tryz.prog 81 #[.agg cs.toArray] w fun e w' => e = .returned (.bool (Uu n d)) /\ Below w.heap.size w w' := by
 have Hf := Lib.hid (XG n d);have HD := Lib.hid (fun (w' : World) (hb : Below w.heap.size w w') => Jb1 n d cs w' lo (h.now hb) hz);have HS := Lib.hid (fun (w' : World) (hb : Below w.heap.size w w') => Jdn n d cs w' lo (h.now hb) hz);have HN := Lib.hid (fun (w' : World) (hb : Below w.heap.size w w') => Jfx n d cs w' lo (h.now hb) (hT.below hb));have hds := QM n d;obtain ⟨A4, c4, A5, c5, rfl⟩ := C_Tree.open h
 obtain ⟨x, hx⟩ : ∃ x, x = Jw n d := ⟨_, rfl⟩
 obtain ⟨y, hy⟩ : ∃ y, y = Jl n d := ⟨_, rfl⟩
 obtain ⟨z, hzz⟩ : ∃ z, z = Ju n d := ⟨_, rfl⟩
 rw [<- hx, <- hy, <- hzz] at Hf;rw [<- hx] at HD hds;rw [<- hy] at HS hz hds;rw [<- hzz] at HN;clear h hx hy hzz hT;by_cases h8 : x <= 8
 ·have d8 : decide ((x : Int) <= 8) = true := JmG (by omega)
  by_cases h3 : y <= 300
  ·have d3 : decide ((y : Int) <= 300) = true := JmG (by omega)
   have HX := Lib.hid (show Uu n d = z by rw [Hf.out, JmG h8, JmG h3]; rfl);clear h8 h3;go_enter Tryz.func81, Tryz.ntmps81
   go_wp2_with (first | (go_at_call 150; refine (HD.out _ Jj).mono ?_; rintro e w1 ⟨rfl, hb⟩; (first | (have hcu2 := Cum.join hcu hb; (try clear hcu); (try clear hc); (try clear hfz); (try clear hsz); (try clear hs0); (try clear hs1); (try clear hs2); (try clear hs3); (try clear hs4); ) | have hcu2 := Cum.mk hb); have hcu := hcu2; clear hcu2; obtain ⟨hc, hfz⟩ := JE hcu.h; have hsz := hcu.h.size; (try simp at hsz); (try have hs0 := Jd hsz); (try (have hs1 := Jc hsz; (try (have hs2 := Jc hs1; (try (have hs3 := Jc hs2; (try have hs4 := Jc hs3)))))))) | (go_at_call 151; refine (HS.out _ Jj).mono ?_; rintro e w1 ⟨rfl, hb⟩; (first | (have hcu2 := Cum.join hcu hb; (try clear hcu); (try clear hc); (try clear hfz); (try clear hsz); (try clear hs0); (try clear hs1); (try clear hs2); (try clear hs3); (try clear hs4); ) | have hcu2 := Cum.mk hb); have hcu := hcu2; clear hcu2; obtain ⟨hc, hfz⟩ := JE hcu.h; have hsz := hcu.h.size; (try simp at hsz); (try have hs0 := Jd hsz); (try (have hs1 := Jc hsz; (try (have hs2 := Jc hs1; (try (have hs3 := Jc hs2; (try have hs4 := Jc hs3)))))))) | (go_at_call 152; refine (HN.out _ Jj).mono ?_; rintro e w1 ⟨rfl, hb⟩; (first | (have hcu2 := Cum.join hcu hb; (try clear hcu); (try clear hc); (try clear hfz); (try clear hsz); (try clear hs0); (try clear hs1); (try clear hs2); (try clear hs3); (try clear hs4); ) | have hcu2 := Cum.mk hb); have hcu := hcu2; clear hcu2; obtain ⟨hc, hfz⟩ := JE hcu.h; have hsz := hcu.h.size; (try simp at hsz); (try have hs0 := Jd hsz); (try (have hs1 := Jc hsz; (try (have hs2 := Jc hs1; (try (have hs3 := Jc hs2; (try have hs4 := Jc hs3)))))))))
   go_ret
   exact ⟨JB HX.out.symm, Jj⟩
  have d3 : decide ((y : Int) <= 300) = false := JmF (by omega);have HX := Lib.hid (show Uu n d = false by rw [Hf.out, JmG h8, JmF h3]; rfl);clear h8 h3;go_enter Tryz.func81, Tryz.ntmps81
  go_wp2_with (first | (go_at_call 150; refine (HD.out _ Jj).mono ?_; rintro e w1 ⟨rfl, hb⟩; (first | (have hcu2 := Cum.join hcu hb; (try clear hcu); (try clear hc); (try clear hfz); (try clear hsz); (try clear hs0); (try clear hs1); (try clear hs2); (try clear hs3); (try clear hs4); ) | have hcu2 := Cum.mk hb); have hcu := hcu2; clear hcu2; obtain ⟨hc, hfz⟩ := JE hcu.h; have hsz := hcu.h.size; (try simp at hsz); (try have hs0 := Jd hsz); (try (have hs1 := Jc hsz; (try (have hs2 := Jc hs1; (try (have hs3 := Jc hs2; (try have hs4 := Jc hs3)))))))) | (go_at_call 151; refine (HS.out _ Jj).mono ?_; rintro e w1 ⟨rfl, hb⟩; (first | (have hcu2 := Cum.join hcu hb; (try clear hcu); (try clear hc); (try clear hfz); (try clear hsz); (try clear hs0); (try clear hs1); (try clear hs2); (try clear hs3); (try clear hs4); ) | have hcu2 := Cum.mk hb); have hcu := hcu2; clear hcu2; obtain ⟨hc, hfz⟩ := JE hcu.h; have hsz := hcu.h.size; (try simp at hsz); (try have hs0 := Jd hsz); (try (have hs1 := Jc hsz; (try (have hs2 := Jc hs1; (try (have hs3 := Jc hs2; (try have hs4 := Jc hs3)))))))))
  go_ret
  exact ⟨JB HX.out.symm, Jj⟩
 have d8 : decide ((x : Int) <= 8) = false := JmF (by omega);have HX := Lib.hid (show Uu n d = false by rw [Hf.out, JmF h8]; rfl);clear h8;go_enter Tryz.func81, Tryz.ntmps81
 go_wp2_with (go_at_call 150; refine (HD.out _ Jj).mono ?_; rintro e w1 ⟨rfl, hb⟩; (first | (have hcu2 := Cum.join hcu hb; (try clear hcu); (try clear hc); (try clear hfz); (try clear hsz); (try clear hs0); (try clear hs1); (try clear hs2); (try clear hs3); (try clear hs4); ) | have hcu2 := Cum.mk hb); have hcu := hcu2; clear hcu2; obtain ⟨hc, hfz⟩ := JE hcu.h; have hsz := hcu.h.size; (try simp at hsz); (try have hs0 := Jd hsz); (try (have hs1 := Jc hsz; (try (have hs2 := Jc hs1; (try (have hs3 := Jc hs2; (try have hs4 := Jc hs3))))))))
 go_ret
 exact ⟨JB HX.out.symm, Jj⟩
theorem Vd (n : Nat) (d : TreeD) (cs : List Value) (w : World) (lo : Nat) (h : C_Tree n lo w.heap.size w d cs) (hz : Jl n d <= 1073741824) :
  Calls Tryz.prog 22 #[.agg cs.toArray] w fun e w' => e = .returned (.bool (Uu n d)) /\ Below w.heap.size w w' := by
 have Hf := Lib.hid (XG n d);have HD := Lib.hid (fun (w' : World) (hb : Below w.heap.size w w') => Ja9 n d cs w' lo (h.now hb) hz);have HS := Lib.hid (fun (w' : World) (hb : Below w.heap.size w w') => Jc1 n d cs w' lo (h.now hb) hz);have HN := Lib.hid (fun (w' : World) (hb : Below w.heap.size w w') => JfC n d cs w' lo (h.now hb));have hds := QM n d;obtain ⟨A4, c4, A5, c5, rfl⟩ := C_Tree.open h
 obtain ⟨x, hx⟩ : ∃ x, x = Jw n d := ⟨_, rfl⟩
 obtain ⟨y, hy⟩ : ∃ y, y = Jl n d := ⟨_, rfl⟩
 obtain ⟨z, hzz⟩ : ∃ z, z = Ju n d := ⟨_, rfl⟩
 rw [<- hx, <- hy, <- hzz] at Hf;rw [<- hx] at HD hds;rw [<- hy] at HS hz hds;rw [<- hzz] at HN;clear h hx hy hzz;by_cases h8 : x <= 8
 ·have d8 : decide ((x : Int) <= 8) = true := JmG (by omega)
  by_cases h3 : y <= 300
  ·have d3 : decide ((y : Int) <= 300) = true := JmG (by omega)
   have HX := Lib.hid (show Uu n d = z by rw [Hf.out, JmG h8, JmG h3]; rfl);clear h8 h3;go_enter Tryz.func22, Tryz.ntmps22
   go_wp2_with (first | (go_at_call 57; refine (HD.out _ Jj).mono ?_; rintro e w1 ⟨rfl, hb⟩; (first | (have hcu2 := Cum.join hcu hb; (try clear hcu); (try clear hc); (try clear hfz); (try clear hsz); (try clear hs0); (try clear hs1); (try clear hs2); (try clear hs3); (try clear hs4); ) | have hcu2 := Cum.mk hb); have hcu := hcu2; clear hcu2; obtain ⟨hc, hfz⟩ := JE hcu.h; have hsz := hcu.h.size; (try simp at hsz); (try have hs0 := Jd hsz); (try (have hs1 := Jc hsz; (try (have hs2 := Jc hs1; (try (have hs3 := Jc hs2; (try have hs4 := Jc hs3)))))))) | (go_at_call 58; refine (HS.out _ Jj).mono ?_; rintro e w1 ⟨rfl, hb⟩; (first | (have hcu2 := Cum.join hcu hb; (try clear hcu); (try clear hc); (try clear hfz); (try clear hsz); (try clear hs0); (try clear hs1); (try clear hs2); (try clear hs3); (try clear hs4); ) | have hcu2 := Cum.mk hb); have hcu := hcu2; clear hcu2; obtain ⟨hc, hfz⟩ := JE hcu.h; have hsz := hcu.h.size; (try simp at hsz); (try have hs0 := Jd hsz); (try (have hs1 := Jc hsz; (try (have hs2 := Jc hs1; (try (have hs3 := Jc hs2; (try have hs4 := Jc hs3)))))))) | (go_at_call 59; refine (HN.out _ Jj).mono ?_; rintro e w1 ⟨rfl, hb⟩; (first | (have hcu2 := Cum.join hcu hb; (try clear hcu); (try clear hc); (try clear hfz); (try clear hsz); (try clear hs0); (try clear hs1); (try clear hs2); (try clear hs3); (try clear hs4); ) | have hcu2 := Cum.mk hb); have hcu := hcu2; clear hcu2; obtain ⟨hc, hfz⟩ := JE hcu.h; have hsz := hcu.h.size; (try simp at hsz); (try have hs0 := Jd hsz); (try (have hs1 := Jc hsz; (try (have hs2 := Jc hs1; (try (have hs3 := Jc hs2; (try have hs4 := Jc hs3)))))))))
   go_ret
   exact ⟨JB HX.out.symm, Jj⟩
  have d3 : decide ((y : Int) <= 300) = false := JmF (by omega);have HX := Lib.hid (show Uu n d = false by rw [Hf.out, JmG h8, JmF h3]; rfl);clear h8 h3;go_enter Tryz.func22, Tryz.ntmps22
  go_wp2_with (first | (go_at_call 57; refine (HD.out _ Jj).mono ?_; rintro e w1 ⟨rfl, hb⟩; (first | (have hcu2 := Cum.join hcu hb; (try clear hcu); (try clear hc); (try clear hfz); (try clear hsz); (try clear hs0); (try clear hs1); (try clear hs2); (try clear hs3); (try clear hs4); ) | have hcu2 := Cum.mk hb); have hcu := hcu2; clear hcu2; obtain ⟨hc, hfz⟩ := JE hcu.h; have hsz := hcu.h.size; (try simp at hsz); (try have hs0 := Jd hsz); (try (have hs1 := Jc hsz; (try (have hs2 := Jc hs1; (try (have hs3 := Jc hs2; (try have hs4 := Jc hs3)))))))) | (go_at_call 58; refine (HS.out _ Jj).mono ?_; rintro e w1 ⟨rfl, hb⟩; (first | (have hcu2 := Cum.join hcu hb; (try clear hcu); (try clear hc); (try clear hfz); (try clear hsz); (try clear hs0); (try clear hs1); (try clear hs2); (try clear hs3); (try clear hs4); ) | have hcu2 := Cum.mk hb); have hcu := hcu2; clear hcu2; obtain ⟨hc, hfz⟩ := JE hcu.h; have hsz := hcu.h.size; (try simp at hsz); (try have hs0 := Jd hsz); (try (have hs1 := Jc hsz; (try (have hs2 := Jc hs1; (try (have hs3 := Jc hs2; (try have hs4 := Jc hs3)))))))))
  go_ret
  exact ⟨JB HX.out.symm, Jj⟩
 have d8 : decide ((x : Int) <= 8) = false := JmF (by omega);have HX := Lib.hid (show Uu n d = false by rw [Hf.out, JmF h8]; rfl);clear h8;go_enter Tryz.func22, Tryz.ntmps22
 go_wp2_with (go_at_call 57; refine (HD.out _ Jj).mono ?_; rintro e w1 ⟨rfl, hb⟩; (first | (have hcu2 := Cum.join hcu hb; (try clear hcu); (try clear hc); (try clear hfz); (try clear hsz); (try clear hs0); (try clear hs1); (try clear hs2); (try clear hs3); (try clear hs4); ) | have hcu2 := Cum.mk hb); have hcu := hcu2; clear hcu2; obtain ⟨hc, hfz⟩ := JE hcu.h; have hsz := hcu.h.size; (try simp at hsz); (try have hs0 := Jd hsz); (try (have hs1 := Jc hsz; (try (have hs2 := Jc hs1; (try (have hs3 := Jc hs2; (try have hs4 := Jc hs3))))))))
 go_ret
 exact ⟨JB HX.out.symm, Jj⟩
open Go.RowKit Go.Lib
def JfS : List UInt8 := [110, 117, 108, 108]
def JeF : List UInt8 := [116, 114, 117, 101]
def JfQ : List UInt8 := [102, 97, 108, 115, 101]
def V6 (pre : Nat -> List UInt8) (f : TreeD -> List UInt8) (l : List TreeD) : Nat -> List UInt8
 | 0 => []
 | k + 1 => V6 pre f l k ++ (match l[k]? with | none => [] | some t => (if k = 0 then [] else [44]) ++ pre k ++ f t)
def JfE (ks : List ByteArray) (i : Nat) : List UInt8 := match ks[i]? with | none => [] | some k => (JN k).data.toList ++ [58]
def VK : Nat -> TreeD -> List UInt8
 | 0, _ => []
 | n + 1, d => if d.kind = 1 then JfS else if d.kind = 2 then (if d.flag then JeF else JfQ) else if d.kind = 3 then (Qv d.num).data.toList else if d.kind = 4 then (JN d.text).data.toList
  else if d.kind = 5 then [91] ++ V6 (fun _ => []) (VK n) d.kids d.kids.length ++ [93] else [123] ++ V6 (JfE d.keys) (VK n) d.kids d.kids.length ++ [125]
theorem V4 (n : Nat) (d : TreeD) : VK (n + 1) d = if d.kind = 1 then JfS else if d.kind = 2 then (if d.flag then JeF else JfQ) else if d.kind = 3 then (Qv d.num).data.toList else if d.kind = 4 then (JN d.text).data.toList
  else if d.kind = 5 then [91] ++ V6 (fun _ => []) (VK n) d.kids d.kids.length ++ [93] else [123] ++ V6 (JfE d.keys) (VK n) d.kids d.kids.length ++ [125] := rfl
theorem WZ {pre : Nat -> List UInt8} {f : TreeD -> List UInt8} {l : List TreeD} {k : Nat} {t : TreeD} (h : l[k]? = some t) : V6 pre f l (k + 1) = V6 pre f l k ++ ((if k = 0 then [] else [44]) ++ pre k ++ f t) := by
 rw [V6, h]
theorem Wb (s : ByteArray) : (JN s).data.toList.length <= 6 * s.size + 2 := by
 unfold JN;split
 ·have h : ∀ l : List UInt8, (l.flatMap qB).length <= 6 * l.length := by
   intro l;induction l with
   | nil => simp
   | cons c l ih =>
    have := JgR c.toNat;rw [List.flatMap_cons, List.length_append, List.length_cons];have h2 : (qB c).length <= 6 := this;omega
  have h1 := h s.data.toList;have e : s.data.toList.length = s.size := Array.length_toList;show (34 :: s.data.toList.flatMap qB ++ [34]).length <= _
  rw [List.length_append, List.length_cons];simp only [List.length_cons, List.length_nil];omega
 show (0 : Nat) <= _
 omega
theorem JZ {n : Nat} {d : TreeD} (h : Ju (n + 1) d = true) : Va d = false /\ Qs d.text = true /\ JQ d = true /\ (∀ i, i < d.keys.length -> Q3 d.keys i = true) /\ ∀ i, i < d.kids.length -> Y1 (Ju n) d.kids i = true := by
 rw [Zn] at h;simp only [Bool.and_eq_true, Bool.not_eq_true'] at h;obtain ⟨⟨⟨⟨h1, h2⟩, h3⟩, h4⟩, h5⟩ := h
 have hall : ∀ {m : Nat} {p : Nat -> Bool}, QG m p = true -> ∀ i, i < m -> p i = true := fun {m p} ha i hi => by
  unfold QG at ha;exact List.all_eq_true.1 ha i (List.mem_range.2 hi)
 exact ⟨h1, h2, h3, hall h4, hall h5⟩
theorem J6 {n k : Nat} {d t : TreeD} (h : Ju (n + 1) d = true) (ht : d.kids[k]? = some t) : Ju n t = true := by
 have := (JZ h).2.2.2.2 k (List.getElem?_eq_some_iff.1 ht).1;rw [Xf ht] at this;exact this
theorem Wl {n k : Nat} {d : TreeD} {s : ByteArray} (h : Ju (n + 1) d = true) (hs : d.keys[k]? = some s) : s.size <= 400 := by
 have := (JZ h).2.2.2.1 k (List.getElem?_eq_some_iff.1 hs).1;unfold Q3 at this;rw [hs] at this;simp only [Bool.and_eq_true] at this;have h2 := this.1;unfold Qs at h2;simp only [Bool.and_eq_true, decide_eq_true_eq] at h2;exact h2.1
theorem Jlo {n : Nat} {d : TreeD} (h : Ju (n + 1) d = true) (i : Nat) : (JfE d.keys i).length <= 2403 := by
 unfold JfE;rcases hs : d.keys[i]? with _ | s
 ·exact Nat.zero_le _
 have h1 := Wb s;have h2 := Wl h hs;simp only [List.length_append, List.length_cons, List.length_nil];omega
theorem Jaj {pre : Nat -> List UInt8} {f : TreeD -> List UInt8} {g : TreeD -> Nat} {l : List TreeD} (hp : ∀ i, (pre i).length <= 2403) (hf : ∀ t ∈ l, (f t).length + 2404 <= 5000 * g t) : ∀ k, k <= l.length -> (V6 pre f l k).length <= 5000 * QZ g (l.take k)
 | 0, _ => Nat.zero_le _
 | k + 1, hk => by
  obtain ⟨t, ht⟩ := Jg (show k < l.length by omega);have h1 := Jaj hp hf k (by omega);have h2 := hf t (List.mem_of_getElem? ht);have h3 := hp k;rw [WZ ht, Ql g l k t ht];have h4 : (if k = 0 then ([] : List UInt8) else [44]).length <= 1 := by split <;> simp
  simp only [List.length_append];omega
def ZS : Nat -> TreeD -> Prop
 | 0, _ => True
 | n + 1, d => QA d.num /\ ∀ t ∈ d.kids, ZS n t
theorem Uh : ∀ {n lo hi : Nat} {w : World} {d : TreeD} {cs : List Value}, C_Tree n lo hi w d cs -> ZS n d
 | 0, _, _, _, _, _, h => h.none.elim
 | n + 1, lo, hi, w, d, cs, h => by
  obtain ⟨v4, v5, -, -, a2, -, -, A, c, -, -, -, hA⟩ := h.out;refine ⟨a2, fun t ht => ?_⟩;obtain ⟨i, hi⟩ := List.getElem?_of_mem ht;obtain ⟨b, o, -, -, -, hc⟩ := hA (Nat.lt_of_le_of_lt (Nat.zero_le i) (List.getElem?_eq_some_iff.1 hi).1);obtain ⟨es, -, -, he⟩ := hc i t hi;exact Uh he
theorem JhH : ∀ (n : Nat) (d : TreeD), Ju n d = true -> ZS n d -> (VK n d).length + 2404 <= 5000 * Jl n d
 | 0, _, h, _ => by cases h
 | n + 1, d, h, hn => by
  have hz : 1 <= Jl (n + 1) d := by rw [JJ]; omega
  have hkids : ∀ t ∈ d.kids, (VK n t).length + 2404 <= 5000 * Jl n t := fun t ht => by
   obtain ⟨i, hi⟩ := List.getElem?_of_mem ht;exact JhH n t (J6 h hi) (hn.2 t ht)
  have hsz : Jl (n + 1) d = 1 + QZ (Jl n) d.kids := rfl;have htk : d.kids.take d.kids.length = d.kids := List.take_of_length_le (Nat.le_refl _);rw [V4];by_cases c1 : d.kind = 1
  ·rw [if_pos c1]
   have : JfS.length = 4 := rfl;omega
  rw [if_neg c1];by_cases c2 : d.kind = 2
  ·rw [if_pos c2]
   have h1 : JeF.length = 4 := rfl;have h2 : JfQ.length = 5 := rfl;split <;> omega
  rw [if_neg c2];by_cases c3 : d.kind = 3
  ·rw [if_pos c3]
   have h20 := ZL d.num hn.1;have he : (Qv d.num).data.toList.length = (Qv d.num).size := Array.length_toList;omega
  rw [if_neg c3];by_cases c4 : d.kind = 4
  ·rw [if_pos c4]
   have h1 := Wb d.text;have h2 := (JZ h).2.1;unfold Qs at h2;simp only [Bool.and_eq_true, decide_eq_true_eq] at h2;omega
  rw [if_neg c4];by_cases c5 : d.kind = 5
  ·rw [if_pos c5]
   have h1 := Jaj (pre := fun _ => []) (f := VK n) (g := Jl n) (l := d.kids) (fun _ => Nat.zero_le _) hkids d.kids.length (Nat.le_refl _);rw [htk] at h1;simp only [List.length_append, List.length_cons, List.length_nil];omega
  ·rw [if_neg c5]
   have h1 := Jaj (pre := JfE d.keys) (f := VK n) (g := Jl n) (l := d.kids) (Jlo h) hkids d.kids.length (Nat.le_refl _);rw [htk] at h1;simp only [List.length_append, List.length_cons, List.length_nil];omega
def QH : List UInt8 -> List UInt8 -> List (List UInt8)
 | acc, [] => [acc]
 | acc, c :: r => if c = 10 then acc :: QH [] r else QH (acc ++ [c]) r
def JR : Bool -> Bool -> List UInt8 -> Nat
 | _, _, [] => 0
 | _, true, [_] => 1
 | _, true, c :: d :: r => if c = 92 then 2 + JR false true r else 1 + JR false (c != 34) (d :: r)
 | first, false, c :: r => if first && c == 34 then 1 + JR false true r else if first && c == 35 then 0 else 1 + JR (c == 32) false r
def JK (l : List UInt8) : List UInt8 := trimRightB (l.take (JR true false l)) 32
def Vh (l : List UInt8) : Nat := l.length - (trimLeftB l 32).length
structure LineD where
 ind : Nat
 text : ByteArray
 at' : Nat
def bs (l : List UInt8) : ByteArray := ⟨l.toArray⟩
def Zr (i : Nat) (l : List UInt8) : List LineD := if JK l = [] then [] else [⟨Vh (JK l), bs (trimLeftB (JK l) 32), i⟩]
def Zf (l : List UInt8) : Bool := l.any fun c => decide (c.toNat < 32)
def Zz (P : List (List UInt8)) : Nat -> List LineD
 | 0 => []
 | k + 1 => Zz P k ++ (match P[k]? with | some l => Zr (k + 1) l | none => [])
def JM (s : ByteArray) : List LineD × Flt :=
 if (QN s).code ≠ 0 then ([], QN s) else match (QH [] s.data.toList).findIdx? Zf with
  | some k => ([], ⟨3, ((k + 1 : Nat) : Int), ⟨#[]⟩⟩)
  | none => (Zz (QH [] s.data.toList) (QH [] s.data.toList).length, Jv)
def Qc (s : ByteArray) (i : Nat) : Bool := decide (i < s.size) && decide (Jb s i = 58) && (decide (i + 1 = s.size) || decide (Jb s (i + 1) = 32))
def Qe : List UInt8 := [45, 63, 58, 44, 91, 93, 123, 125, 38, 42, 33, 124, 62, 39, 37, 64, 96]
def VO (s : ByteArray) (i : Nat) : Bool := !(decide (Jb s i < 32) || decide (Jb s i = 34) || decide (Jb s i = 35) || decide (Jb s i = 92) || Qc s i)
def Jda (s : ByteArray) : Bool := s.data.toList.all fun c => decide (48 <= c.toNat) && decide (c.toNat <= 57)
def Qa (s : ByteArray) : Bool :=
 decide (1 <= s.size) && decide (s.size <= 400) && Qt s && !(Qe.any fun c => decide (Jb s 0 = (c.toNat : Int))) && !(decide (Jb s 0 = 32)) && !(decide (Jb s (s.size - 1) = 32)) && QG s.size (VO s) && !Jda s
  && !(decide (s = bs [110, 117, 108, 108])) && !(decide (s = bs [126])) && !(decide (s = bs [116, 114, 117, 101])) && !(decide (s = bs [102, 97, 108, 115, 101]))
def Un (s : ByteArray) : Nat -> Nat -> Option Nat
 | 0, _ => none
 | f + 1, i => if i < s.size then (if Qc s i then some i else Un s f (i + 1)) else none
def Qb (s : ByteArray) (i : Nat) : ByteArray := bs (trimLeftB (s.data.toList.drop i) 32)
def Qq (s : ByteArray) : Option (ByteArray × ByteArray) :=
 if 0 < s.size /\ Jb s 0 = 34 then (if 0 <= (Jr s 0).2 /\ Qc s (Jr s 0).2.toNat = true then some ((Jr s 0).1, Qb s ((Jr s 0).2.toNat + 1)) else none)
 else match Un s s.size 0 with
  | none => none
  | some i => if Qa (bs (s.data.toList.take i)) then some (bs (s.data.toList.take i), Qb s (i + 1)) else none
def Jy (s : ByteArray) : Option (ByteArray × Nat) :=
 if s = bs [45] then some (bs [], 0) else if 2 <= s.size /\ Jb s 0 = 45 /\ Jb s 1 = 32 then some (Qb s 2, s.size - (Qb s 2).size) else none
def JL (s : ByteArray) : Option TreeD :=
 if s = bs [91, 93] then some (JY []) else if s = bs [123, 125] then some (QD [] []) else if s = bs [110, 117, 108, 108] ∨ s = bs [126] then some UD
 else if s = bs [116, 114, 117, 101] then some (Wx true) else if s = bs [102, 97, 108, 115, 101] then some (Wx false)
 else if 0 < s.size /\ Jb s 0 = 34 then (if (Jr s 0).2 = s.size /\ (Jr s 0).1.size <= 400 then some (VR (Jr s 0).1) else none)
 else if (JF s 0).2 = s.size /\ 0 < (JF s 0).2 then some (Jid (JF s 0).1)
 else if Qa s then some (VR s) else none
def Xy : TreeD := ⟨0, false, 0, ⟨#[]⟩, [], []⟩
inductive JobI where
 | value (deep : Nat)
 | below (ind deep at' : Nat)
 | list (ind deep : Nat) (acc : List TreeD)
 | pairs (ind deep : Nat) (ks : List ByteArray) (acc : List TreeD)
inductive ResI where
 | bad (f : Flt)
 | good (t : TreeD) (L : List LineD) (m : Nat)
def Qd (code : Int) (at' : Nat) : Flt := ⟨code, at', ⟨#[]⟩⟩
def J1 (d m at' : Nat) : Option Flt := if 8 < d then some (Qd 6 at') else if 300 <= m then some (Qd 7 at') else none
def Jn : Nat -> JobI -> List LineD -> Nat -> ResI
 | 0, _, _, _ => .bad Jv
 | n + 1, .value d, L, m => match L with
  | [] => .bad Jv
  | x :: r => match J1 d m x.at' with
   | some f => .bad f
   | none =>
    if (Jy x.text).isSome then Jn n (.list x.ind d []) (x :: r) (m + 1)
    else if (Qq x.text).isSome then Jn n (.pairs x.ind d [] []) (x :: r) (m + 1)
    else match JL x.text with
     | some t => .good t r (m + 1)
     | none => .bad (Qd 4 x.at')
 | n + 1, .below i d a, L, m =>
  if (match L with | [] => false | x :: _ => decide (i < x.ind)) then Jn n (.value d) L m
  else match J1 d m a with
   | some f => .bad f
   | none => .good UD L (m + 1)
 | n + 1, .list i d acc, L, m => match L with
  | [] => .good (JY acc) [] m
  | x :: r => if x.ind ≠ i then .good (JY acc) (x :: r) m else match Jy x.text with
   | none => .good (JY acc) (x :: r) m
   | some (rest, k) => match (if k = 0 then Jn n (.below i (d + 1) x.at') r m else Jn n (.value (d + 1)) (⟨i + k, rest, x.at'⟩ :: r) m) with
    | .bad f => .bad f
    | .good t L' m' => Jn n (.list i d (acc ++ [t])) L' m'
 | n + 1, .pairs i d ks acc, L, m => match L with
  | [] => .good (QD ks acc) [] m
  | x :: r => if x.ind ≠ i ∨ (Jy x.text).isSome then .good (QD ks acc) (x :: r) m else match Qq x.text with
   | none => .good (QD ks acc) (x :: r) m
   | some (key, rest) =>
    if 400 < key.size then .bad (Qd 8 x.at')
    else if ks.contains key then .bad (Qd 5 x.at')
    else match (if rest.size = 0 then Jn n (.below i (d + 1) x.at') r m else match J1 (d + 1) m x.at' with
      | some f => .bad f
      | none => match JL rest with
       | none => .bad (Qd 4 x.at')
       | some t => .good t r (m + 1)) with
     | .bad f => .bad f
     | .good t L' m' => Jn n (.pairs i d (J3 ks (Qy ks key) key) (J3 acc (Qy ks key) t)) L' m'
def Qh (L : List LineD) : Nat := QZ (fun x => x.text.size + 3) L
def JD (s : ByteArray) : Flt × TreeD :=
 if (JM s).2.code ≠ 0 then ((JM s).2, Xy) else match (JM s).1 with
  | [] => (Qd 4 (QH [] s.data.toList).length, Xy)
  | x :: r => if x.ind ≠ 0 then (Qd 4 x.at', Xy) else match Jn (3 * Qh (x :: r) + 3) (.value 1) (x :: r) 0 with
   | .bad f => (f, Xy)
   | .good t [] _ => (Jv, t)
   | .good _ (y :: _) _ => (Qd 4 y.at', Xy)
def Js (s : ByteArray) : ByteArray := if Qa s then s else JN s
def Jx (d : TreeD) : ByteArray := if d.kind = 4 then Js d.text else if d.kind = 5 then bs [91, 93] else if d.kind = 6 then bs [123, 125] else if d.kind = 1 then bs JfS else if d.kind = 2 then (if d.flag then bs JeF else bs JfQ) else Qv d.num
def Qp (L : List (List UInt8)) : List (List UInt8) := L.map fun x => [32, 32] ++ x
def J2 (f : TreeD -> List (List UInt8)) (d : TreeD) (i : Nat) : List (List UInt8) := match d.kids[i]? with
 | none => []
 | some t => if d.kind = 6 then (match d.keys[i]? with
   | none => []
   | some k => if t.kids = [] then [(Js k).data.toList ++ [58, 32] ++ (f t).headD []] else ((Js k).data.toList ++ [58]) :: Qp (f t))
  else (match f t with | [] => [] | x :: r => ([45, 32] ++ x) :: Qp r)
def Qj (g : Nat -> List (List UInt8)) : Nat -> List (List UInt8)
 | 0 => []
 | k + 1 => Qj g k ++ g k
def Jt : Nat -> TreeD -> List (List UInt8)
 | 0, _ => []
 | n + 1, d => if d.kids = [] then [(Jx d).data.toList] else Qj (J2 (Jt n) d) d.kids.length
def textL (L : List (List UInt8)) : List UInt8 := L.flatMap fun x => x ++ [10]
def Uc (n : Nat) (d : TreeD) : ByteArray := if Uu n d = true then (if 20000 < (textL (Jt n d)).length then ⟨#[]⟩ else bs (textL (Jt n d))) else ⟨#[]⟩
end Go.Proofs.YtohcpifekcehjaaGreatDoor
