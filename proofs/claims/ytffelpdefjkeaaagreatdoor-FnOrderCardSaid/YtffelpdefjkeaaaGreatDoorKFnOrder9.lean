/- Written by wip/tools/pack.py: the texts that FnOrder needs, without what it does not need. No conditions. -/
import Derived.Test.YtffelpdefjkeaaaGreatDoorKFnOrder1
import Derived.Test.YtffelpdefjkeaaaGreatDoorKFnOrder4
import Derived.Deep.AppendLies
import Derived.OwnWalk
import Derived.Test.YtffelpdefjkeaaaGreatDoorKFnOrder8
namespace Go.Proofs.YtffelpdefjkeaaaGreatDoor
open Go.RowKit
/-- The row g holds the trees l; tree i lies, as O says, in the blocks F i. -/
def KidsAt (O : (Nat → Prop) → World → TreeD → List Value → Prop) (F : Nat → Nat → Prop) (g : Nat) (w : World) (l : List TreeD) : Prop :=
  ∃ cur, w.heap[g]? = some (.cells cur 27 (0, 0)) ∧ ∀ i d, l[i]? = some d → ∃ es, es.length = 6 ∧ (∀ j, j < 6 → cur[i * 6 + j]? = es[j]?) ∧ O (F i) w d es
/-- v is a slice of the trees l, in a row of a block of S; what each holds lies in blocks of S of its own. -/
def OwnK (O : (Nat → Prop) → World → TreeD → List Value → Prop) (S : Nat → Prop) (w : World) (l : List TreeD) (v : Value) : Prop :=
  ∃ A c, v = .slice A l.length c ∧ l.length ≤ c ∧ c ≤ 9223372036854775807 ∧ (0 < l.length → ∃ g F, A = some ⟨g, 0, none⟩ ∧ S g ∧ (∀ i b, F i b → S b ∧ b ≠ g) ∧ (∀ i j b, F i b → F j b → i = j) ∧ KidsAt O F g w l)
/-- The cells cs hold the tree d, of height at most n; all that it points to lies in blocks of S, no two parts in one. -/
def OwnT : Nat → (Nat → Prop) → World → TreeD → List Value → Prop
  | 0, _, _, _, _ => False
  | n + 1, S, w, d, cs => ∃ (v4 v5 : Value) (S4 S5 : Nat → Prop), cs = [.int .i64 d.kind, .bool d.flag, .int .i64 d.num, .string d.text, v4, v5] ∧ I64 d.kind ∧ I64 d.num ∧ d.text.size ≤ 9223372036854775807 ∧
      (∀ b, S4 b → S b ∧ ¬ S5 b) ∧ (∀ b, S5 b → S b) ∧ OwnS S4 w d.keys v4 ∧ OwnK (OwnT n) S5 w d.kids v5
theorem OwnT.out {n : Nat} {S : Nat → Prop} {w : World} {d : TreeD} {cs : List Value} (h : OwnT (n + 1) S w d cs) : ∃ (v4 v5 : Value) (S4 S5 : Nat → Prop), cs = [.int .i64 d.kind, .bool d.flag, .int .i64 d.num, .string d.text, v4, v5] ∧ I64 d.kind ∧ I64 d.num ∧ d.text.size ≤ 9223372036854775807 ∧
      (∀ b, S4 b → S b ∧ ¬ S5 b) ∧ (∀ b, S5 b → S b) ∧ OwnS S4 w d.keys v4 ∧ OwnK (OwnT n) S5 w d.kids v5 := h
theorem OwnT.into {n : Nat} {S : Nat → Prop} {w : World} {d : TreeD} {cs : List Value} (h : ∃ (v4 v5 : Value) (S4 S5 : Nat → Prop), cs = [.int .i64 d.kind, .bool d.flag, .int .i64 d.num, .string d.text, v4, v5] ∧ I64 d.kind ∧ I64 d.num ∧ d.text.size ≤ 9223372036854775807 ∧
      (∀ b, S4 b → S b ∧ ¬ S5 b) ∧ (∀ b, S5 b → S b) ∧ OwnS S4 w d.keys v4 ∧ OwnK (OwnT n) S5 w d.kids v5) : OwnT (n + 1) S w d cs := h
theorem OwnT.none {S : Nat → Prop} {w : World} {d : TreeD} {cs : List Value} (h : OwnT 0 S w d cs) : False := h
theorem OwnT.any {n : Nat} {S : Nat → Prop} {w : World} {d : TreeD} {cs : List Value} (h : OwnT n S w d cs) : ∃ m, n = m + 1 := by
  cases n with
  | zero => exact h.none.elim
  | succ m => exact ⟨m, rfl⟩
theorem OwnK.form {O : (Nat → Prop) → World → TreeD → List Value → Prop} {S : Nat → Prop} {w : World} {l : List TreeD} {v : Value} (h : OwnK O S w l v) : ∃ A c, v = .slice A l.length c := by
  obtain ⟨A, c, hv, _⟩ := h
  exact ⟨A, c, hv⟩
theorem OwnT.flat {n : Nat} {S : Nat → Prop} {w : World} {d : TreeD} {cs : List Value} (h : OwnT n S w d cs) : ∃ A4 c4 A5 c5, cs = [.int .i64 d.kind, .bool d.flag, .int .i64 d.num, .string d.text, .slice A4 d.keys.length c4, .slice A5 d.kids.length c5] ∧ I64 d.kind ∧ I64 d.num ∧ d.text.size ≤ 9223372036854775807 := by
  obtain ⟨m, rfl⟩ := h.any
  obtain ⟨v4, v5, S4, S5, rfl, a0, a2, a3, -, -, a4, a5⟩ := h.out
  obtain ⟨A4, c4, rfl⟩ := a4.form
  obtain ⟨A5, c5, rfl⟩ := a5.form
  exact ⟨A4, c4, A5, c5, rfl, a0, a2, a3⟩
theorem OwnK.carry {O O' : (Nat → Prop) → World → TreeD → List Value → Prop} {S S' : Nat → Prop} {w w' : World} {l : List TreeD} {v : Value} (h : OwnK O S w l v) (hs : ∀ b, S b → w'.heap[b]? = w.heap[b]?) (hS : ∀ b, S b → S' b)
    (hO : ∀ F d es, (∀ b, F b → S b) → O F w d es → O' F w' d es) : OwnK O' S' w' l v := by
  obtain ⟨A, c, hv, h1, h2, h3⟩ := h
  refine ⟨A, c, hv, h1, h2, fun hp => ?_⟩
  obtain ⟨g, F, hA, hg, hF, hF2, cur, hr, hc⟩ := h3 hp
  refine ⟨g, F, hA, hS g hg, fun i b hb => ⟨hS b (hF i b hb).1, (hF i b hb).2⟩, hF2, cur, (hs g hg).trans hr, fun i d hd => ?_⟩
  obtain ⟨es, e1, e2, e3⟩ := hc i d hd
  exact ⟨es, e1, e2, hO (F i) d es (fun b hb => (hF i b hb).1) e3⟩
theorem OwnT.carry : ∀ {n : Nat} {S S' : Nat → Prop} {w w' : World} {d : TreeD} {cs : List Value}, OwnT n S w d cs → (∀ b, S b → w'.heap[b]? = w.heap[b]?) → (∀ b, S b → S' b) → OwnT n S' w' d cs
  | 0, _, _, _, _, _, _, h, _, _ => h.none.elim
  | n + 1, S, S', w, w', d, cs, h, hs, hS => by
    obtain ⟨v4, v5, S4, S5, e, a0, a2, a3, d4, d5, a4, a5⟩ := h.out
    exact OwnT.into ⟨v4, v5, S4, S5, e, a0, a2, a3, fun b hb => ⟨hS b (d4 b hb).1, (d4 b hb).2⟩, fun b hb => hS b (d5 b hb), a4.carry (fun b hb => hs b (d4 b hb).1) (fun _ h => h),
      a5.carry (fun b hb => hs b (d5 b hb)) (fun _ h => h) (fun F d es hF ho => OwnT.carry ho (fun b hb => hs b (d5 b (hF b hb))) (fun _ h => h))⟩
theorem OwnK.keep {n : Nat} {S S' : Nat → Prop} {w w' : World} {l : List TreeD} {v : Value} (h : OwnK (OwnT n) S w l v) (hs : ∀ b, S b → w'.heap[b]? = w.heap[b]?) (hS : ∀ b, S b → S' b) : OwnK (OwnT n) S' w' l v :=
  h.carry hs hS (fun _ _ _ hF ho => ho.carry (fun b hb => hs b (hF b hb)) (fun _ h => h))
theorem OwnT.up : ∀ {n m : Nat} {S : Nat → Prop} {w : World} {d : TreeD} {cs : List Value}, OwnT n S w d cs → n ≤ m → OwnT m S w d cs
  | 0, _, _, _, _, _, h, _ => h.none.elim
  | n + 1, 0, _, _, _, _, _, hm => absurd hm (by omega)
  | n + 1, m + 1, _, _, _, _, h, hm => by
    obtain ⟨v4, v5, S4, S5, e, a0, a2, a3, d4, d5, a4, a5⟩ := h.out
    exact OwnT.into ⟨v4, v5, S4, S5, e, a0, a2, a3, d4, d5, a4, a5.carry (fun _ _ => rfl) (fun _ h => h) (fun F d es hF ho => OwnT.up ho (by omega))⟩
theorem OwnT.toC : ∀ {n lo hi : Nat} {S : Nat → Prop} {w : World} {d : TreeD} {cs : List Value}, OwnT n S w d cs → (∀ b, S b → lo ≤ b ∧ b < hi) → C_Tree n lo hi w d cs
  | 0, _, _, _, _, _, _, h, _ => h.none.elim
  | n + 1, lo, hi, S, w, d, cs, h, hS => by
    obtain ⟨v4, v5, S4, S5, e, a0, a2, a3, d4, d5, a4, a5⟩ := h.out
    refine C_Tree.into ⟨v4, v5, e, a0, a2, a3, a4.toC (fun b hb => hS b (d4 b hb).1), ?_⟩
    obtain ⟨A, c, rfl, h1, h2, h3⟩ := a5
    refine ⟨A, c, rfl, h1, h2, fun hp => ?_⟩
    obtain ⟨g, F, rfl, hg, hF, hF2, cur, hr, hc⟩ := h3 hp
    refine ⟨g, 0, rfl, (hS g (d5 g hg)).1, (hS g (d5 g hg)).2, fun i d hd => ?_⟩
    obtain ⟨es, e1, e2, e3⟩ := hc i d hd
    refine ⟨es, e1, fun j hj => ?_, OwnT.toC e3 (fun b hb => hS b (d5 b (hF i b hb).1))⟩
    rw [cell_of_row w g _ cur _ _ hr, Nat.zero_add]
    exact e2 j hj
theorem OwnK.toC {n lo hi : Nat} {S : Nat → Prop} {w : World} {l : List TreeD} {v : Value} (h : OwnK (OwnT n) S w l v) (hS : ∀ b, S b → lo ≤ b ∧ b < hi) : Sl_Tree n lo hi w l v := by
  obtain ⟨A, c, rfl, h1, h2, h3⟩ := h
  refine ⟨A, c, rfl, h1, h2, fun hp => ?_⟩
  obtain ⟨g, F, rfl, hg, hF, hF2, cur, hr, hc⟩ := h3 hp
  refine ⟨g, 0, rfl, (hS g hg).1, (hS g hg).2, fun i d hd => ?_⟩
  obtain ⟨es, e1, e2, e3⟩ := hc i d hd
  refine ⟨es, e1, fun j hj => ?_, OwnT.toC e3 (fun b hb => hS b (hF i b hb).1)⟩
  rw [cell_of_row w g _ cur _ _ hr, Nat.zero_add]
  exact e2 j hj
def cntT : Nat → TreeD → Nat
  | 0, _ => 0
  | n + 1, d => d.keys.length + szL (fun t => 4 + cntT n t) d.kids
def cntL (n : Nat) (l : List TreeD) : Nat := szL (fun t => 4 + cntT n t) l
theorem cntT_succ (n : Nat) (d : TreeD) : cntT (n + 1) d = d.keys.length + cntL n d.kids := rfl
/-- The tree t, a member of a list, bears the marks from k on; M says so of what lies below it. -/
def MkE (M : Int → TreeD → Prop) (k : Int) (t : TreeD) : Prop := t.kind = k ∧ t.flag = ((k + 1) % 3 == 0) ∧ t.num = k + 1 + 1 ∧ t.text = mkI (k + 1 + 1 + 1) ∧ M (k + 1 + 1 + 1 + 1) t
def MkT : Nat → Int → TreeD → Prop
  | 0, _, _ => False
  | n + 1, k, d => MkSs k d.keys ∧ ∀ (i : Nat) (t : TreeD), d.kids[i]? = some t → MkE (MkT n) (k + d.keys.length + cntL n (d.kids.take i)) t
def MkLs (n : Nat) (k : Int) (l : List TreeD) : Prop := ∀ (i : Nat) (t : TreeD), l[i]? = some t → MkE (MkT n) (k + cntL n (l.take i)) t
theorem MkT.into {n : Nat} {k : Int} {d : TreeD} (h1 : MkSs k d.keys) (h2 : MkLs n (k + d.keys.length) d.kids) : MkT (n + 1) k d := ⟨h1, h2⟩
theorem MkT.out {n : Nat} {k : Int} {d : TreeD} (h : MkT (n + 1) k d) : MkSs k d.keys ∧ MkLs n (k + d.keys.length) d.kids := h
end Go.Proofs.YtffelpdefjkeaaaGreatDoor
namespace Go.Proofs.YtffelpdefjkeaaaGreatDoor
open Go.RowKit
/-- v is a slice of the strings l, in a row that the call has made behind block base; it may be appended to. -/
def GrowS (base hi : Nat) (w : World) (l : List ByteArray) (v : Value) : Prop := w.ownsRow base 9 1 v l.length (l.map Value.string) ∧ (∀ g, v.ownBlock = some g → g < hi) ∧ ∀ s ∈ l, s.size ≤ 9223372036854775807
theorem GrowS.nil (base hi : Nat) (w : World) : GrowS base hi w [] (.slice none 0 0) := ⟨World.ownsRow_nil _ _ _ _, fun g h => (by cases h), fun s h => (by cases h)⟩
theorem GrowS.carry {base hi hi' : Nat} {w w' : World} {l : List ByteArray} {v : Value} (h : GrowS base hi w l v) (hh : hi ≤ hi') (hb : ∀ g, base ≤ g → g < hi → w'.heap[g]? = w.heap[g]?) : GrowS base hi' w' l v :=
  ⟨ownsRow_carry h.1 (fun g hg => hb g (h.1.lt g hg).1 (h.2.1 g hg)), fun g hg => Nat.lt_of_lt_of_le (h.2.1 g hg) hh, h.2.2⟩
theorem GrowS.form {base hi : Nat} {w : World} {l : List ByteArray} {v : Value} (h : GrowS base hi w l v) : ∃ A c, v = .slice A l.length c := by
  rcases h.1.2 with ⟨rfl, h0⟩ | ⟨g, cap, cur, rfl, _⟩
  · exact ⟨_, _, by rw [h0]⟩
  · exact ⟨_, _, rfl⟩
theorem GrowS.own {base hi : Nat} {w : World} {l : List ByteArray} {v : Value} (h : GrowS base hi w l v) : OwnS (fun b => base ≤ b ∧ b < hi) w l v := by
  obtain ⟨⟨hl, h1⟩, h2, h3⟩ := h
  rcases h1 with ⟨rfl, h0⟩ | ⟨g, cap, cur, rfl, hb, hg, hnc, hcm, hcs, ht⟩
  · exact ⟨none, 0, by rw [h0], by omega, by omega, fun hp => by omega⟩
  · refine ⟨_, cap, rfl, hnc, by unfold maxLen at hcm; omega, fun _ => ⟨g, cur, rfl, ⟨hb, h2 g rfl⟩, hg, fun i s hs => ?_⟩⟩
    refine ⟨?_, h3 s (List.mem_of_getElem? hs)⟩
    have hi : i < l.length := (List.getElem?_eq_some_iff.1 hs).1
    have : (cur.toList.take (l.length * 1))[i]? = some (.string s) := by rw [ht, List.getElem?_map, hs]; rfl
    rw [List.getElem?_take, if_pos (by omega)] at this
    simpa using this
/-- One string more. -/
theorem GrowS.push {base hi : Nat} {w w' : World} {l : List ByteArray} {v : Value} {s : ByteArray} {g cap : Nat} (h : GrowS base hi w l v) (m : Nat) (hm : l.length = m) (hs : s.size ≤ 9223372036854775807)
    (ho : w'.ownsRow base 9 1 (.slice (some ⟨g, 0, none⟩) (m + 1) cap) (m + 1) (l.map Value.string ++ [.string s])) (hg : g < w'.heap.size) : GrowS base w'.heap.size w' (l ++ [s]) (.slice (some ⟨g, 0, none⟩) (m + 1) cap) := by
  subst hm
  refine ⟨by simpa using ho, fun g' hg' => ?_, fun x hx => ?_⟩
  · simp [Value.ownBlock] at hg'; omega
  · rcases List.mem_append.1 hx with hx | hx
    · exact h.2.2 x hx
    · simp at hx; subst hx; exact hs
theorem flat_get : ∀ (ess : List (List Value)) (i : Nat) (es : List Value) (j : Nat), (∀ es ∈ ess, es.length = 6) → ess[i]? = some es → j < 6 → ess.flatten[i * 6 + j]? = es[j]?
  | [], i, es, j, _, h, _ => by simp at h
  | x :: ess, 0, es, j, hl, h, hj => by
    simp at h
    subst h
    rw [List.flatten_cons, List.getElem?_append_left (by rw [hl x (by simp)]; omega)]
    simp
  | x :: ess, i + 1, es, j, hl, h, hj => by
    simp at h
    have hx := hl x (by simp)
    rw [List.flatten_cons, List.getElem?_append_right (by omega), hx, show (i + 1) * 6 + j - 6 = i * 6 + j by omega]
    exact flat_get ess i es j (fun y hy => hl y (by simp [hy])) h hj
/-- v is a slice of the trees l, in a row that the call has made between the blocks base and hi; what they point to lies there too. -/
def GrowK (n base hi : Nat) (w : World) (l : List TreeD) (v : Value) : Prop :=
  ∃ (ess : List (List Value)) (F : Nat → Nat → Prop), ess.length = l.length ∧ (∀ es ∈ ess, es.length = 6) ∧ w.ownsRow base 27 6 v l.length ess.flatten ∧ (∀ g, v.ownBlock = some g → g < hi) ∧
    (∀ i b, F i b → base ≤ b ∧ b < hi ∧ v.ownBlock ≠ some b) ∧ (∀ i j b, F i b → F j b → i = j) ∧ ∀ i d es, l[i]? = some d → ess[i]? = some es → OwnT n (F i) w d es
theorem GrowK.nil (n base hi : Nat) (w : World) : GrowK n base hi w [] (.slice none 0 0) :=
  ⟨[], fun _ _ => False, rfl, fun _ h => (by cases h), World.ownsRow_nil _ _ _ _, fun g h => (by cases h), fun _ _ h => h.elim, fun _ _ _ h => h.elim, fun i d es h => (by simp at h)⟩
theorem GrowK.form {n base hi : Nat} {w : World} {l : List TreeD} {v : Value} (h : GrowK n base hi w l v) : ∃ A c, v = .slice A l.length c := by
  obtain ⟨ess, F, -, -, h1, -⟩ := h
  rcases h1.2 with ⟨rfl, h0⟩ | ⟨g, cap, cur, rfl, _⟩
  · exact ⟨_, _, by rw [h0]⟩
  · exact ⟨_, _, rfl⟩
theorem GrowK.carry {n base hi hi' : Nat} {w w' : World} {l : List TreeD} {v : Value} (h : GrowK n base hi w l v) (hh : hi ≤ hi') (hb : ∀ g, base ≤ g → g < hi → w'.heap[g]? = w.heap[g]?) : GrowK n base hi' w' l v := by
  obtain ⟨ess, F, h1, h2, h3, h4, h5, h6, h7⟩ := h
  exact ⟨ess, F, h1, h2, ownsRow_carry h3 (fun g hg => hb g (h3.lt g hg).1 (h4 g hg)), fun g hg => Nat.lt_of_lt_of_le (h4 g hg) hh, fun i b hF => ⟨(h5 i b hF).1, Nat.lt_of_lt_of_le (h5 i b hF).2.1 hh, (h5 i b hF).2.2⟩, h6,
    fun i d es hd he => (h7 i d es hd he).carry (fun b hF => hb b (h5 i b hF).1 (h5 i b hF).2.1) (fun _ h => h)⟩
theorem GrowK.own {n base hi : Nat} {w : World} {l : List TreeD} {v : Value} (h : GrowK n base hi w l v) : OwnK (OwnT n) (fun b => base ≤ b ∧ b < hi) w l v := by
  obtain ⟨ess, F, e1, e2, ⟨hl, h1⟩, h4, h5, h6, h7⟩ := h
  rcases h1 with ⟨rfl, h0⟩ | ⟨g, cap, cur, rfl, hb, hg, hnc, hcm, hcs, ht⟩
  · exact ⟨none, 0, by rw [h0], by omega, by omega, fun hp => by omega⟩
  · refine ⟨_, cap, rfl, hnc, by unfold maxLen at hcm; omega, fun _ => ⟨g, F, rfl, ⟨hb, h4 g rfl⟩, fun i b hF => ⟨⟨(h5 i b hF).1, (h5 i b hF).2.1⟩, fun e => (h5 i b hF).2.2 (by rw [e]; rfl)⟩, h6, cur, hg, fun i d hd => ?_⟩⟩
    have hi : i < l.length := (List.getElem?_eq_some_iff.1 hd).1
    obtain ⟨es, hes⟩ := exists_at (l := ess) (k := i) (by omega)
    refine ⟨es, e2 es (List.mem_of_getElem? hes), fun j hj => ?_, h7 i d es hd hes⟩
    have hf := flat_get ess i es j e2 hes hj
    rw [← ht, List.getElem?_take, if_pos (by omega)] at hf
    simpa using hf
theorem OwnT.one {n : Nat} {S : Nat → Prop} {w : World} {d : TreeD} {es : List Value} (h : OwnT n S w d es) : ∀ u ∈ es, u.oneCell' = true := by
  obtain ⟨A4, c4, A5, c5, rfl, -⟩ := h.flat
  intro u hu
  simp at hu
  rcases hu with rfl | rfl | rfl | rfl | rfl | rfl <;> rfl
theorem OwnT.len {n : Nat} {S : Nat → Prop} {w : World} {d : TreeD} {es : List Value} (h : OwnT n S w d es) : es.length = 6 := by
  obtain ⟨A4, c4, A5, c5, rfl, -⟩ := h.flat
  rfl
/-- One tree more. -/
theorem GrowK.push {n base hi : Nat} {w w' : World} {l : List TreeD} {v : Value} {d : TreeD} {es : List Value} {S : Nat → Prop} {g cap : Nat} (m : Nat) (hm : l.length = m) (hhi : hi ≤ w.heap.size) (hd : OwnT n S w d es) (hS : ∀ b, S b → hi ≤ b ∧ b < w.heap.size) (hbh : base ≤ hi)
    (ess : List (List Value)) (F : Nat → Nat → Prop) (e1 : ess.length = l.length) (e2 : ∀ es ∈ ess, es.length = 6) (h4 : ∀ g, v.ownBlock = some g → g < hi) (h5 : ∀ i b, F i b → base ≤ b ∧ b < hi ∧ v.ownBlock ≠ some b) (h6 : ∀ i j b, F i b → F j b → i = j) (h7 : ∀ i d es, l[i]? = some d → ess[i]? = some es → OwnT n (F i) w d es)
    (ho : w'.ownsRow base 27 6 (.slice (some ⟨g, 0, none⟩) (m + 1) cap) (m + 1) (ess.flatten ++ es)) (hgr : w.grownBy w' v.ownBlock) (hat : v.ownBlock = some g ∨ w.heap.size ≤ g) (hg : g < w'.heap.size) :
    GrowK n base w'.heap.size w' (l ++ [d]) (.slice (some ⟨g, 0, none⟩) (m + 1) cap) := by
  subst hm
  have hkeep : ∀ b, b < w.heap.size → v.ownBlock ≠ some b → w'.heap[b]? = w.heap[b]? := fun b h1 h2 => hgr.block b h1 (fun e => h2 e.symm)
  refine ⟨ess ++ [es], fun i b => (i < l.length ∧ F i b) ∨ (i = l.length ∧ S b), by simp [e1], ?_, by simpa using ho, ?_, ?_, ?_, ?_⟩
  · intro x hx
    rcases List.mem_append.1 hx with hx | hx
    · exact e2 x hx
    · simp at hx; subst hx; exact hd.len
  · intro g' hg'
    simp [Value.ownBlock] at hg'
    omega
  · rintro i b (⟨hi, hF⟩ | ⟨hi, hF⟩)
    · obtain ⟨f1, f2, f3⟩ := h5 i b hF
      refine ⟨f1, by have := hgr.size; omega, fun e => ?_⟩
      simp [Value.ownBlock] at e
      rcases hat with hat | hat
      · rw [hat, e] at f3; exact f3 rfl
      · omega
    · obtain ⟨f1, f2⟩ := hS b hF
      refine ⟨by omega, by have := hgr.size; omega, fun e => ?_⟩
      simp [Value.ownBlock] at e
      rcases hat with hat | hat
      · have := h4 g hat; omega
      · omega
  · rintro i j b (⟨hi, hF⟩ | ⟨hi, hF⟩) (⟨hj, hG⟩ | ⟨hj, hG⟩)
    · exact h6 i j b hF hG
    · have := (h5 i b hF).2.1; have := (hS b hG).1; omega
    · have := (h5 j b hG).2.1; have := (hS b hF).1; omega
    · omega
  · intro i d' es' hd' hes'
    by_cases hlt : i < l.length
    · rw [List.getElem?_append_left hlt] at hd'
      rw [List.getElem?_append_left (by omega)] at hes'
      refine (h7 i d' es' hd' hes').carry (fun b hF => hkeep b ?_ (h5 i b hF).2.2) (fun b hF => .inl ⟨hlt, hF⟩)
      have := (h5 i b hF).2.1
      omega
    · have hil : i = l.length := by
        have := (List.getElem?_eq_some_iff.1 hd').1
        simp at this
        omega
      subst hil
      rw [List.getElem?_append_right (by omega)] at hd'
      rw [List.getElem?_append_right (by omega)] at hes'
      simp at hd'
      simp [e1] at hes'
      subst hd' hes'
      refine hd.carry (fun b hF => hkeep b (hS b hF).2 (fun e => ?_)) (fun b hF => .inr ⟨rfl, hF⟩)
      have := h4 b e
      have := (hS b hF).1
      omega
end Go.Proofs.YtffelpdefjkeaaaGreatDoor
namespace Go.Proofs.YtffelpdefjkeaaaGreatDoor
open Go.RowKit Go.Lib
theorem Aside.join {S S' : Nat → Prop} {a b c : World} (h : Aside S a b) (k : Aside S' b c) (hs : ∀ q, S' q → q < a.heap.size → S q) : Aside S a c :=
  ⟨k.os.trans h.os, k.tape.trans h.tape, k.output.trans h.output, Nat.le_trans h.size k.size, fun i hi hn => (k.block i (Nat.lt_of_lt_of_le hi h.size) (fun hq => hn (hs i hq hi))).trans (h.block i hi hn)⟩
/-- A leaf lies nowhere. -/
theorem own_leaf {n : Nat} {S : Nat → Prop} {w : World} {k num : Int} {f : Bool} {t : ByteArray} (hk : I64 k) (hn : I64 num) (ht : t.size ≤ 9223372036854775807) : OwnT (n + 1) S w ⟨k, f, num, t, [], []⟩ [.int .i64 k, .bool f, .int .i64 num, .string t, .slice none 0 0, .slice none 0 0] :=
  OwnT.into ⟨_, _, fun _ => False, fun _ => False, rfl, hk, hn, ht, fun _ h => h.elim, fun _ h => h.elim, ⟨none, 0, rfl, Nat.le_refl _, by omega, fun h => absurd h (by simp)⟩, ⟨none, 0, rfl, Nat.le_refl _, by omega, fun h => absurd h (by simp)⟩⟩
/-- The list at sign p, behind its opening sign. -/
def listR (L : List SignD) (E : Int) (n d p m : Nat) : Res := if kindAt L p = 4 then .good (tList []) (p + 1) m else readJ L E n (.list d []) p m
/-- The map at sign p, behind its opening sign. -/
def pairsR (L : List SignD) (E : Int) (n d p m : Nat) : Res := if kindAt L p = 2 then .good (tMap [] []) (p + 1) m else readJ L E n (.pairs d [] []) p m
def BadT (R : Nat → Nat → Flt → World → Prop) (b : Nat) (N : Nat) (f : Flt) (w : World) (e : Ending) (w' : World) : Prop :=
  ∃ (k : Int) (fl : Bool) (nu : Int) (t : ByteArray) (A4 : Option Addr) (n4 c4 : Nat) (A5 : Option Addr) (n5 c5 p' m' : Nat), e = .returned (.agg #[.int .i64 k, .bool fl, .int .i64 nu, .string t, .slice A4 n4 c4, .slice A5 n5 c5]) ∧ R p' m' f w' ∧ p' ≤ N ∧ Aside (fun q => q = b) w w'
def GoodT (R : Nat → Nat → Flt → World → Prop) (b : Nat) (nT : Nat) (t : TreeD) (q m' : Nat) (w : World) (e : Ending) (w' : World) : Prop :=
  ∃ cs, e = .returned (.agg cs.toArray) ∧ OwnT nT (fun x => w.heap.size ≤ x ∧ x < w'.heap.size) w' t cs ∧ R q m' flt0 w' ∧ Aside (fun q => q = b) w w'
/-- What a reader's call yields; R tells the reader's box b. -/
def ValE (R : Nat → Nat → Flt → World → Prop) (b N nT : Nat) (r : Res) (w : World) (e : Ending) (w' : World) : Prop := match r with
  | .bad f => BadT R b N f w e w'
  | .good t q m' => GoodT R b nT t q m' w e w'
theorem ValE.bad {R : Nat → Nat → Flt → World → Prop} {b N nT : Nat} {r : Res} {f : Flt} {w w' : World} {e : Ending} (hr : r = .bad f) (h : BadT R b N f w e w') : ValE R b N nT r w e w' := by subst hr; exact h
theorem ValE.good {R : Nat → Nat → Flt → World → Prop} {b N nT : Nat} {r : Res} {t : TreeD} {q m' : Nat} {w w' : World} {e : Ending} (hr : r = .good t q m') (h : GoodT R b nT t q m' w e w') : ValE R b N nT r w e w' := by subst hr; exact h
theorem ValE.isBad {R : Nat → Nat → Flt → World → Prop} {b N nT : Nat} {r : Res} {f : Flt} {w w' : World} {e : Ending} (hr : r = .bad f) (h : ValE R b N nT r w e w') : BadT R b N f w e w' := by subst hr; exact h
theorem ValE.isGood {R : Nat → Nat → Flt → World → Prop} {b N nT : Nat} {r : Res} {t : TreeD} {q m' : Nat} {w w' : World} {e : Ending} (hr : r = .good t q m') (h : ValE R b N nT r w e w') : GoodT R b nT t q m' w e w' := by subst hr; exact h
theorem readJ_form {L : List SignD} {E : Int} {n d p m : Nat} (h : ¬ (kindAt L p = 1 ∨ kindAt L p = 3 ∨ 7 ≤ kindAt L p)) : readJ L E (n + 1) (.value d) p m = .bad (badF L E 4 p) := by rw [readJ_value, if_pos h]
theorem readJ_deep {L : List SignD} {E : Int} {n d p m : Nat} (h : kindAt L p = 1 ∨ kindAt L p = 3 ∨ 7 ≤ kindAt L p) (h2 : 8 < d) : readJ L E (n + 1) (.value d) p m = .bad (badF L E 6 p) := by rw [readJ_value, if_neg (fun g => g h), if_pos h2]
theorem readJ_many {L : List SignD} {E : Int} {n d p m : Nat} (h : kindAt L p = 1 ∨ kindAt L p = 3 ∨ 7 ≤ kindAt L p) (h2 : ¬ 8 < d) (h3 : 300 ≤ m) : readJ L E (n + 1) (.value d) p m = .bad (badF L E 7 p) := by rw [readJ_value, if_neg (fun g => g h), if_neg h2, if_pos h3]
theorem readJ_go {L : List SignD} {E : Int} {n d p m : Nat} {x : SignD} (hx : L[p]? = some x) (h : kindAt L p = 1 ∨ kindAt L p = 3 ∨ 7 ≤ kindAt L p) (h2 : ¬ 8 < d) (h3 : ¬ 300 ≤ m) : readJ L E (n + 1) (.value d) p m =
    if x.kind = 7 then (if 400 < x.text.size then .bad (badF L E 8 p) else .good (tText x.text) (p + 1) (m + 1))
    else if x.kind = 8 then .good (tInt x.num) (p + 1) (m + 1)
    else if x.kind = 11 then .good tNull (p + 1) (m + 1)
    else if x.kind = 3 then listR L E n d (p + 1) (m + 1)
    else if x.kind = 1 then pairsR L E n d (p + 1) (m + 1)
    else .good (tFlag (x.kind == 9)) (p + 1) (m + 1) := by
  rw [readJ_value, if_neg (fun g => g h), if_neg h2, if_neg h3, hx]
  rfl
def T_valI (L : List SignD) (E : Int) (b n : Nat) : Prop := ∀ (d p m : Nat) (w : World), 1 ≤ d → d ≤ 9 → p ≤ L.length → m ≤ 300 → needJ L p (.value d) ≤ n → RdAt L E b p m flt0 w →
  Calls Tryz.prog 34 #[.pointer (some ⟨b, 0, none⟩), .int .i64 d] w (ValE (RdAt L E b) b L.length (10 - d) (readJ L E n (.value d) p m) w)
def T_listI (L : List SignD) (E : Int) (b n : Nat) : Prop := ∀ (d p m : Nat) (w : World), 1 ≤ d → d ≤ 8 → p ≤ L.length → m ≤ 300 → needJ L p (.list d []) ≤ n → RdAt L E b p m flt0 w →
  Calls Tryz.prog 68 #[.pointer (some ⟨b, 0, none⟩), .int .i64 d] w (ValE (RdAt L E b) b L.length (10 - d) (listR L E n d p m) w)
def T_pairsI (L : List SignD) (E : Int) (b n : Nat) : Prop := ∀ (d p m : Nat) (w : World), 1 ≤ d → d ≤ 8 → p ≤ L.length → m ≤ 300 → needJ L p (.pairs d [] []) ≤ n → RdAt L E b p m flt0 w →
  Calls Tryz.prog 69 #[.pointer (some ⟨b, 0, none⟩), .int .i64 d] w (ValE (RdAt L E b) b L.length (10 - d) (pairsR L E n d p m) w)
theorem c_rd_TextTree (t : ByteArray) (w : World) : Calls Tryz.prog 70 #[.string t] w fun e w' => e = .returned (.agg #[.int .i64 4, .bool false, .int .i64 0, .string t, .slice none 0 0, .slice none 0 0]) ∧ Below w.heap.size w w' := by
  go_enter Tryz.func70, Tryz.ntmps70
  go_wp2_with fail
  exact bodyPost_ret (v := .agg #[.int .i64 4, .bool false, .int .i64 0, .string t, .slice none 0 0, .slice none 0 0]) (by simp only [results, Tryz.results70]; go_simp) rfl ⟨rfl, bel⟩
theorem c_rd_IntTree (x : Int) (w : World) : Calls Tryz.prog 71 #[.int .i64 x] w fun e w' => e = .returned (.agg #[.int .i64 3, .bool false, .int .i64 x, .string ⟨#[]⟩, .slice none 0 0, .slice none 0 0]) ∧ Below w.heap.size w w' := by
  go_enter Tryz.func71, Tryz.ntmps71
  go_wp2_with fail
  exact bodyPost_ret (v := .agg #[.int .i64 3, .bool false, .int .i64 x, .string ⟨#[]⟩, .slice none 0 0, .slice none 0 0]) (by simp only [results, Tryz.results71]; go_simp) rfl ⟨rfl, bel⟩
end Go.Proofs.YtffelpdefjkeaaaGreatDoor
