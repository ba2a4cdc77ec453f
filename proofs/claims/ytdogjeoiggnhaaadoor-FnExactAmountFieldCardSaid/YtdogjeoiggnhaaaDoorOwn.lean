/- Trees in memory that the call itself has made: which blocks they lie in, and what marks they bear. No conditions. -/
import Derived.Test.YtdogjeoiggnhaaaDoorHTree
import Derived.Test.YtdogjeoiggnhaaaDoorOwnE
namespace Go.Proofs.YtdogjeoiggnhaaaDoor
open Go.RowKit

/-- The row g holds the trees l; tree i lies, as O says, in the blocks F i. -/
def KidsAt (O : (Nat → Prop) → World → TreeD → List Value → Prop) (F : Nat → Nat → Prop) (g : Nat) (w : World) (l : List TreeD) : Prop :=
  ∃ cur, w.heap[g]? = some (.cells cur 33 (0, 0)) ∧ ∀ i d, l[i]? = some d → ∃ es, es.length = 6 ∧ (∀ j, j < 6 → cur[i * 6 + j]? = es[j]?) ∧ O (F i) w d es
/-- v is a slice of the trees l, in a row of a block of S; what each holds lies in blocks of S of its own. -/
def OwnK (O : (Nat → Prop) → World → TreeD → List Value → Prop) (S : Nat → Prop) (w : World) (l : List TreeD) (v : Value) : Prop :=
  ∃ A c, v = .slice A l.length c ∧ l.length ≤ c ∧ c ≤ 9223372036854775807 ∧ (0 < l.length → ∃ g F, A = some ⟨g, 0, none⟩ ∧ S g ∧ (∀ i b, F i b → S b ∧ b ≠ g) ∧ (∀ i j b, F i b → F j b → i = j) ∧ KidsAt O F g w l)
/-- The cells cs hold the tree d, of height at most n; all that it points to lies in blocks of S, no two parts in one. -/
def OwnT : Nat → (Nat → Prop) → World → TreeD → List Value → Prop
  | 0, _, _, _, _ => False
  | n + 1, S, w, d, cs => ∃ (v4 v5 : Value) (S4 S5 : Nat → Prop), cs = [.int .i64 d.kind, .bool d.flag, .int .i64 d.num, .string d.text, v4, v5] ∧ I64 d.kind ∧ I64 d.num ∧ d.text.size ≤ 9223372036854775807 ∧
      (∀ b, S4 b → S b ∧ ¬ S5 b) ∧ (∀ b, S5 b → S b) ∧ OwnS S4 w d.keys v4 ∧ OwnK (OwnT n) S5 w d.kids v5
theorem OwnT.out {n : Nat} {S : Nat → Prop} {w : World} {d : TreeD} {cs : List Value} (h : OwnT (n + 1) S w d cs) : ∃ (v4 v5 : Value) (S4 S5 : Nat → Prop), cs = [.int .i64 d.kind, .bool d.flag, .int .i64 d.num, .string d.text, v4, v5] ∧ I64 d.kind ∧ I64 d.num ∧ d.text.size ≤ 9223372036854775807 ∧
      (∀ b, S4 b → S b ∧ ¬ S5 b) ∧ (∀ b, S5 b → S b) ∧ OwnS S4 w d.keys v4 ∧ OwnK (OwnT n) S5 w d.kids v5 := h
theorem OwnT.into {n : Nat} {S : Nat → Prop} {w : World} {d : TreeD} {cs : List Value} (h : ∃ (v4 v5 : Value) (S4 S5 : Nat → Prop), cs = [.int .i64 d.kind, .bool d.flag, .int .i64 d.num, .string d.text, v4, v5] ∧ I64 d.kind ∧ I64 d.num ∧ d.text.size ≤ 9223372036854775807 ∧
      (∀ b, S4 b → S b ∧ ¬ S5 b) ∧ (∀ b, S5 b → S b) ∧ OwnS S4 w d.keys v4 ∧ OwnK (OwnT n) S5 w d.kids v5) : OwnT (n + 1) S w d cs := h
theorem OwnT.none {S : Nat → Prop} {w : World} {d : TreeD} {cs : List Value} (h : OwnT 0 S w d cs) : False := h
theorem OwnT.any {n : Nat} {S : Nat → Prop} {w : World} {d : TreeD} {cs : List Value} (h : OwnT n S w d cs) : ∃ m, n = m + 1 := by
  cases n with
  | zero => exact h.none.elim
  | succ m => exact ⟨m, rfl⟩
theorem OwnK.form {O : (Nat → Prop) → World → TreeD → List Value → Prop} {S : Nat → Prop} {w : World} {l : List TreeD} {v : Value} (h : OwnK O S w l v) : ∃ A c, v = .slice A l.length c := by
  obtain ⟨A, c, hv, _⟩ := h
  exact ⟨A, c, hv⟩
theorem OwnT.flat {n : Nat} {S : Nat → Prop} {w : World} {d : TreeD} {cs : List Value} (h : OwnT n S w d cs) : ∃ A4 c4 A5 c5, cs = [.int .i64 d.kind, .bool d.flag, .int .i64 d.num, .string d.text, .slice A4 d.keys.length c4, .slice A5 d.kids.length c5] ∧ I64 d.kind ∧ I64 d.num ∧ d.text.size ≤ 9223372036854775807 := by
  obtain ⟨m, rfl⟩ := h.any
  obtain ⟨v4, v5, S4, S5, rfl, a0, a2, a3, -, -, a4, a5⟩ := h.out
  obtain ⟨A4, c4, rfl⟩ := a4.form
  obtain ⟨A5, c5, rfl⟩ := a5.form
  exact ⟨A4, c4, A5, c5, rfl, a0, a2, a3⟩
theorem OwnK.carry {O O' : (Nat → Prop) → World → TreeD → List Value → Prop} {S S' : Nat → Prop} {w w' : World} {l : List TreeD} {v : Value} (h : OwnK O S w l v) (hs : ∀ b, S b → w'.heap[b]? = w.heap[b]?) (hS : ∀ b, S b → S' b)
    (hO : ∀ F d es, (∀ b, F b → S b) → O F w d es → O' F w' d es) : OwnK O' S' w' l v := by
  obtain ⟨A, c, hv, h1, h2, h3⟩ := h
  refine ⟨A, c, hv, h1, h2, fun hp => ?_⟩
  obtain ⟨g, F, hA, hg, hF, hF2, cur, hr, hc⟩ := h3 hp
  refine ⟨g, F, hA, hS g hg, fun i b hb => ⟨hS b (hF i b hb).1, (hF i b hb).2⟩, hF2, cur, (hs g hg).trans hr, fun i d hd => ?_⟩
  obtain ⟨es, e1, e2, e3⟩ := hc i d hd
  exact ⟨es, e1, e2, hO (F i) d es (fun b hb => (hF i b hb).1) e3⟩
theorem OwnT.carry : ∀ {n : Nat} {S S' : Nat → Prop} {w w' : World} {d : TreeD} {cs : List Value}, OwnT n S w d cs → (∀ b, S b → w'.heap[b]? = w.heap[b]?) → (∀ b, S b → S' b) → OwnT n S' w' d cs
  | 0, _, _, _, _, _, _, h, _, _ => h.none.elim
  | n + 1, S, S', w, w', d, cs, h, hs, hS => by
    obtain ⟨v4, v5, S4, S5, e, a0, a2, a3, d4, d5, a4, a5⟩ := h.out
    exact OwnT.into ⟨v4, v5, S4, S5, e, a0, a2, a3, fun b hb => ⟨hS b (d4 b hb).1, (d4 b hb).2⟩, fun b hb => hS b (d5 b hb), a4.carry (fun b hb => hs b (d4 b hb).1) (fun _ h => h),
      a5.carry (fun b hb => hs b (d5 b hb)) (fun _ h => h) (fun F d es hF ho => OwnT.carry ho (fun b hb => hs b (d5 b (hF b hb))) (fun _ h => h))⟩
theorem OwnK.keep {n : Nat} {S S' : Nat → Prop} {w w' : World} {l : List TreeD} {v : Value} (h : OwnK (OwnT n) S w l v) (hs : ∀ b, S b → w'.heap[b]? = w.heap[b]?) (hS : ∀ b, S b → S' b) : OwnK (OwnT n) S' w' l v :=
  h.carry hs hS (fun _ _ _ hF ho => ho.carry (fun b hb => hs b (hF b hb)) (fun _ h => h))
theorem OwnT.up : ∀ {n m : Nat} {S : Nat → Prop} {w : World} {d : TreeD} {cs : List Value}, OwnT n S w d cs → n ≤ m → OwnT m S w d cs
  | 0, _, _, _, _, _, h, _ => h.none.elim
  | n + 1, 0, _, _, _, _, _, hm => absurd hm (by omega)
  | n + 1, m + 1, _, _, _, _, h, hm => by
    obtain ⟨v4, v5, S4, S5, e, a0, a2, a3, d4, d5, a4, a5⟩ := h.out
    exact OwnT.into ⟨v4, v5, S4, S5, e, a0, a2, a3, d4, d5, a4, a5.carry (fun _ _ => rfl) (fun _ h => h) (fun F d es hF ho => OwnT.up ho (by omega))⟩
theorem OwnT.toC : ∀ {n lo hi : Nat} {S : Nat → Prop} {w : World} {d : TreeD} {cs : List Value}, OwnT n S w d cs → (∀ b, S b → lo ≤ b ∧ b < hi) → C_Tree n lo hi w d cs
  | 0, _, _, _, _, _, _, h, _ => h.none.elim
  | n + 1, lo, hi, S, w, d, cs, h, hS => by
    obtain ⟨v4, v5, S4, S5, e, a0, a2, a3, d4, d5, a4, a5⟩ := h.out
    refine C_Tree.into ⟨v4, v5, e, a0, a2, a3, a4.toC (fun b hb => hS b (d4 b hb).1), ?_⟩
    obtain ⟨A, c, rfl, h1, h2, h3⟩ := a5
    refine ⟨A, c, rfl, h1, h2, fun hp => ?_⟩
    obtain ⟨g, F, rfl, hg, hF, hF2, cur, hr, hc⟩ := h3 hp
    refine ⟨g, 0, rfl, (hS g (d5 g hg)).1, (hS g (d5 g hg)).2, fun i d hd => ?_⟩
    obtain ⟨es, e1, e2, e3⟩ := hc i d hd
    refine ⟨es, e1, fun j hj => ?_, OwnT.toC e3 (fun b hb => hS b (d5 b (hF i b hb).1))⟩
    rw [cell_of_row w g _ cur _ _ hr, Nat.zero_add]
    exact e2 j hj
theorem OwnK.toC {n lo hi : Nat} {S : Nat → Prop} {w : World} {l : List TreeD} {v : Value} (h : OwnK (OwnT n) S w l v) (hS : ∀ b, S b → lo ≤ b ∧ b < hi) : Sl_Tree n lo hi w l v := by
  obtain ⟨A, c, rfl, h1, h2, h3⟩ := h
  refine ⟨A, c, rfl, h1, h2, fun hp => ?_⟩
  obtain ⟨g, F, rfl, hg, hF, hF2, cur, hr, hc⟩ := h3 hp
  refine ⟨g, 0, rfl, (hS g hg).1, (hS g hg).2, fun i d hd => ?_⟩
  obtain ⟨es, e1, e2, e3⟩ := hc i d hd
  refine ⟨es, e1, fun j hj => ?_, OwnT.toC e3 (fun b hb => hS b (hF i b hb).1)⟩
  rw [cell_of_row w g _ cur _ _ hr, Nat.zero_add]
  exact e2 j hj

/-! ### Marks -/
def cntT : Nat → TreeD → Nat
  | 0, _ => 0
  | n + 1, d => d.keys.length + szL (fun t => 4 + cntT n t) d.kids
def cntL (n : Nat) (l : List TreeD) : Nat := szL (fun t => 4 + cntT n t) l
theorem cntT_succ (n : Nat) (d : TreeD) : cntT (n + 1) d = d.keys.length + cntL n d.kids := rfl
theorem cntL_succ (n : Nat) (l : List TreeD) (k : Nat) (d : TreeD) (h : l[k]? = some d) : cntL n (l.take (k + 1)) = cntL n (l.take k) + (4 + cntT n d) := szL_take_succ _ l k d h
theorem cntL_le (n : Nat) (l : List TreeD) (k : Nat) : cntL n (l.take k) ≤ cntL n l := szL_take_le _ l k
theorem szL_set {D : Type} (f : D → Nat) : ∀ (l : List D) (k : Nat) (d e : D), l[k]? = some d → f e = f d → szL f (l.set k e) = szL f l
  | [], k, d, e, h, _ => by simp at h
  | x :: l, 0, d, e, h, he => by simp at h; subst h; simp [szL, he]
  | x :: l, k + 1, d, e, h, he => by simp at h; simp [szL, szL_set f l k d e h he]
/-- The tree t, a member of a list, bears the marks from k on; M says so of what lies below it. -/
def MkE (M : Int → TreeD → Prop) (k : Int) (t : TreeD) : Prop := t.kind = k ∧ t.flag = ((k + 1) % 3 == 0) ∧ t.num = k + 1 + 1 ∧ t.text = mkI (k + 1 + 1 + 1) ∧ M (k + 1 + 1 + 1 + 1) t
def MkT : Nat → Int → TreeD → Prop
  | 0, _, _ => False
  | n + 1, k, d => MkSs k d.keys ∧ ∀ (i : Nat) (t : TreeD), d.kids[i]? = some t → MkE (MkT n) (k + d.keys.length + cntL n (d.kids.take i)) t
def MkLs (n : Nat) (k : Int) (l : List TreeD) : Prop := ∀ (i : Nat) (t : TreeD), l[i]? = some t → MkE (MkT n) (k + cntL n (l.take i)) t
theorem MkT.into {n : Nat} {k : Int} {d : TreeD} (h1 : MkSs k d.keys) (h2 : MkLs n (k + d.keys.length) d.kids) : MkT (n + 1) k d := ⟨h1, h2⟩
theorem MkT.out {n : Nat} {k : Int} {d : TreeD} (h : MkT (n + 1) k d) : MkSs k d.keys ∧ MkLs n (k + d.keys.length) d.kids := h
end Go.Proofs.YtdogjeoiggnhaaaDoor
