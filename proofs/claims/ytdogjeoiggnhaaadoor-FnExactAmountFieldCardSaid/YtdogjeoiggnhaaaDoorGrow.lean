/- Rows of strings and of trees that grow by append: what is known of them. No conditions. -/
import Derived.Test.YtdogjeoiggnhaaaDoorOwn
import Derived.Deep.AppendLies
import Derived.OwnWalk
namespace Go.Proofs.YtdogjeoiggnhaaaDoor
open Go.RowKit

/-- v is a slice of the strings l, in a row that the call has made behind block base; it may be appended to. -/
def GrowS (base hi : Nat) (w : World) (l : List ByteArray) (v : Value) : Prop := w.ownsRow base 9 1 v l.length (l.map Value.string) ∧ (∀ g, v.ownBlock = some g → g < hi) ∧ ∀ s ∈ l, s.size ≤ 9223372036854775807
theorem GrowS.nil (base hi : Nat) (w : World) : GrowS base hi w [] (.slice none 0 0) := ⟨World.ownsRow_nil _ _ _ _, fun g h => (by cases h), fun s h => (by cases h)⟩
theorem GrowS.carry {base hi hi' : Nat} {w w' : World} {l : List ByteArray} {v : Value} (h : GrowS base hi w l v) (hh : hi ≤ hi') (hb : ∀ g, base ≤ g → g < hi → w'.heap[g]? = w.heap[g]?) : GrowS base hi' w' l v :=
  ⟨ownsRow_carry h.1 (fun g hg => hb g (h.1.lt g hg).1 (h.2.1 g hg)), fun g hg => Nat.lt_of_lt_of_le (h.2.1 g hg) hh, h.2.2⟩
theorem GrowS.form {base hi : Nat} {w : World} {l : List ByteArray} {v : Value} (h : GrowS base hi w l v) : ∃ A c, v = .slice A l.length c := by
  rcases h.1.2 with ⟨rfl, h0⟩ | ⟨g, cap, cur, rfl, _⟩
  · exact ⟨_, _, by rw [h0]⟩
  · exact ⟨_, _, rfl⟩
theorem GrowS.own {base hi : Nat} {w : World} {l : List ByteArray} {v : Value} (h : GrowS base hi w l v) : OwnS (fun b => base ≤ b ∧ b < hi) w l v := by
  obtain ⟨⟨hl, h1⟩, h2, h3⟩ := h
  rcases h1 with ⟨rfl, h0⟩ | ⟨g, cap, cur, rfl, hb, hg, hnc, hcm, hcs, ht⟩
  · exact ⟨none, 0, by rw [h0], by omega, by omega, fun hp => by omega⟩
  · refine ⟨_, cap, rfl, hnc, by unfold maxLen at hcm; omega, fun _ => ⟨g, cur, rfl, ⟨hb, h2 g rfl⟩, hg, fun i s hs => ?_⟩⟩
    refine ⟨?_, h3 s (List.mem_of_getElem? hs)⟩
    have hi : i < l.length := (List.getElem?_eq_some_iff.1 hs).1
    have : (cur.toList.take (l.length * 1))[i]? = some (.string s) := by rw [ht, List.getElem?_map, hs]; rfl
    rw [List.getElem?_take, if_pos (by omega)] at this
    simpa using this
/-- One string more. -/
theorem GrowS.push {base hi : Nat} {w w' : World} {l : List ByteArray} {v : Value} {s : ByteArray} {g cap : Nat} (h : GrowS base hi w l v) (m : Nat) (hm : l.length = m) (hs : s.size ≤ 9223372036854775807)
    (ho : w'.ownsRow base 9 1 (.slice (some ⟨g, 0, none⟩) (m + 1) cap) (m + 1) (l.map Value.string ++ [.string s])) (hg : g < w'.heap.size) : GrowS base w'.heap.size w' (l ++ [s]) (.slice (some ⟨g, 0, none⟩) (m + 1) cap) := by
  subst hm
  refine ⟨by simpa using ho, fun g' hg' => ?_, fun x hx => ?_⟩
  · simp [Value.ownBlock] at hg'; omega
  · rcases List.mem_append.1 hx with hx | hx
    · exact h.2.2 x hx
    · simp at hx; subst hx; exact hs
/-- Many strings more. -/
theorem GrowS.pushes {base hi : Nat} {w w' : World} {l m : List ByteArray} {v v' : Value} (h : GrowS base hi w l v) (hm : ∀ s ∈ m, s.size ≤ 9223372036854775807)
    (ho : w'.ownsRow base 9 1 v' (l.length + m.length) (l.map Value.string ++ m.map Value.string)) : GrowS base w'.heap.size w' (l ++ m) v' := by
  refine ⟨by simpa using ho, fun g' hg' => (ho.lt g' hg').2, fun x hx => ?_⟩
  rcases List.mem_append.1 hx with hx | hx
  · exact h.2.2 x hx
  · exact hm x hx
theorem flat_len : ∀ (ess : List (List Value)), (∀ es ∈ ess, es.length = 6) → ess.flatten.length = ess.length * 6
  | [], _ => rfl
  | es :: ess, h => by
    rw [List.flatten_cons, List.length_append, h es (by simp), flat_len ess (fun x hx => h x (by simp [hx])), List.length_cons]
    omega
theorem flat_get : ∀ (ess : List (List Value)) (i : Nat) (es : List Value) (j : Nat), (∀ es ∈ ess, es.length = 6) → ess[i]? = some es → j < 6 → ess.flatten[i * 6 + j]? = es[j]?
  | [], i, es, j, _, h, _ => by simp at h
  | x :: ess, 0, es, j, hl, h, hj => by
    simp at h
    subst h
    rw [List.flatten_cons, List.getElem?_append_left (by rw [hl x (by simp)]; omega)]
    simp
  | x :: ess, i + 1, es, j, hl, h, hj => by
    simp at h
    have hx := hl x (by simp)
    rw [List.flatten_cons, List.getElem?_append_right (by omega), hx, show (i + 1) * 6 + j - 6 = i * 6 + j by omega]
    exact flat_get ess i es j (fun y hy => hl y (by simp [hy])) h hj
/-- v is a slice of the trees l, in a row that the call has made between the blocks base and hi; what they point to lies there too. -/
def GrowK (n base hi : Nat) (w : World) (l : List TreeD) (v : Value) : Prop :=
  ∃ (ess : List (List Value)) (F : Nat → Nat → Prop), ess.length = l.length ∧ (∀ es ∈ ess, es.length = 6) ∧ w.ownsRow base 33 6 v l.length ess.flatten ∧ (∀ g, v.ownBlock = some g → g < hi) ∧
    (∀ i b, F i b → base ≤ b ∧ b < hi ∧ v.ownBlock ≠ some b) ∧ (∀ i j b, F i b → F j b → i = j) ∧ ∀ i d es, l[i]? = some d → ess[i]? = some es → OwnT n (F i) w d es
theorem GrowK.nil (n base hi : Nat) (w : World) : GrowK n base hi w [] (.slice none 0 0) :=
  ⟨[], fun _ _ => False, rfl, fun _ h => (by cases h), World.ownsRow_nil _ _ _ _, fun g h => (by cases h), fun _ _ h => h.elim, fun _ _ _ h => h.elim, fun i d es h => (by simp at h)⟩
theorem GrowK.form {n base hi : Nat} {w : World} {l : List TreeD} {v : Value} (h : GrowK n base hi w l v) : ∃ A c, v = .slice A l.length c := by
  obtain ⟨ess, F, -, -, h1, -⟩ := h
  rcases h1.2 with ⟨rfl, h0⟩ | ⟨g, cap, cur, rfl, _⟩
  · exact ⟨_, _, by rw [h0]⟩
  · exact ⟨_, _, rfl⟩
theorem GrowK.carry {n base hi hi' : Nat} {w w' : World} {l : List TreeD} {v : Value} (h : GrowK n base hi w l v) (hh : hi ≤ hi') (hb : ∀ g, base ≤ g → g < hi → w'.heap[g]? = w.heap[g]?) : GrowK n base hi' w' l v := by
  obtain ⟨ess, F, h1, h2, h3, h4, h5, h6, h7⟩ := h
  exact ⟨ess, F, h1, h2, ownsRow_carry h3 (fun g hg => hb g (h3.lt g hg).1 (h4 g hg)), fun g hg => Nat.lt_of_lt_of_le (h4 g hg) hh, fun i b hF => ⟨(h5 i b hF).1, Nat.lt_of_lt_of_le (h5 i b hF).2.1 hh, (h5 i b hF).2.2⟩, h6,
    fun i d es hd he => (h7 i d es hd he).carry (fun b hF => hb b (h5 i b hF).1 (h5 i b hF).2.1) (fun _ h => h)⟩
theorem GrowK.own {n base hi : Nat} {w : World} {l : List TreeD} {v : Value} (h : GrowK n base hi w l v) : OwnK (OwnT n) (fun b => base ≤ b ∧ b < hi) w l v := by
  obtain ⟨ess, F, e1, e2, ⟨hl, h1⟩, h4, h5, h6, h7⟩ := h
  rcases h1 with ⟨rfl, h0⟩ | ⟨g, cap, cur, rfl, hb, hg, hnc, hcm, hcs, ht⟩
  · exact ⟨none, 0, by rw [h0], by omega, by omega, fun hp => by omega⟩
  · refine ⟨_, cap, rfl, hnc, by unfold maxLen at hcm; omega, fun _ => ⟨g, F, rfl, ⟨hb, h4 g rfl⟩, fun i b hF => ⟨⟨(h5 i b hF).1, (h5 i b hF).2.1⟩, fun e => (h5 i b hF).2.2 (by rw [e]; rfl)⟩, h6, cur, hg, fun i d hd => ?_⟩⟩
    have hi : i < l.length := (List.getElem?_eq_some_iff.1 hd).1
    obtain ⟨es, hes⟩ := exists_at (l := ess) (k := i) (by omega)
    refine ⟨es, e2 es (List.mem_of_getElem? hes), fun j hj => ?_, h7 i d es hd hes⟩
    have hf := flat_get ess i es j e2 hes hj
    rw [← ht, List.getElem?_take, if_pos (by omega)] at hf
    simpa using hf
theorem OwnT.one {n : Nat} {S : Nat → Prop} {w : World} {d : TreeD} {es : List Value} (h : OwnT n S w d es) : ∀ u ∈ es, u.oneCell' = true := by
  obtain ⟨A4, c4, A5, c5, rfl, -⟩ := h.flat
  intro u hu
  simp at hu
  rcases hu with rfl | rfl | rfl | rfl | rfl | rfl <;> rfl
theorem OwnT.len {n : Nat} {S : Nat → Prop} {w : World} {d : TreeD} {es : List Value} (h : OwnT n S w d es) : es.length = 6 := by
  obtain ⟨A4, c4, A5, c5, rfl, -⟩ := h.flat
  rfl
/-- One tree more. -/
theorem GrowK.push {n base hi : Nat} {w w' : World} {l : List TreeD} {v : Value} {d : TreeD} {es : List Value} {S : Nat → Prop} {g cap : Nat} (m : Nat) (hm : l.length = m) (hhi : hi ≤ w.heap.size) (hd : OwnT n S w d es) (hS : ∀ b, S b → hi ≤ b ∧ b < w.heap.size) (hbh : base ≤ hi)
    (ess : List (List Value)) (F : Nat → Nat → Prop) (e1 : ess.length = l.length) (e2 : ∀ es ∈ ess, es.length = 6) (h4 : ∀ g, v.ownBlock = some g → g < hi) (h5 : ∀ i b, F i b → base ≤ b ∧ b < hi ∧ v.ownBlock ≠ some b) (h6 : ∀ i j b, F i b → F j b → i = j) (h7 : ∀ i d es, l[i]? = some d → ess[i]? = some es → OwnT n (F i) w d es)
    (ho : w'.ownsRow base 33 6 (.slice (some ⟨g, 0, none⟩) (m + 1) cap) (m + 1) (ess.flatten ++ es)) (hgr : w.grownBy w' v.ownBlock) (hat : v.ownBlock = some g ∨ w.heap.size ≤ g) (hg : g < w'.heap.size) :
    GrowK n base w'.heap.size w' (l ++ [d]) (.slice (some ⟨g, 0, none⟩) (m + 1) cap) := by
  subst hm
  have hkeep : ∀ b, b < w.heap.size → v.ownBlock ≠ some b → w'.heap[b]? = w.heap[b]? := fun b h1 h2 => hgr.block b h1 (fun e => h2 e.symm)
  refine ⟨ess ++ [es], fun i b => (i < l.length ∧ F i b) ∨ (i = l.length ∧ S b), by simp [e1], ?_, by simpa using ho, ?_, ?_, ?_, ?_⟩
  · intro x hx
    rcases List.mem_append.1 hx with hx | hx
    · exact e2 x hx
    · simp at hx; subst hx; exact hd.len
  · intro g' hg'
    simp [Value.ownBlock] at hg'
    omega
  · rintro i b (⟨hi, hF⟩ | ⟨hi, hF⟩)
    · obtain ⟨f1, f2, f3⟩ := h5 i b hF
      refine ⟨f1, by have := hgr.size; omega, fun e => ?_⟩
      simp [Value.ownBlock] at e
      rcases hat with hat | hat
      · rw [hat, e] at f3; exact f3 rfl
      · omega
    · obtain ⟨f1, f2⟩ := hS b hF
      refine ⟨by omega, by have := hgr.size; omega, fun e => ?_⟩
      simp [Value.ownBlock] at e
      rcases hat with hat | hat
      · have := h4 g hat; omega
      · omega
  · rintro i j b (⟨hi, hF⟩ | ⟨hi, hF⟩) (⟨hj, hG⟩ | ⟨hj, hG⟩)
    · exact h6 i j b hF hG
    · have := (h5 i b hF).2.1; have := (hS b hG).1; omega
    · have := (h5 j b hG).2.1; have := (hS b hF).1; omega
    · omega
  · intro i d' es' hd' hes'
    by_cases hlt : i < l.length
    · rw [List.getElem?_append_left hlt] at hd'
      rw [List.getElem?_append_left (by omega)] at hes'
      refine (h7 i d' es' hd' hes').carry (fun b hF => hkeep b ?_ (h5 i b hF).2.2) (fun b hF => .inl ⟨hlt, hF⟩)
      have := (h5 i b hF).2.1
      omega
    · have hil : i = l.length := by
        have := (List.getElem?_eq_some_iff.1 hd').1
        simp at this
        omega
      subst hil
      rw [List.getElem?_append_right (by omega)] at hd'
      rw [List.getElem?_append_right (by omega)] at hes'
      simp at hd'
      simp [e1] at hes'
      subst hd' hes'
      refine hd.carry (fun b hF => hkeep b (hS b hF).2 (fun e => ?_)) (fun b hF => .inr ⟨rfl, hF⟩)
      have := h4 b e
      have := (hS b hF).1
      omega
end Go.Proofs.YtdogjeoiggnhaaaDoor
