/- Written by wip/tools/pack.py: the texts that FnExactBracedNormal needs, without what it does not need. No conditions. -/
import Derived.Test.YtffelpdefjkeaaaGreatDoorKBrN10
import Derived.Deep.AppendLies
import Derived.OwnWalk
import Derived.Deep.RegionLaw
import Derived.Deep.CutBlock
import Derived.Deep.CutRange
namespace Go.Proofs.YtffelpdefjkeaaaGreatDoor
open Go.RowKit
/-- v is a slice of the strings l, in a row that the call has made behind block base; it may be appended to. -/
def GrowS (base hi : Nat) (w : World) (l : List ByteArray) (v : Value) : Prop := w.ownsRow base 9 1 v l.length (l.map Value.string) ∧ (∀ g, v.ownBlock = some g → g < hi) ∧ ∀ s ∈ l, s.size ≤ 9223372036854775807
theorem GrowS.nil (base hi : Nat) (w : World) : GrowS base hi w [] (.slice none 0 0) := ⟨World.ownsRow_nil _ _ _ _, fun g h => (by cases h), fun s h => (by cases h)⟩
theorem GrowS.carry {base hi hi' : Nat} {w w' : World} {l : List ByteArray} {v : Value} (h : GrowS base hi w l v) (hh : hi ≤ hi') (hb : ∀ g, base ≤ g → g < hi → w'.heap[g]? = w.heap[g]?) : GrowS base hi' w' l v :=
  ⟨ownsRow_carry h.1 (fun g hg => hb g (h.1.lt g hg).1 (h.2.1 g hg)), fun g hg => Nat.lt_of_lt_of_le (h.2.1 g hg) hh, h.2.2⟩
theorem GrowS.form {base hi : Nat} {w : World} {l : List ByteArray} {v : Value} (h : GrowS base hi w l v) : ∃ A c, v = .slice A l.length c := by
  rcases h.1.2 with ⟨rfl, h0⟩ | ⟨g, cap, cur, rfl, _⟩
  · exact ⟨_, _, by rw [h0]⟩
  · exact ⟨_, _, rfl⟩
theorem GrowS.own {base hi : Nat} {w : World} {l : List ByteArray} {v : Value} (h : GrowS base hi w l v) : OwnS (fun b => base ≤ b ∧ b < hi) w l v := by
  obtain ⟨⟨hl, h1⟩, h2, h3⟩ := h
  rcases h1 with ⟨rfl, h0⟩ | ⟨g, cap, cur, rfl, hb, hg, hnc, hcm, hcs, ht⟩
  · exact ⟨none, 0, by rw [h0], by omega, by omega, fun hp => by omega⟩
  · refine ⟨_, cap, rfl, hnc, by unfold maxLen at hcm; omega, fun _ => ⟨g, cur, rfl, ⟨hb, h2 g rfl⟩, hg, fun i s hs => ?_⟩⟩
    refine ⟨?_, h3 s (List.mem_of_getElem? hs)⟩
    have hi : i < l.length := (List.getElem?_eq_some_iff.1 hs).1
    have : (cur.toList.take (l.length * 1))[i]? = some (.string s) := by rw [ht, List.getElem?_map, hs]; rfl
    rw [List.getElem?_take, if_pos (by omega)] at this
    simpa using this
/-- One string more. -/
theorem GrowS.push {base hi : Nat} {w w' : World} {l : List ByteArray} {v : Value} {s : ByteArray} {g cap : Nat} (h : GrowS base hi w l v) (m : Nat) (hm : l.length = m) (hs : s.size ≤ 9223372036854775807)
    (ho : w'.ownsRow base 9 1 (.slice (some ⟨g, 0, none⟩) (m + 1) cap) (m + 1) (l.map Value.string ++ [.string s])) (hg : g < w'.heap.size) : GrowS base w'.heap.size w' (l ++ [s]) (.slice (some ⟨g, 0, none⟩) (m + 1) cap) := by
  subst hm
  refine ⟨by simpa using ho, fun g' hg' => ?_, fun x hx => ?_⟩
  · simp [Value.ownBlock] at hg'; omega
  · rcases List.mem_append.1 hx with hx | hx
    · exact h.2.2 x hx
    · simp at hx; subst hx; exact hs
theorem flat_get : ∀ (ess : List (List Value)) (i : Nat) (es : List Value) (j : Nat), (∀ es ∈ ess, es.length = 6) → ess[i]? = some es → j < 6 → ess.flatten[i * 6 + j]? = es[j]?
  | [], i, es, j, _, h, _ => by simp at h
  | x :: ess, 0, es, j, hl, h, hj => by
    simp at h
    subst h
    rw [List.flatten_cons, List.getElem?_append_left (by rw [hl x (by simp)]; omega)]
    simp
  | x :: ess, i + 1, es, j, hl, h, hj => by
    simp at h
    have hx := hl x (by simp)
    rw [List.flatten_cons, List.getElem?_append_right (by omega), hx, show (i + 1) * 6 + j - 6 = i * 6 + j by omega]
    exact flat_get ess i es j (fun y hy => hl y (by simp [hy])) h hj
/-- v is a slice of the trees l, in a row that the call has made between the blocks base and hi; what they point to lies there too. -/
def GrowK (n base hi : Nat) (w : World) (l : List TreeD) (v : Value) : Prop :=
  ∃ (ess : List (List Value)) (F : Nat → Nat → Prop), ess.length = l.length ∧ (∀ es ∈ ess, es.length = 6) ∧ w.ownsRow base 27 6 v l.length ess.flatten ∧ (∀ g, v.ownBlock = some g → g < hi) ∧
    (∀ i b, F i b → base ≤ b ∧ b < hi ∧ v.ownBlock ≠ some b) ∧ (∀ i j b, F i b → F j b → i = j) ∧ ∀ i d es, l[i]? = some d → ess[i]? = some es → OwnT n (F i) w d es
theorem GrowK.nil (n base hi : Nat) (w : World) : GrowK n base hi w [] (.slice none 0 0) :=
  ⟨[], fun _ _ => False, rfl, fun _ h => (by cases h), World.ownsRow_nil _ _ _ _, fun g h => (by cases h), fun _ _ h => h.elim, fun _ _ _ h => h.elim, fun i d es h => (by simp at h)⟩
theorem GrowK.form {n base hi : Nat} {w : World} {l : List TreeD} {v : Value} (h : GrowK n base hi w l v) : ∃ A c, v = .slice A l.length c := by
  obtain ⟨ess, F, -, -, h1, -⟩ := h
  rcases h1.2 with ⟨rfl, h0⟩ | ⟨g, cap, cur, rfl, _⟩
  · exact ⟨_, _, by rw [h0]⟩
  · exact ⟨_, _, rfl⟩
theorem GrowK.carry {n base hi hi' : Nat} {w w' : World} {l : List TreeD} {v : Value} (h : GrowK n base hi w l v) (hh : hi ≤ hi') (hb : ∀ g, base ≤ g → g < hi → w'.heap[g]? = w.heap[g]?) : GrowK n base hi' w' l v := by
  obtain ⟨ess, F, h1, h2, h3, h4, h5, h6, h7⟩ := h
  exact ⟨ess, F, h1, h2, ownsRow_carry h3 (fun g hg => hb g (h3.lt g hg).1 (h4 g hg)), fun g hg => Nat.lt_of_lt_of_le (h4 g hg) hh, fun i b hF => ⟨(h5 i b hF).1, Nat.lt_of_lt_of_le (h5 i b hF).2.1 hh, (h5 i b hF).2.2⟩, h6,
    fun i d es hd he => (h7 i d es hd he).carry (fun b hF => hb b (h5 i b hF).1 (h5 i b hF).2.1) (fun _ h => h)⟩
theorem GrowK.own {n base hi : Nat} {w : World} {l : List TreeD} {v : Value} (h : GrowK n base hi w l v) : OwnK (OwnT n) (fun b => base ≤ b ∧ b < hi) w l v := by
  obtain ⟨ess, F, e1, e2, ⟨hl, h1⟩, h4, h5, h6, h7⟩ := h
  rcases h1 with ⟨rfl, h0⟩ | ⟨g, cap, cur, rfl, hb, hg, hnc, hcm, hcs, ht⟩
  · exact ⟨none, 0, by rw [h0], by omega, by omega, fun hp => by omega⟩
  · refine ⟨_, cap, rfl, hnc, by unfold maxLen at hcm; omega, fun _ => ⟨g, F, rfl, ⟨hb, h4 g rfl⟩, fun i b hF => ⟨⟨(h5 i b hF).1, (h5 i b hF).2.1⟩, fun e => (h5 i b hF).2.2 (by rw [e]; rfl)⟩, h6, cur, hg, fun i d hd => ?_⟩⟩
    have hi : i < l.length := (List.getElem?_eq_some_iff.1 hd).1
    obtain ⟨es, hes⟩ := exists_at (l := ess) (k := i) (by omega)
    refine ⟨es, e2 es (List.mem_of_getElem? hes), fun j hj => ?_, h7 i d es hd hes⟩
    have hf := flat_get ess i es j e2 hes hj
    rw [← ht, List.getElem?_take, if_pos (by omega)] at hf
    simpa using hf
theorem OwnT.one {n : Nat} {S : Nat → Prop} {w : World} {d : TreeD} {es : List Value} (h : OwnT n S w d es) : ∀ u ∈ es, u.oneCell' = true := by
  obtain ⟨A4, c4, A5, c5, rfl, -⟩ := h.flat
  intro u hu
  simp at hu
  rcases hu with rfl | rfl | rfl | rfl | rfl | rfl <;> rfl
theorem OwnT.len {n : Nat} {S : Nat → Prop} {w : World} {d : TreeD} {es : List Value} (h : OwnT n S w d es) : es.length = 6 := by
  obtain ⟨A4, c4, A5, c5, rfl, -⟩ := h.flat
  rfl
/-- One tree more. -/
theorem GrowK.push {n base hi : Nat} {w w' : World} {l : List TreeD} {v : Value} {d : TreeD} {es : List Value} {S : Nat → Prop} {g cap : Nat} (m : Nat) (hm : l.length = m) (hhi : hi ≤ w.heap.size) (hd : OwnT n S w d es) (hS : ∀ b, S b → hi ≤ b ∧ b < w.heap.size) (hbh : base ≤ hi)
    (ess : List (List Value)) (F : Nat → Nat → Prop) (e1 : ess.length = l.length) (e2 : ∀ es ∈ ess, es.length = 6) (h4 : ∀ g, v.ownBlock = some g → g < hi) (h5 : ∀ i b, F i b → base ≤ b ∧ b < hi ∧ v.ownBlock ≠ some b) (h6 : ∀ i j b, F i b → F j b → i = j) (h7 : ∀ i d es, l[i]? = some d → ess[i]? = some es → OwnT n (F i) w d es)
    (ho : w'.ownsRow base 27 6 (.slice (some ⟨g, 0, none⟩) (m + 1) cap) (m + 1) (ess.flatten ++ es)) (hgr : w.grownBy w' v.ownBlock) (hat : v.ownBlock = some g ∨ w.heap.size ≤ g) (hg : g < w'.heap.size) :
    GrowK n base w'.heap.size w' (l ++ [d]) (.slice (some ⟨g, 0, none⟩) (m + 1) cap) := by
  subst hm
  have hkeep : ∀ b, b < w.heap.size → v.ownBlock ≠ some b → w'.heap[b]? = w.heap[b]? := fun b h1 h2 => hgr.block b h1 (fun e => h2 e.symm)
  refine ⟨ess ++ [es], fun i b => (i < l.length ∧ F i b) ∨ (i = l.length ∧ S b), by simp [e1], ?_, by simpa using ho, ?_, ?_, ?_, ?_⟩
  · intro x hx
    rcases List.mem_append.1 hx with hx | hx
    · exact e2 x hx
    · simp at hx; subst hx; exact hd.len
  · intro g' hg'
    simp [Value.ownBlock] at hg'
    omega
  · rintro i b (⟨hi, hF⟩ | ⟨hi, hF⟩)
    · obtain ⟨f1, f2, f3⟩ := h5 i b hF
      refine ⟨f1, by have := hgr.size; omega, fun e => ?_⟩
      simp [Value.ownBlock] at e
      rcases hat with hat | hat
      · rw [hat, e] at f3; exact f3 rfl
      · omega
    · obtain ⟨f1, f2⟩ := hS b hF
      refine ⟨by omega, by have := hgr.size; omega, fun e => ?_⟩
      simp [Value.ownBlock] at e
      rcases hat with hat | hat
      · have := h4 g hat; omega
      · omega
  · rintro i j b (⟨hi, hF⟩ | ⟨hi, hF⟩) (⟨hj, hG⟩ | ⟨hj, hG⟩)
    · exact h6 i j b hF hG
    · have := (h5 i b hF).2.1; have := (hS b hG).1; omega
    · have := (h5 j b hG).2.1; have := (hS b hF).1; omega
    · omega
  · intro i d' es' hd' hes'
    by_cases hlt : i < l.length
    · rw [List.getElem?_append_left hlt] at hd'
      rw [List.getElem?_append_left (by omega)] at hes'
      refine (h7 i d' es' hd' hes').carry (fun b hF => hkeep b ?_ (h5 i b hF).2.2) (fun b hF => .inl ⟨hlt, hF⟩)
      have := (h5 i b hF).2.1
      omega
    · have hil : i = l.length := by
        have := (List.getElem?_eq_some_iff.1 hd').1
        simp at this
        omega
      subst hil
      rw [List.getElem?_append_right (by omega)] at hd'
      rw [List.getElem?_append_right (by omega)] at hes'
      simp at hd'
      simp [e1] at hes'
      subst hd' hes'
      refine hd.carry (fun b hF => hkeep b (hS b hF).2 (fun e => ?_)) (fun b hF => .inr ⟨rfl, hF⟩)
      have := h4 b e
      have := (hS b hF).1
      omega
end Go.Proofs.YtffelpdefjkeaaaGreatDoor
namespace Go.Proofs.YtffelpdefjkeaaaGreatDoor
open Go.RowKit Go.Lib
theorem Aside.join {S S' : Nat → Prop} {a b c : World} (h : Aside S a b) (k : Aside S' b c) (hs : ∀ q, S' q → q < a.heap.size → S q) : Aside S a c :=
  ⟨k.os.trans h.os, k.tape.trans h.tape, k.output.trans h.output, Nat.le_trans h.size k.size, fun i hi hn => (k.block i (Nat.lt_of_lt_of_le hi h.size) (fun hq => hn (hs i hq hi))).trans (h.block i hi hn)⟩
/-- A leaf lies nowhere. -/
theorem own_leaf {n : Nat} {S : Nat → Prop} {w : World} {k num : Int} {f : Bool} {t : ByteArray} (hk : I64 k) (hn : I64 num) (ht : t.size ≤ 9223372036854775807) : OwnT (n + 1) S w ⟨k, f, num, t, [], []⟩ [.int .i64 k, .bool f, .int .i64 num, .string t, .slice none 0 0, .slice none 0 0] :=
  OwnT.into ⟨_, _, fun _ => False, fun _ => False, rfl, hk, hn, ht, fun _ h => h.elim, fun _ h => h.elim, ⟨none, 0, rfl, Nat.le_refl _, by omega, fun h => absurd h (by simp)⟩, ⟨none, 0, rfl, Nat.le_refl _, by omega, fun h => absurd h (by simp)⟩⟩
/-- The list at sign p, behind its opening sign. -/
def listR (L : List SignD) (E : Int) (n d p m : Nat) : Res := if kindAt L p = 4 then .good (tList []) (p + 1) m else readJ L E n (.list d []) p m
/-- The map at sign p, behind its opening sign. -/
def pairsR (L : List SignD) (E : Int) (n d p m : Nat) : Res := if kindAt L p = 2 then .good (tMap [] []) (p + 1) m else readJ L E n (.pairs d [] []) p m
def BadT (R : Nat → Nat → Flt → World → Prop) (b : Nat) (N : Nat) (f : Flt) (w : World) (e : Ending) (w' : World) : Prop :=
  ∃ (k : Int) (fl : Bool) (nu : Int) (t : ByteArray) (A4 : Option Addr) (n4 c4 : Nat) (A5 : Option Addr) (n5 c5 p' m' : Nat), e = .returned (.agg #[.int .i64 k, .bool fl, .int .i64 nu, .string t, .slice A4 n4 c4, .slice A5 n5 c5]) ∧ R p' m' f w' ∧ p' ≤ N ∧ Aside (fun q => q = b) w w'
def GoodT (R : Nat → Nat → Flt → World → Prop) (b : Nat) (nT : Nat) (t : TreeD) (q m' : Nat) (w : World) (e : Ending) (w' : World) : Prop :=
  ∃ cs, e = .returned (.agg cs.toArray) ∧ OwnT nT (fun x => w.heap.size ≤ x ∧ x < w'.heap.size) w' t cs ∧ R q m' flt0 w' ∧ Aside (fun q => q = b) w w'
/-- What a reader's call yields; R tells the reader's box b. -/
def ValE (R : Nat → Nat → Flt → World → Prop) (b N nT : Nat) (r : Res) (w : World) (e : Ending) (w' : World) : Prop := match r with
  | .bad f => BadT R b N f w e w'
  | .good t q m' => GoodT R b nT t q m' w e w'
theorem ValE.bad {R : Nat → Nat → Flt → World → Prop} {b N nT : Nat} {r : Res} {f : Flt} {w w' : World} {e : Ending} (hr : r = .bad f) (h : BadT R b N f w e w') : ValE R b N nT r w e w' := by subst hr; exact h
theorem ValE.good {R : Nat → Nat → Flt → World → Prop} {b N nT : Nat} {r : Res} {t : TreeD} {q m' : Nat} {w w' : World} {e : Ending} (hr : r = .good t q m') (h : GoodT R b nT t q m' w e w') : ValE R b N nT r w e w' := by subst hr; exact h
theorem ValE.isBad {R : Nat → Nat → Flt → World → Prop} {b N nT : Nat} {r : Res} {f : Flt} {w w' : World} {e : Ending} (hr : r = .bad f) (h : ValE R b N nT r w e w') : BadT R b N f w e w' := by subst hr; exact h
theorem ValE.isGood {R : Nat → Nat → Flt → World → Prop} {b N nT : Nat} {r : Res} {t : TreeD} {q m' : Nat} {w w' : World} {e : Ending} (hr : r = .good t q m') (h : ValE R b N nT r w e w') : GoodT R b nT t q m' w e w' := by subst hr; exact h
theorem readJ_form {L : List SignD} {E : Int} {n d p m : Nat} (h : ¬ (kindAt L p = 1 ∨ kindAt L p = 3 ∨ 7 ≤ kindAt L p)) : readJ L E (n + 1) (.value d) p m = .bad (badF L E 4 p) := by rw [readJ_value, if_pos h]
theorem readJ_deep {L : List SignD} {E : Int} {n d p m : Nat} (h : kindAt L p = 1 ∨ kindAt L p = 3 ∨ 7 ≤ kindAt L p) (h2 : 8 < d) : readJ L E (n + 1) (.value d) p m = .bad (badF L E 6 p) := by rw [readJ_value, if_neg (fun g => g h), if_pos h2]
theorem readJ_many {L : List SignD} {E : Int} {n d p m : Nat} (h : kindAt L p = 1 ∨ kindAt L p = 3 ∨ 7 ≤ kindAt L p) (h2 : ¬ 8 < d) (h3 : 300 ≤ m) : readJ L E (n + 1) (.value d) p m = .bad (badF L E 7 p) := by rw [readJ_value, if_neg (fun g => g h), if_neg h2, if_pos h3]
theorem readJ_go {L : List SignD} {E : Int} {n d p m : Nat} {x : SignD} (hx : L[p]? = some x) (h : kindAt L p = 1 ∨ kindAt L p = 3 ∨ 7 ≤ kindAt L p) (h2 : ¬ 8 < d) (h3 : ¬ 300 ≤ m) : readJ L E (n + 1) (.value d) p m =
    if x.kind = 7 then (if 400 < x.text.size then .bad (badF L E 8 p) else .good (tText x.text) (p + 1) (m + 1))
    else if x.kind = 8 then .good (tInt x.num) (p + 1) (m + 1)
    else if x.kind = 11 then .good tNull (p + 1) (m + 1)
    else if x.kind = 3 then listR L E n d (p + 1) (m + 1)
    else if x.kind = 1 then pairsR L E n d (p + 1) (m + 1)
    else .good (tFlag (x.kind == 9)) (p + 1) (m + 1) := by
  rw [readJ_value, if_neg (fun g => g h), if_neg h2, if_neg h3, hx]
  rfl
def T_valI (L : List SignD) (E : Int) (b n : Nat) : Prop := ∀ (d p m : Nat) (w : World), 1 ≤ d → d ≤ 9 → p ≤ L.length → m ≤ 300 → needJ L p (.value d) ≤ n → RdAt L E b p m flt0 w →
  Calls Tryz.prog 34 #[.pointer (some ⟨b, 0, none⟩), .int .i64 d] w (ValE (RdAt L E b) b L.length (10 - d) (readJ L E n (.value d) p m) w)
def T_listI (L : List SignD) (E : Int) (b n : Nat) : Prop := ∀ (d p m : Nat) (w : World), 1 ≤ d → d ≤ 8 → p ≤ L.length → m ≤ 300 → needJ L p (.list d []) ≤ n → RdAt L E b p m flt0 w →
  Calls Tryz.prog 68 #[.pointer (some ⟨b, 0, none⟩), .int .i64 d] w (ValE (RdAt L E b) b L.length (10 - d) (listR L E n d p m) w)
def T_pairsI (L : List SignD) (E : Int) (b n : Nat) : Prop := ∀ (d p m : Nat) (w : World), 1 ≤ d → d ≤ 8 → p ≤ L.length → m ≤ 300 → needJ L p (.pairs d [] []) ≤ n → RdAt L E b p m flt0 w →
  Calls Tryz.prog 69 #[.pointer (some ⟨b, 0, none⟩), .int .i64 d] w (ValE (RdAt L E b) b L.length (10 - d) (pairsR L E n d p m) w)
theorem c_rd_TextTree (t : ByteArray) (w : World) : Calls Tryz.prog 70 #[.string t] w fun e w' => e = .returned (.agg #[.int .i64 4, .bool false, .int .i64 0, .string t, .slice none 0 0, .slice none 0 0]) ∧ Below w.heap.size w w' := by
  go_enter Tryz.func70, Tryz.ntmps70
  go_wp2_with fail
  exact bodyPost_ret (v := .agg #[.int .i64 4, .bool false, .int .i64 0, .string t, .slice none 0 0, .slice none 0 0]) (by simp only [results, Tryz.results70]; go_simp) rfl ⟨rfl, bel⟩
theorem c_rd_IntTree (x : Int) (w : World) : Calls Tryz.prog 71 #[.int .i64 x] w fun e w' => e = .returned (.agg #[.int .i64 3, .bool false, .int .i64 x, .string ⟨#[]⟩, .slice none 0 0, .slice none 0 0]) ∧ Below w.heap.size w w' := by
  go_enter Tryz.func71, Tryz.ntmps71
  go_wp2_with fail
  exact bodyPost_ret (v := .agg #[.int .i64 3, .bool false, .int .i64 x, .string ⟨#[]⟩, .slice none 0 0, .slice none 0 0]) (by simp only [results, Tryz.results71]; go_simp) rfl ⟨rfl, bel⟩
end Go.Proofs.YtffelpdefjkeaaaGreatDoor
namespace Go.Proofs.YtffelpdefjkeaaaGreatDoor
open Go.RowKit Go.Lib
theorem set7_3 {w : World} {b : Nat} {a0 a1 a2 a3 a4 a5 a6 u : Value} {e : TypeId} (h : w.heap[b]? = some (.cells #[a0, a1, a2, a3, a4, a5, a6] e (0, 0))) : (w.setCell ⟨b, 3, none⟩ u).heap[b]? = some (.cells #[a0, a1, a2, u, a4, a5, a6] e (0, 0)) := heap_setCell_same w b 3 _ _ u h
theorem Aside.low {b : Nat} {a c : World} (h : Aside (fun q => q = b ∨ a.heap.size ≤ q) a c) : Aside (fun q => q = b) a c :=
  ⟨h.os, h.tape, h.output, h.size, fun i hi hn => h.block i hi (fun hq => hq.elim hn (fun hq => absurd hi (by omega)))⟩
theorem BadT.close {L : List SignD} {E : Int} {b N : Nat} {f : Flt} {w w3 w5 wF : World} {e : Ending} (h : BadT (RdAt L E b) b N f w3 e w5) (hA : Aside (fun q => q = b ∨ w.heap.size ≤ q) w w3) (hF : Aside (fun q => q = w.heap.size) w5 wF) (hb : b < w.heap.size) : BadT (RdAt L E b) b N f w e wF := by
  obtain ⟨k, fl, nu, t, A4, n4, c4, A5, n5, c5, p', m', h1, h2, h3, h4⟩ := h
  refine ⟨k, fl, nu, t, A4, n4, c4, A5, n5, c5, p', m', h1, h2.past hF (fun q hq => by omega), h3, ?_⟩
  exact Aside.low ((hA.join h4 (fun q hq _ => .inl hq)).join hF (fun q hq _ => .inr (by omega)))
theorem GoodT.close {L : List SignD} {E : Int} {b nT : Nat} {t : TreeD} {q m' : Nat} {w w3 w5 wF : World} {e : Ending} (h : GoodT (RdAt L E b) b nT t q m' w3 e w5) (hA : Aside (fun q => q = b ∨ w.heap.size ≤ q) w w3) (hF : Aside (fun q => q = w.heap.size) w5 wF) (hlt : w.heap.size < w3.heap.size) (hb : b < w.heap.size) : GoodT (RdAt L E b) b nT t q m' w e wF := by
  obtain ⟨cs, h1, h2, h3, h4⟩ := h
  refine ⟨cs, h1, h2.carry (fun x hx => hF.block x hx.2 (by omega)) (fun x hx => ⟨by omega, Nat.lt_of_lt_of_le hx.2 hF.size⟩), h3.past hF (fun q hq => by omega), ?_⟩
  exact Aside.low ((hA.join h4 (fun q hq _ => .inl hq)).join hF (fun q hq _ => .inr (by omega)))
set_option maxHeartbeats 4000000 in
set_option maxRecDepth 20000 in
theorem c_val_form (L : List SignD) (E : Int) (b n d p m : Nat) (w : World) (hL : SgOk L) (hpl : p ≤ L.length) (h : RdAt L E b p m flt0 w) (hk : ¬ (kindAt L p = 1 ∨ kindAt L p = 3 ∨ 7 ≤ kindAt L p)) :
    Calls Tryz.prog 34 #[.pointer (some ⟨b, 0, none⟩), .int .i64 d] w (ValE (RdAt L E b) b L.length (10 - d) (readJ L E (n + 1) (.value d) p m) w) := by
  have HRd := Lib.hid h
  have hlb := h.lt
  have hlen := hL.len
  have hnb : ¬ w.heap.size = b := by omega
  obtain ⟨t, ht⟩ : ∃ t, t = kindAt L p := ⟨_, rfl⟩
  obtain ⟨r, hr⟩ : ∃ r, r = readJ L E (n + 1) (.value d) p m := ⟨_, rfl⟩
  rw [← hr]
  have HT := Lib.hid ht
  have HR := Lib.hid hr
  rw [readJ_form hk] at HR
  rw [← ht] at hk
  have d1 : (t != 1) = true := bne_iff_ne.2 (fun h => hk (.inl h))
  have d1' : (t == 1) = false := beq_eq_false_iff_ne.2 (fun h => hk (.inl h))
  have d2 : (t != 3) = true := bne_iff_ne.2 (fun h => hk (.inr (.inl h)))
  have d2' : (t == 3) = false := beq_eq_false_iff_ne.2 (fun h => hk (.inr (.inl h)))
  have d3 : t < 7 := by have : ¬ 7 ≤ t := fun h => hk (.inr (.inr h)); omega
  clear hk
  clear ht hr h
  go_enter Tryz.func34, Tryz.ntmps34
  go_wp2_with fail
  refine (c_rd_kind L E b p m flt0 _ (by omega) (HRd.out.below bel)).mono ?_
  rintro e w1 ⟨rfl, hb1⟩
  rw [← HT.out]
  have HB1 := Lib.hid (bel : Below w.heap.size w w1)
  have HT1 := Lib.hid ((hb1.block w.heap.size (by simp)).trans (heap_at (w := w) (o := .cells #[.int .i64 0, .bool false, .int .i64 0, .string ⟨#[]⟩, .slice none 0 0, .slice none 0 0] 27) rfl))
  have HR1 := Lib.hid (HRd.out.below HB1.out)
  have hl1 := row_lt HT1.out
  obtain ⟨A, c, hbx, -, -⟩ := HR1.out
  unfold rdC at hbx
  obtain ⟨a0, a1, a2, a3, a4, a5, a6, af⟩ := row7r hbx
  have l1 := row_lt hbx
  clear hbx hb1
  go_wp2_with fail
  refine (c_rd_fail_new L E 4 b p m flt0 _ (by omega) HR1.out rfl).mono ?_
  rintro e w2 ⟨rfl, hR2, hA2⟩
  have HR2 := Lib.hid hR2
  have HA2 := Lib.hid hA2
  have HT2 := Lib.hid ((hA2.block _ hl1 hnb).trans HT1.out)
  have hl2 := row_lt HT2.out
  clear a0 a1 a2 a3 a4 a5 a6 af hR2 hA2
  obtain ⟨A2, c2, hbx, -, -⟩ := HR2.out
  unfold rdC at hbx
  obtain ⟨a0, a1, a2, a3, a4, a5, a6, af⟩ := row7r hbx
  obtain ⟨x0, x1, x2, x3, x4, x5, xf⟩ := row6 HT2.out
  have l2 := row_lt hbx
  have hc4 : (badF L E 4 p).code = 4 := rfl
  rw [hc4] at a4
  clear hbx hc4
  go_wp2_with fail
  exact bodyPost_ret (v := .agg #[.int .i64 0, .bool false, .int .i64 0, .string ⟨#[]⟩, .slice none 0 0, .slice none 0 0]) (by simp only [results, Tryz.results34]; go_simp) rfl (ValE.bad HR.out (BadT.close ⟨0, false, 0, ⟨#[]⟩, none, 0, 0, none, 0, 0, p, m, rfl, HR2.out, hpl, HA2.out⟩ (Aside.of_below HB1.out) (by repeat (first | (with_reducible exact Aside.refl _ _) | ((with_reducible refine aside_set ?_ ?_); (focus (simp; done))) | (with_reducible refine aside_alloc ?_))) hlb))
set_option maxHeartbeats 4000000 in
set_option maxRecDepth 20000 in
theorem c_val_deep (L : List SignD) (E : Int) (b n d p m : Nat) (w : World) (hL : SgOk L) (hpl : p ≤ L.length) (h : RdAt L E b p m flt0 w) (hk : kindAt L p = 1 ∨ kindAt L p = 3 ∨ 7 ≤ kindAt L p) (h8 : 8 < d) :
    Calls Tryz.prog 34 #[.pointer (some ⟨b, 0, none⟩), .int .i64 d] w (ValE (RdAt L E b) b L.length (10 - d) (readJ L E (n + 1) (.value d) p m) w) := by
  have HRd := Lib.hid h
  have hlb := h.lt
  have hlen := hL.len
  have hnb : ¬ w.heap.size = b := by omega
  obtain ⟨t, ht⟩ : ∃ t, t = kindAt L p := ⟨_, rfl⟩
  obtain ⟨r, hr⟩ : ∃ r, r = readJ L E (n + 1) (.value d) p m := ⟨_, rfl⟩
  rw [← hr]
  have HT := Lib.hid ht
  have HR := Lib.hid hr
  rw [readJ_deep hk h8] at HR
  have hcs : t = 1 ∨ (t != 1) = true ∧ t = 3 ∨ (t != 1) = true ∧ (t != 3) = true ∧ decide (t < 7) = false := by
    rw [← ht] at hk
    by_cases e1 : t = 1
    · exact .inl e1
    · by_cases e3 : t = 3
      · exact .inr (.inl ⟨bne_iff_ne.2 e1, e3⟩)
      · exact .inr (.inr ⟨bne_iff_ne.2 e1, bne_iff_ne.2 e3, decide_eq_false (by omega)⟩)
  have d8 : (8 : Int) < d := by omega
  clear hk h8
  clear ht hr h
  rcases hcs with rfl | ⟨e1, rfl⟩ | ⟨e1, e3, e7⟩
  all_goals
    go_enter Tryz.func34, Tryz.ntmps34
    go_wp2_with fail
    refine (c_rd_kind L E b p m flt0 _ (by omega) (HRd.out.below bel)).mono ?_
    rintro e w1 ⟨rfl, hb1⟩
    rw [← HT.out]
    have HB1 := Lib.hid (bel : Below w.heap.size w w1)
    have HT1 := Lib.hid ((hb1.block w.heap.size (by simp)).trans (heap_at (w := w) (o := .cells #[.int .i64 0, .bool false, .int .i64 0, .string ⟨#[]⟩, .slice none 0 0, .slice none 0 0] 27) rfl))
    have HR1 := Lib.hid (HRd.out.below HB1.out)
    have hl1 := row_lt HT1.out
    obtain ⟨A, c, hbx, -, -⟩ := HR1.out
    unfold rdC at hbx
    obtain ⟨a0, a1, a2, a3, a4, a5, a6, af⟩ := row7r hbx
    have l1 := row_lt hbx
    clear hbx hb1
    go_wp2_with fail
    refine (c_rd_fail_new L E 6 b p m flt0 _ (by omega) HR1.out rfl).mono ?_
    rintro e w2 ⟨rfl, hR2, hA2⟩
    have HR2 := Lib.hid hR2
    have HA2 := Lib.hid hA2
    have HT2 := Lib.hid ((hA2.block _ hl1 hnb).trans HT1.out)
    have hl2 := row_lt HT2.out
    clear a0 a1 a2 a3 a4 a5 a6 af hR2 hA2
    obtain ⟨A2, c2, hbx, -, -⟩ := HR2.out
    unfold rdC at hbx
    obtain ⟨a0, a1, a2, a3, a4, a5, a6, af⟩ := row7r hbx
    obtain ⟨x0, x1, x2, x3, x4, x5, xf⟩ := row6 HT2.out
    have l2 := row_lt hbx
    have hc4 : (badF L E 6 p).code = 6 := rfl
    rw [hc4] at a4
    clear hbx hc4
    go_wp2_with fail
    exact bodyPost_ret (v := .agg #[.int .i64 0, .bool false, .int .i64 0, .string ⟨#[]⟩, .slice none 0 0, .slice none 0 0]) (by simp only [results, Tryz.results34]; go_simp) rfl (ValE.bad HR.out (BadT.close ⟨0, false, 0, ⟨#[]⟩, none, 0, 0, none, 0, 0, p, m, rfl, HR2.out, hpl, HA2.out⟩ (Aside.of_below HB1.out) (by repeat (first | (with_reducible exact Aside.refl _ _) | ((with_reducible refine aside_set ?_ ?_); (focus (simp; done))) | (with_reducible refine aside_alloc ?_))) hlb))
set_option maxHeartbeats 4000000 in
set_option maxRecDepth 20000 in
theorem c_val_many (L : List SignD) (E : Int) (b n d p m : Nat) (w : World) (hL : SgOk L) (hpl : p ≤ L.length) (h : RdAt L E b p m flt0 w) (hk : kindAt L p = 1 ∨ kindAt L p = 3 ∨ 7 ≤ kindAt L p) (h8 : ¬ 8 < d) (h3 : 300 ≤ m) :
    Calls Tryz.prog 34 #[.pointer (some ⟨b, 0, none⟩), .int .i64 d] w (ValE (RdAt L E b) b L.length (10 - d) (readJ L E (n + 1) (.value d) p m) w) := by
  have HRd := Lib.hid h
  have hlb := h.lt
  have hlen := hL.len
  have hnb : ¬ w.heap.size = b := by omega
  obtain ⟨t, ht⟩ : ∃ t, t = kindAt L p := ⟨_, rfl⟩
  obtain ⟨r, hr⟩ : ∃ r, r = readJ L E (n + 1) (.value d) p m := ⟨_, rfl⟩
  rw [← hr]
  have HT := Lib.hid ht
  have HR := Lib.hid hr
  rw [readJ_many hk h8 h3] at HR
  have hcs : t = 1 ∨ (t != 1) = true ∧ t = 3 ∨ (t != 1) = true ∧ (t != 3) = true ∧ decide (t < 7) = false := by
    rw [← ht] at hk
    by_cases e1 : t = 1
    · exact .inl e1
    · by_cases e3 : t = 3
      · exact .inr (.inl ⟨bne_iff_ne.2 e1, e3⟩)
      · exact .inr (.inr ⟨bne_iff_ne.2 e1, bne_iff_ne.2 e3, decide_eq_false (by omega)⟩)
  have d8 : decide ((8 : Int) < d) = false := decide_eq_false (by omega)
  have d300 : decide ((300 : Int) ≤ m) = true := decide_eq_true (by omega)
  clear hk h8 h3
  clear ht hr h
  rcases hcs with rfl | ⟨e1, rfl⟩ | ⟨e1, e3, e7⟩
  all_goals
    go_enter Tryz.func34, Tryz.ntmps34
    go_wp2_with fail
    refine (c_rd_kind L E b p m flt0 _ (by omega) (HRd.out.below bel)).mono ?_
    rintro e w1 ⟨rfl, hb1⟩
    rw [← HT.out]
    have HB1 := Lib.hid (bel : Below w.heap.size w w1)
    have HT1 := Lib.hid ((hb1.block w.heap.size (by simp)).trans (heap_at (w := w) (o := .cells #[.int .i64 0, .bool false, .int .i64 0, .string ⟨#[]⟩, .slice none 0 0, .slice none 0 0] 27) rfl))
    have HR1 := Lib.hid (HRd.out.below HB1.out)
    have hl1 := row_lt HT1.out
    obtain ⟨A, c, hbx, -, -⟩ := HR1.out
    unfold rdC at hbx
    obtain ⟨a0, a1, a2, a3, a4, a5, a6, af⟩ := row7r hbx
    have l1 := row_lt hbx
    clear hbx hb1
    go_wp2_with fail
    refine (c_rd_fail_new L E 7 b p m flt0 _ (by omega) HR1.out rfl).mono ?_
    rintro e w2 ⟨rfl, hR2, hA2⟩
    have HR2 := Lib.hid hR2
    have HA2 := Lib.hid hA2
    have HT2 := Lib.hid ((hA2.block _ hl1 hnb).trans HT1.out)
    have hl2 := row_lt HT2.out
    clear a0 a1 a2 a3 a4 a5 a6 af hR2 hA2
    obtain ⟨A2, c2, hbx, -, -⟩ := HR2.out
    unfold rdC at hbx
    obtain ⟨a0, a1, a2, a3, a4, a5, a6, af⟩ := row7r hbx
    obtain ⟨x0, x1, x2, x3, x4, x5, xf⟩ := row6 HT2.out
    have l2 := row_lt hbx
    have hc4 : (badF L E 7 p).code = 7 := rfl
    rw [hc4] at a4
    clear hbx hc4
    go_wp2_with fail
    exact bodyPost_ret (v := .agg #[.int .i64 0, .bool false, .int .i64 0, .string ⟨#[]⟩, .slice none 0 0, .slice none 0 0]) (by simp only [results, Tryz.results34]; go_simp) rfl (ValE.bad HR.out (BadT.close ⟨0, false, 0, ⟨#[]⟩, none, 0, 0, none, 0, 0, p, m, rfl, HR2.out, hpl, HA2.out⟩ (Aside.of_below HB1.out) (by repeat (first | (with_reducible exact Aside.refl _ _) | ((with_reducible refine aside_set ?_ ?_); (focus (simp; done))) | (with_reducible refine aside_alloc ?_))) hlb))
set_option maxHeartbeats 8000000 in
set_option maxRecDepth 20000 in
theorem c_val_text (L : List SignD) (E : Int) (b n d p m : Nat) (x : SignD) (w : World) (hL : SgOk L) (hx : L[p]? = some x) (hk : x.kind = 7) (hd8 : ¬ 8 < d) (hm3 : ¬ 300 ≤ m) (h : RdAt L E b p m flt0 w) (hsz : ¬ 400 < x.text.size) :
    Calls Tryz.prog 34 #[.pointer (some ⟨b, 0, none⟩), .int .i64 d] w (ValE (RdAt L E b) b L.length (10 - d) (readJ L E (n + 1) (.value d) p m) w) := by
  have HRd := Lib.hid h
  have hlb := h.lt
  have hlen := hL.len
  have hpl : p < L.length := (List.getElem?_eq_some_iff.1 hx).1
  have hz0 : (0 : Int) ≤ p := by omega
  have hz1 : (p : Int) < L.length := by omega
  have hnb : ¬ w.heap.size = b := by omega
  obtain ⟨r, hr⟩ : ∃ r, r = readJ L E (n + 1) (.value d) p m := ⟨_, rfl⟩
  obtain ⟨nd, hnd⟩ : ∃ k, 10 - d = k + 1 := ⟨9 - d, by omega⟩
  rw [← hr, hnd]
  have hkk : kindAt L p = 7 := (kindAt_some hx).trans hk
  rw [readJ_go hx (by rw [hkk]; decide) hd8 hm3] at hr
  have HK := Lib.hid hkk
  have HX := Lib.hid hx
  have HN := Lib.hid hnd
  have htx := hL.text p x hx
  have hnx := hL.num p x hx
  unfold I64 at hnx
  obtain ⟨hnx1, hnx2⟩ := hnx
  have d8 : decide ((8 : Int) < d) = false := decide_eq_false (by omega)
  have d300 : decide ((300 : Int) ≤ m) = false := decide_eq_false (by omega)
  have hm9 : (m : Int) ≤ 300 := by omega
  rw [if_pos hk, if_neg hsz] at hr
  have HR := Lib.hid hr
  have dsz : decide ((400 : Int) < x.text.size) = false := decide_eq_false (by omega)
  clear hr h hx hkk hk hnd hd8 hm3
  go_enter Tryz.func34, Tryz.ntmps34
  go_wp2_with fail
  refine (c_rd_kind L E b p m flt0 _ (by omega) (HRd.out.below bel)).mono ?_
  rintro e w1 ⟨rfl, hb1⟩
  rw [HK.out]
  have HB1 := Lib.hid (bel : Below w.heap.size w w1)
  have HT1 := Lib.hid ((hb1.block w.heap.size (by simp)).trans (heap_at (w := w) (o := .cells #[.int .i64 0, .bool false, .int .i64 0, .string ⟨#[]⟩, .slice none 0 0, .slice none 0 0] 27) rfl))
  have HR1 := Lib.hid (HRd.out.below HB1.out)
  have hl1 := row_lt HT1.out
  obtain ⟨A, c, hbx, -, -⟩ := HR1.out
  unfold rdC at hbx
  obtain ⟨a0, a1, a2, a3, a4, a5, a6, af⟩ := row7r hbx
  have l1 := row_lt hbx
  have a4' : w1.cell? ⟨b, 4, none⟩ = some (.int .i64 0) := a4
  clear hbx hb1 a4
  go_upto_region 11 with fail
  obtain ⟨w2, hw2⟩ : ∃ W, W = w1.setCell ⟨b, 3, none⟩ (.int .i64 ((m : Int) + 1)) := ⟨_, rfl⟩
  have hA2 : Aside (fun q => q = b) w1 w2 := by rw [hw2]; exact aside_set rfl (Aside.refl _ _)
  have hR2 : RdAt L E b p (m + 1) flt0 w2 := RdAt.poke HR1.out hA2 (fun A c h => by rw [hw2]; unfold rdC at h ⊢; exact set7_3 h)
  rw [← hw2]
  have HR2 := Lib.hid hR2
  have HA2 := Lib.hid hA2
  have HT2 := Lib.hid ((hA2.block _ hl1 hnb).trans HT1.out)
  have hl2 := row_lt HT2.out
  clear a0 a1 a2 a3 a4' a5 a6 af hR2 hA2 hw2
  obtain ⟨A2, c2, hbx, hrow, -⟩ := HR2.out
  unfold rdC at hbx
  obtain ⟨a0, a1, a2, a3, a4, a5, a6, af⟩ := row7r hbx
  have l2 := row_lt hbx
  obtain ⟨g, y, rfl, hy, hlc, lg, s0, s1, s2, s3⟩ := sign_row (p := p) hrow hpl
  obtain rfl : y = x := Option.some.inj (hy.symm.trans HX.out)
  clear hbx hrow hy
  go_cut [6] from 49 to 58 (fun s6 wx => s6 = .pointer (some ⟨w2.heap.size, 0, none⟩) ∧ wx.heap[w2.heap.size]? = some (.cells #[.int .i64 y.kind, .string y.text, .int .i64 y.num, .int .i64 y.at'] 54 (0, 0)) ∧ Below w2.heap.size w2 wx)
  case first =>
    go_region_law (fail)
    all_goals
      go_wp2_with fail
      go_meet
      exact ⟨rfl, heap_at (by simp), bel⟩
  case rest =>
    obtain ⟨rfl, hXr, hBc⟩ := hcut
    have HXr := Lib.hid hXr
    have HBc := Lib.hid hBc
    have HRc := Lib.hid (HR2.out.below hBc)
    have HTc := Lib.hid ((hBc.block _ hl2).trans HT2.out)
    have hl3 := row_lt HTc.out
    have hl3x := row_lt hXr
    have hnx3 : ¬ w2.heap.size = b := by omega
    have hnxt : ¬ w2.heap.size = w.heap.size := by omega
    clear a0 a1 a2 a3 a4 a5 a6 af s0 s1 s2 s3 hXr hBc
    obtain ⟨A3, c3, hbx, -, -⟩ := HRc.out
    unfold rdC at hbx
    obtain ⟨a0, a1, a2, a3, a4, a5, a6, af⟩ := row7r hbx
    have l3 := row_lt hbx
    obtain ⟨y0, y1, y2, y3, yf⟩ := row4 HXr.out
    clear hbx
    go_upto_region 15 with fail
    obtain ⟨w3, hw3⟩ : ∃ W, W = wc.setCell ⟨b, 1, none⟩ (.int .i64 ((p : Int) + 1)) := ⟨_, rfl⟩
    have hA3 : Aside (fun q => q = b) wc w3 := by rw [hw3]; exact aside_set rfl (Aside.refl _ _)
    have hR3 : RdAt L E b (p + 1) (m + 1) flt0 w3 := RdAt.poke HRc.out hA3 (fun A c h => by rw [hw3]; unfold rdC at h ⊢; exact set7_1 h)
    rw [← hw3]
    have HR3 := Lib.hid hR3
    have HT3 := Lib.hid ((hA3.block _ (row_lt HTc.out) hnb).trans HTc.out)
    have HX3 := Lib.hid ((hA3.block _ (row_lt HXr.out) hnx3).trans HXr.out)
    have HAw := Lib.hid (show Aside (fun q => q = b ∨ w.heap.size ≤ q) w w3 from (Aside.of_below HB1.out).trans ((HA2.out.mono (fun q h => .inl h)).trans ((Aside.of_below HBc.out).trans ((Aside.refl _ wc).trans (hA3.mono (fun q h => .inl h))))))
    have hl4 := row_lt HT3.out
    have hl4x := row_lt HX3.out
    have hl4b := hR3.lt
    clear a0 a1 a2 a3 a4 a5 a6 af y0 y1 y2 y3 yf hR3 hA3 hw3
    obtain ⟨z0, z1, z2, z3, zf⟩ := row4 HX3.out
    obtain ⟨x0, x1, x2, x3, x4, x5, xf⟩ := row6 HT3.out
    go_wp2_with fail
    refine (c_rd_TextTree y.text _).mono ?_
    rintro e w9 ⟨rfl, hb9⟩
    have HB9 := Lib.hid hb9
    have HT9 := Lib.hid ((hb9.block _ hl4).trans HT3.out)
    have hl9 := row_lt HT9.out
    clear x0 x1 x2 x3 x4 x5 xf z0 z1 z2 z3 zf hb9
    obtain ⟨x0, x1, x2, x3, x4, x5, xf⟩ := row6 HT9.out
    go_wp2_with fail
    exact bodyPost_ret (v := .agg #[.int .i64 4, .bool false, .int .i64 0, .string y.text, .slice none 0 0, .slice none 0 0]) (by simp only [results, Tryz.results34]; go_simp) rfl (ValE.good HR.out (GoodT.close (w3 := w3) ⟨[.int .i64 4, .bool false, .int .i64 0, .string y.text, .slice none 0 0, .slice none 0 0], rfl, own_leaf (by unfold I64; decide) (by unfold I64; decide) (by omega), HR3.out.below HB9.out, Aside.of_below HB9.out⟩ HAw.out (by repeat (first | (with_reducible exact Aside.refl _ _) | ((with_reducible refine aside_set ?_ ?_); (focus (simp; done))) | (with_reducible refine aside_alloc ?_))) (by omega) hlb))
set_option maxHeartbeats 8000000 in
set_option maxRecDepth 20000 in
theorem c_val_num (L : List SignD) (E : Int) (b n d p m : Nat) (x : SignD) (w : World) (hL : SgOk L) (hx : L[p]? = some x) (hk : x.kind = 8) (hd8 : ¬ 8 < d) (hm3 : ¬ 300 ≤ m) (h : RdAt L E b p m flt0 w) :
    Calls Tryz.prog 34 #[.pointer (some ⟨b, 0, none⟩), .int .i64 d] w (ValE (RdAt L E b) b L.length (10 - d) (readJ L E (n + 1) (.value d) p m) w) := by
  have HRd := Lib.hid h
  have hlb := h.lt
  have hlen := hL.len
  have hpl : p < L.length := (List.getElem?_eq_some_iff.1 hx).1
  have hz0 : (0 : Int) ≤ p := by omega
  have hz1 : (p : Int) < L.length := by omega
  have hnb : ¬ w.heap.size = b := by omega
  obtain ⟨r, hr⟩ : ∃ r, r = readJ L E (n + 1) (.value d) p m := ⟨_, rfl⟩
  obtain ⟨nd, hnd⟩ : ∃ k, 10 - d = k + 1 := ⟨9 - d, by omega⟩
  rw [← hr, hnd]
  have hkk : kindAt L p = 8 := (kindAt_some hx).trans hk
  rw [readJ_go hx (by rw [hkk]; decide) hd8 hm3] at hr
  have HK := Lib.hid hkk
  have HX := Lib.hid hx
  have HN := Lib.hid hnd
  have htx := hL.text p x hx
  have hnx := hL.num p x hx
  unfold I64 at hnx
  obtain ⟨hnx1, hnx2⟩ := hnx
  have d8 : decide ((8 : Int) < d) = false := decide_eq_false (by omega)
  have d300 : decide ((300 : Int) ≤ m) = false := decide_eq_false (by omega)
  have hm9 : (m : Int) ≤ 300 := by omega
  rw [if_neg (by rw [hk]; decide), if_pos hk] at hr
  have HR := Lib.hid hr
  clear hr h hx hkk hk hnd hd8 hm3
  go_enter Tryz.func34, Tryz.ntmps34
  go_wp2_with fail
  refine (c_rd_kind L E b p m flt0 _ (by omega) (HRd.out.below bel)).mono ?_
  rintro e w1 ⟨rfl, hb1⟩
  rw [HK.out]
  have HB1 := Lib.hid (bel : Below w.heap.size w w1)
  have HT1 := Lib.hid ((hb1.block w.heap.size (by simp)).trans (heap_at (w := w) (o := .cells #[.int .i64 0, .bool false, .int .i64 0, .string ⟨#[]⟩, .slice none 0 0, .slice none 0 0] 27) rfl))
  have HR1 := Lib.hid (HRd.out.below HB1.out)
  have hl1 := row_lt HT1.out
  obtain ⟨A, c, hbx, -, -⟩ := HR1.out
  unfold rdC at hbx
  obtain ⟨a0, a1, a2, a3, a4, a5, a6, af⟩ := row7r hbx
  have l1 := row_lt hbx
  have a4' : w1.cell? ⟨b, 4, none⟩ = some (.int .i64 0) := a4
  clear hbx hb1 a4
  go_upto_region 11 with fail
  obtain ⟨w2, hw2⟩ : ∃ W, W = w1.setCell ⟨b, 3, none⟩ (.int .i64 ((m : Int) + 1)) := ⟨_, rfl⟩
  have hA2 : Aside (fun q => q = b) w1 w2 := by rw [hw2]; exact aside_set rfl (Aside.refl _ _)
  have hR2 : RdAt L E b p (m + 1) flt0 w2 := RdAt.poke HR1.out hA2 (fun A c h => by rw [hw2]; unfold rdC at h ⊢; exact set7_3 h)
  rw [← hw2]
  have HR2 := Lib.hid hR2
  have HA2 := Lib.hid hA2
  have HT2 := Lib.hid ((hA2.block _ hl1 hnb).trans HT1.out)
  have hl2 := row_lt HT2.out
  clear a0 a1 a2 a3 a4' a5 a6 af hR2 hA2 hw2
  obtain ⟨A2, c2, hbx, hrow, -⟩ := HR2.out
  unfold rdC at hbx
  obtain ⟨a0, a1, a2, a3, a4, a5, a6, af⟩ := row7r hbx
  have l2 := row_lt hbx
  obtain ⟨g, y, rfl, hy, hlc, lg, s0, s1, s2, s3⟩ := sign_row (p := p) hrow hpl
  obtain rfl : y = x := Option.some.inj (hy.symm.trans HX.out)
  clear hbx hrow hy
  go_cut [6] from 49 to 58 (fun s6 wx => s6 = .pointer (some ⟨w2.heap.size, 0, none⟩) ∧ wx.heap[w2.heap.size]? = some (.cells #[.int .i64 y.kind, .string y.text, .int .i64 y.num, .int .i64 y.at'] 54 (0, 0)) ∧ Below w2.heap.size w2 wx)
  case first =>
    go_region_law (fail)
    all_goals
      go_wp2_with fail
      go_meet
      exact ⟨rfl, heap_at (by simp), bel⟩
  case rest =>
    obtain ⟨rfl, hXr, hBc⟩ := hcut
    have HXr := Lib.hid hXr
    have HBc := Lib.hid hBc
    have HRc := Lib.hid (HR2.out.below hBc)
    have HTc := Lib.hid ((hBc.block _ hl2).trans HT2.out)
    have hl3 := row_lt HTc.out
    have hl3x := row_lt hXr
    have hnx3 : ¬ w2.heap.size = b := by omega
    have hnxt : ¬ w2.heap.size = w.heap.size := by omega
    clear a0 a1 a2 a3 a4 a5 a6 af s0 s1 s2 s3 hXr hBc
    obtain ⟨A3, c3, hbx, -, -⟩ := HRc.out
    unfold rdC at hbx
    obtain ⟨a0, a1, a2, a3, a4, a5, a6, af⟩ := row7r hbx
    have l3 := row_lt hbx
    obtain ⟨y0, y1, y2, y3, yf⟩ := row4 HXr.out
    clear hbx
    go_upto_region 15 with fail
    obtain ⟨w3, hw3⟩ : ∃ W, W = wc.setCell ⟨b, 1, none⟩ (.int .i64 ((p : Int) + 1)) := ⟨_, rfl⟩
    have hA3 : Aside (fun q => q = b) wc w3 := by rw [hw3]; exact aside_set rfl (Aside.refl _ _)
    have hR3 : RdAt L E b (p + 1) (m + 1) flt0 w3 := RdAt.poke HRc.out hA3 (fun A c h => by rw [hw3]; unfold rdC at h ⊢; exact set7_1 h)
    rw [← hw3]
    have HR3 := Lib.hid hR3
    have HT3 := Lib.hid ((hA3.block _ (row_lt HTc.out) hnb).trans HTc.out)
    have HX3 := Lib.hid ((hA3.block _ (row_lt HXr.out) hnx3).trans HXr.out)
    have HAw := Lib.hid (show Aside (fun q => q = b ∨ w.heap.size ≤ q) w w3 from (Aside.of_below HB1.out).trans ((HA2.out.mono (fun q h => .inl h)).trans ((Aside.of_below HBc.out).trans ((Aside.refl _ wc).trans (hA3.mono (fun q h => .inl h))))))
    have hl4 := row_lt HT3.out
    have hl4x := row_lt HX3.out
    have hl4b := hR3.lt
    clear a0 a1 a2 a3 a4 a5 a6 af y0 y1 y2 y3 yf hR3 hA3 hw3
    obtain ⟨z0, z1, z2, z3, zf⟩ := row4 HX3.out
    obtain ⟨x0, x1, x2, x3, x4, x5, xf⟩ := row6 HT3.out
    go_wp2_with fail
    refine (c_rd_IntTree y.num _).mono ?_
    rintro e w9 ⟨rfl, hb9⟩
    have HB9 := Lib.hid hb9
    have HT9 := Lib.hid ((hb9.block _ hl4).trans HT3.out)
    have hl9 := row_lt HT9.out
    clear x0 x1 x2 x3 x4 x5 xf z0 z1 z2 z3 zf hb9
    obtain ⟨x0, x1, x2, x3, x4, x5, xf⟩ := row6 HT9.out
    go_wp2_with fail
    exact bodyPost_ret (v := .agg #[.int .i64 3, .bool false, .int .i64 y.num, .string ⟨#[]⟩, .slice none 0 0, .slice none 0 0]) (by simp only [results, Tryz.results34]; go_simp) rfl (ValE.good HR.out (GoodT.close (w3 := w3) ⟨[.int .i64 3, .bool false, .int .i64 y.num, .string ⟨#[]⟩, .slice none 0 0, .slice none 0 0], rfl, own_leaf (by unfold I64; decide) (by unfold I64; omega) (by decide), HR3.out.below HB9.out, Aside.of_below HB9.out⟩ HAw.out (by repeat (first | (with_reducible exact Aside.refl _ _) | ((with_reducible refine aside_set ?_ ?_); (focus (simp; done))) | (with_reducible refine aside_alloc ?_))) (by omega) hlb))
set_option maxHeartbeats 8000000 in
set_option maxRecDepth 20000 in
theorem c_val_null (L : List SignD) (E : Int) (b n d p m : Nat) (x : SignD) (w : World) (hL : SgOk L) (hx : L[p]? = some x) (hk : x.kind = 11) (hd8 : ¬ 8 < d) (hm3 : ¬ 300 ≤ m) (h : RdAt L E b p m flt0 w) :
    Calls Tryz.prog 34 #[.pointer (some ⟨b, 0, none⟩), .int .i64 d] w (ValE (RdAt L E b) b L.length (10 - d) (readJ L E (n + 1) (.value d) p m) w) := by
  have HRd := Lib.hid h
  have hlb := h.lt
  have hlen := hL.len
  have hpl : p < L.length := (List.getElem?_eq_some_iff.1 hx).1
  have hz0 : (0 : Int) ≤ p := by omega
  have hz1 : (p : Int) < L.length := by omega
  have hnb : ¬ w.heap.size = b := by omega
  obtain ⟨r, hr⟩ : ∃ r, r = readJ L E (n + 1) (.value d) p m := ⟨_, rfl⟩
  obtain ⟨nd, hnd⟩ : ∃ k, 10 - d = k + 1 := ⟨9 - d, by omega⟩
  rw [← hr, hnd]
  have hkk : kindAt L p = 11 := (kindAt_some hx).trans hk
  rw [readJ_go hx (by rw [hkk]; decide) hd8 hm3] at hr
  have HK := Lib.hid hkk
  have HX := Lib.hid hx
  have HN := Lib.hid hnd
  have htx := hL.text p x hx
  have hnx := hL.num p x hx
  unfold I64 at hnx
  obtain ⟨hnx1, hnx2⟩ := hnx
  have d8 : decide ((8 : Int) < d) = false := decide_eq_false (by omega)
  have d300 : decide ((300 : Int) ≤ m) = false := decide_eq_false (by omega)
  have hm9 : (m : Int) ≤ 300 := by omega
  rw [if_neg (by rw [hk]; decide), if_neg (by rw [hk]; decide), if_pos hk] at hr
  have HR := Lib.hid hr
  clear hr h hx hkk hk hnd hd8 hm3
  go_enter Tryz.func34, Tryz.ntmps34
  go_wp2_with fail
  refine (c_rd_kind L E b p m flt0 _ (by omega) (HRd.out.below bel)).mono ?_
  rintro e w1 ⟨rfl, hb1⟩
  rw [HK.out]
  have HB1 := Lib.hid (bel : Below w.heap.size w w1)
  have HT1 := Lib.hid ((hb1.block w.heap.size (by simp)).trans (heap_at (w := w) (o := .cells #[.int .i64 0, .bool false, .int .i64 0, .string ⟨#[]⟩, .slice none 0 0, .slice none 0 0] 27) rfl))
  have HR1 := Lib.hid (HRd.out.below HB1.out)
  have hl1 := row_lt HT1.out
  obtain ⟨A, c, hbx, -, -⟩ := HR1.out
  unfold rdC at hbx
  obtain ⟨a0, a1, a2, a3, a4, a5, a6, af⟩ := row7r hbx
  have l1 := row_lt hbx
  have a4' : w1.cell? ⟨b, 4, none⟩ = some (.int .i64 0) := a4
  clear hbx hb1 a4
  go_upto_region 11 with fail
  obtain ⟨w2, hw2⟩ : ∃ W, W = w1.setCell ⟨b, 3, none⟩ (.int .i64 ((m : Int) + 1)) := ⟨_, rfl⟩
  have hA2 : Aside (fun q => q = b) w1 w2 := by rw [hw2]; exact aside_set rfl (Aside.refl _ _)
  have hR2 : RdAt L E b p (m + 1) flt0 w2 := RdAt.poke HR1.out hA2 (fun A c h => by rw [hw2]; unfold rdC at h ⊢; exact set7_3 h)
  rw [← hw2]
  have HR2 := Lib.hid hR2
  have HA2 := Lib.hid hA2
  have HT2 := Lib.hid ((hA2.block _ hl1 hnb).trans HT1.out)
  have hl2 := row_lt HT2.out
  clear a0 a1 a2 a3 a4' a5 a6 af hR2 hA2 hw2
  obtain ⟨A2, c2, hbx, hrow, -⟩ := HR2.out
  unfold rdC at hbx
  obtain ⟨a0, a1, a2, a3, a4, a5, a6, af⟩ := row7r hbx
  have l2 := row_lt hbx
  obtain ⟨g, y, rfl, hy, hlc, lg, s0, s1, s2, s3⟩ := sign_row (p := p) hrow hpl
  obtain rfl : y = x := Option.some.inj (hy.symm.trans HX.out)
  clear hbx hrow hy
  go_cut [6] from 49 to 58 (fun s6 wx => s6 = .pointer (some ⟨w2.heap.size, 0, none⟩) ∧ wx.heap[w2.heap.size]? = some (.cells #[.int .i64 y.kind, .string y.text, .int .i64 y.num, .int .i64 y.at'] 54 (0, 0)) ∧ Below w2.heap.size w2 wx)
  case first =>
    go_region_law (fail)
    all_goals
      go_wp2_with fail
      go_meet
      exact ⟨rfl, heap_at (by simp), bel⟩
  case rest =>
    obtain ⟨rfl, hXr, hBc⟩ := hcut
    have HXr := Lib.hid hXr
    have HBc := Lib.hid hBc
    have HRc := Lib.hid (HR2.out.below hBc)
    have HTc := Lib.hid ((hBc.block _ hl2).trans HT2.out)
    have hl3 := row_lt HTc.out
    have hl3x := row_lt hXr
    have hnx3 : ¬ w2.heap.size = b := by omega
    have hnxt : ¬ w2.heap.size = w.heap.size := by omega
    clear a0 a1 a2 a3 a4 a5 a6 af s0 s1 s2 s3 hXr hBc
    obtain ⟨A3, c3, hbx, -, -⟩ := HRc.out
    unfold rdC at hbx
    obtain ⟨a0, a1, a2, a3, a4, a5, a6, af⟩ := row7r hbx
    have l3 := row_lt hbx
    obtain ⟨y0, y1, y2, y3, yf⟩ := row4 HXr.out
    clear hbx
    go_upto_region 15 with fail
    obtain ⟨w3, hw3⟩ : ∃ W, W = wc.setCell ⟨b, 1, none⟩ (.int .i64 ((p : Int) + 1)) := ⟨_, rfl⟩
    have hA3 : Aside (fun q => q = b) wc w3 := by rw [hw3]; exact aside_set rfl (Aside.refl _ _)
    have hR3 : RdAt L E b (p + 1) (m + 1) flt0 w3 := RdAt.poke HRc.out hA3 (fun A c h => by rw [hw3]; unfold rdC at h ⊢; exact set7_1 h)
    rw [← hw3]
    have HR3 := Lib.hid hR3
    have HT3 := Lib.hid ((hA3.block _ (row_lt HTc.out) hnb).trans HTc.out)
    have HX3 := Lib.hid ((hA3.block _ (row_lt HXr.out) hnx3).trans HXr.out)
    have HAw := Lib.hid (show Aside (fun q => q = b ∨ w.heap.size ≤ q) w w3 from (Aside.of_below HB1.out).trans ((HA2.out.mono (fun q h => .inl h)).trans ((Aside.of_below HBc.out).trans ((Aside.refl _ wc).trans (hA3.mono (fun q h => .inl h))))))
    have hl4 := row_lt HT3.out
    have hl4x := row_lt HX3.out
    have hl4b := hR3.lt
    clear a0 a1 a2 a3 a4 a5 a6 af y0 y1 y2 y3 yf hR3 hA3 hw3
    obtain ⟨z0, z1, z2, z3, zf⟩ := row4 HX3.out
    obtain ⟨x0, x1, x2, x3, x4, x5, xf⟩ := row6 HT3.out
    go_wp2_with fail
    exact bodyPost_ret (v := .agg #[.int .i64 1, .bool false, .int .i64 0, .string ⟨#[]⟩, .slice none 0 0, .slice none 0 0]) (by simp only [results, Tryz.results34]; go_simp) rfl (ValE.good HR.out (GoodT.close (w3 := w3) ⟨[.int .i64 1, .bool false, .int .i64 0, .string ⟨#[]⟩, .slice none 0 0, .slice none 0 0], rfl, own_leaf (by unfold I64; decide) (by unfold I64; decide) (by decide), HR3.out, Aside.refl _ _⟩ HAw.out (by repeat (first | (with_reducible exact Aside.refl _ _) | ((with_reducible refine aside_set ?_ ?_); (focus (simp; done))) | (with_reducible refine aside_alloc ?_))) (by omega) hlb))
set_option maxHeartbeats 8000000 in
set_option maxRecDepth 20000 in
theorem c_val_true (L : List SignD) (E : Int) (b n d p m : Nat) (x : SignD) (w : World) (hL : SgOk L) (hx : L[p]? = some x) (hk : x.kind = 9) (hd8 : ¬ 8 < d) (hm3 : ¬ 300 ≤ m) (h : RdAt L E b p m flt0 w) :
    Calls Tryz.prog 34 #[.pointer (some ⟨b, 0, none⟩), .int .i64 d] w (ValE (RdAt L E b) b L.length (10 - d) (readJ L E (n + 1) (.value d) p m) w) := by
  have HRd := Lib.hid h
  have hlb := h.lt
  have hlen := hL.len
  have hpl : p < L.length := (List.getElem?_eq_some_iff.1 hx).1
  have hz0 : (0 : Int) ≤ p := by omega
  have hz1 : (p : Int) < L.length := by omega
  have hnb : ¬ w.heap.size = b := by omega
  obtain ⟨r, hr⟩ : ∃ r, r = readJ L E (n + 1) (.value d) p m := ⟨_, rfl⟩
  obtain ⟨nd, hnd⟩ : ∃ k, 10 - d = k + 1 := ⟨9 - d, by omega⟩
  rw [← hr, hnd]
  have hkk : kindAt L p = 9 := (kindAt_some hx).trans hk
  rw [readJ_go hx (by rw [hkk]; decide) hd8 hm3] at hr
  have HK := Lib.hid hkk
  have HX := Lib.hid hx
  have HN := Lib.hid hnd
  have htx := hL.text p x hx
  have hnx := hL.num p x hx
  unfold I64 at hnx
  obtain ⟨hnx1, hnx2⟩ := hnx
  have d8 : decide ((8 : Int) < d) = false := decide_eq_false (by omega)
  have d300 : decide ((300 : Int) ≤ m) = false := decide_eq_false (by omega)
  have hm9 : (m : Int) ≤ 300 := by omega
  rw [if_neg (by rw [hk]; decide), if_neg (by rw [hk]; decide), if_neg (by rw [hk]; decide), if_neg (by rw [hk]; decide), if_neg (by rw [hk]; decide), show (x.kind == 9) = true by rw [hk]; rfl] at hr
  have HR := Lib.hid hr
  clear hr h hx hkk hk hnd hd8 hm3
  go_enter Tryz.func34, Tryz.ntmps34
  go_wp2_with fail
  refine (c_rd_kind L E b p m flt0 _ (by omega) (HRd.out.below bel)).mono ?_
  rintro e w1 ⟨rfl, hb1⟩
  rw [HK.out]
  have HB1 := Lib.hid (bel : Below w.heap.size w w1)
  have HT1 := Lib.hid ((hb1.block w.heap.size (by simp)).trans (heap_at (w := w) (o := .cells #[.int .i64 0, .bool false, .int .i64 0, .string ⟨#[]⟩, .slice none 0 0, .slice none 0 0] 27) rfl))
  have HR1 := Lib.hid (HRd.out.below HB1.out)
  have hl1 := row_lt HT1.out
  obtain ⟨A, c, hbx, -, -⟩ := HR1.out
  unfold rdC at hbx
  obtain ⟨a0, a1, a2, a3, a4, a5, a6, af⟩ := row7r hbx
  have l1 := row_lt hbx
  have a4' : w1.cell? ⟨b, 4, none⟩ = some (.int .i64 0) := a4
  clear hbx hb1 a4
  go_upto_region 11 with fail
  obtain ⟨w2, hw2⟩ : ∃ W, W = w1.setCell ⟨b, 3, none⟩ (.int .i64 ((m : Int) + 1)) := ⟨_, rfl⟩
  have hA2 : Aside (fun q => q = b) w1 w2 := by rw [hw2]; exact aside_set rfl (Aside.refl _ _)
  have hR2 : RdAt L E b p (m + 1) flt0 w2 := RdAt.poke HR1.out hA2 (fun A c h => by rw [hw2]; unfold rdC at h ⊢; exact set7_3 h)
  rw [← hw2]
  have HR2 := Lib.hid hR2
  have HA2 := Lib.hid hA2
  have HT2 := Lib.hid ((hA2.block _ hl1 hnb).trans HT1.out)
  have hl2 := row_lt HT2.out
  clear a0 a1 a2 a3 a4' a5 a6 af hR2 hA2 hw2
  obtain ⟨A2, c2, hbx, hrow, -⟩ := HR2.out
  unfold rdC at hbx
  obtain ⟨a0, a1, a2, a3, a4, a5, a6, af⟩ := row7r hbx
  have l2 := row_lt hbx
  obtain ⟨g, y, rfl, hy, hlc, lg, s0, s1, s2, s3⟩ := sign_row (p := p) hrow hpl
  obtain rfl : y = x := Option.some.inj (hy.symm.trans HX.out)
  clear hbx hrow hy
  go_cut [6] from 49 to 58 (fun s6 wx => s6 = .pointer (some ⟨w2.heap.size, 0, none⟩) ∧ wx.heap[w2.heap.size]? = some (.cells #[.int .i64 y.kind, .string y.text, .int .i64 y.num, .int .i64 y.at'] 54 (0, 0)) ∧ Below w2.heap.size w2 wx)
  case first =>
    go_region_law (fail)
    all_goals
      go_wp2_with fail
      go_meet
      exact ⟨rfl, heap_at (by simp), bel⟩
  case rest =>
    obtain ⟨rfl, hXr, hBc⟩ := hcut
    have HXr := Lib.hid hXr
    have HBc := Lib.hid hBc
    have HRc := Lib.hid (HR2.out.below hBc)
    have HTc := Lib.hid ((hBc.block _ hl2).trans HT2.out)
    have hl3 := row_lt HTc.out
    have hl3x := row_lt hXr
    have hnx3 : ¬ w2.heap.size = b := by omega
    have hnxt : ¬ w2.heap.size = w.heap.size := by omega
    clear a0 a1 a2 a3 a4 a5 a6 af s0 s1 s2 s3 hXr hBc
    obtain ⟨A3, c3, hbx, -, -⟩ := HRc.out
    unfold rdC at hbx
    obtain ⟨a0, a1, a2, a3, a4, a5, a6, af⟩ := row7r hbx
    have l3 := row_lt hbx
    obtain ⟨y0, y1, y2, y3, yf⟩ := row4 HXr.out
    clear hbx
    go_upto_region 15 with fail
    obtain ⟨w3, hw3⟩ : ∃ W, W = wc.setCell ⟨b, 1, none⟩ (.int .i64 ((p : Int) + 1)) := ⟨_, rfl⟩
    have hA3 : Aside (fun q => q = b) wc w3 := by rw [hw3]; exact aside_set rfl (Aside.refl _ _)
    have hR3 : RdAt L E b (p + 1) (m + 1) flt0 w3 := RdAt.poke HRc.out hA3 (fun A c h => by rw [hw3]; unfold rdC at h ⊢; exact set7_1 h)
    rw [← hw3]
    have HR3 := Lib.hid hR3
    have HT3 := Lib.hid ((hA3.block _ (row_lt HTc.out) hnb).trans HTc.out)
    have HX3 := Lib.hid ((hA3.block _ (row_lt HXr.out) hnx3).trans HXr.out)
    have HAw := Lib.hid (show Aside (fun q => q = b ∨ w.heap.size ≤ q) w w3 from (Aside.of_below HB1.out).trans ((HA2.out.mono (fun q h => .inl h)).trans ((Aside.of_below HBc.out).trans ((Aside.refl _ wc).trans (hA3.mono (fun q h => .inl h))))))
    have hl4 := row_lt HT3.out
    have hl4x := row_lt HX3.out
    have hl4b := hR3.lt
    clear a0 a1 a2 a3 a4 a5 a6 af y0 y1 y2 y3 yf hR3 hA3 hw3
    obtain ⟨z0, z1, z2, z3, zf⟩ := row4 HX3.out
    obtain ⟨x0, x1, x2, x3, x4, x5, xf⟩ := row6 HT3.out
    go_wp2_with fail
    exact bodyPost_ret (v := .agg #[.int .i64 2, .bool true, .int .i64 0, .string ⟨#[]⟩, .slice none 0 0, .slice none 0 0]) (by simp only [results, Tryz.results34]; go_simp) rfl (ValE.good HR.out (GoodT.close (w3 := w3) ⟨[.int .i64 2, .bool true, .int .i64 0, .string ⟨#[]⟩, .slice none 0 0, .slice none 0 0], rfl, own_leaf (by unfold I64; decide) (by unfold I64; decide) (by decide), HR3.out, Aside.refl _ _⟩ HAw.out (by repeat (first | (with_reducible exact Aside.refl _ _) | ((with_reducible refine aside_set ?_ ?_); (focus (simp; done))) | (with_reducible refine aside_alloc ?_))) (by omega) hlb))
set_option maxHeartbeats 8000000 in
set_option maxRecDepth 20000 in
theorem c_val_false (L : List SignD) (E : Int) (b n d p m : Nat) (x : SignD) (w : World) (hL : SgOk L) (hx : L[p]? = some x) (hk : x.kind = 10) (hd8 : ¬ 8 < d) (hm3 : ¬ 300 ≤ m) (h : RdAt L E b p m flt0 w) :
    Calls Tryz.prog 34 #[.pointer (some ⟨b, 0, none⟩), .int .i64 d] w (ValE (RdAt L E b) b L.length (10 - d) (readJ L E (n + 1) (.value d) p m) w) := by
  have HRd := Lib.hid h
  have hlb := h.lt
  have hlen := hL.len
  have hpl : p < L.length := (List.getElem?_eq_some_iff.1 hx).1
  have hz0 : (0 : Int) ≤ p := by omega
  have hz1 : (p : Int) < L.length := by omega
  have hnb : ¬ w.heap.size = b := by omega
  obtain ⟨r, hr⟩ : ∃ r, r = readJ L E (n + 1) (.value d) p m := ⟨_, rfl⟩
  obtain ⟨nd, hnd⟩ : ∃ k, 10 - d = k + 1 := ⟨9 - d, by omega⟩
  rw [← hr, hnd]
  have hkk : kindAt L p = 10 := (kindAt_some hx).trans hk
  rw [readJ_go hx (by rw [hkk]; decide) hd8 hm3] at hr
  have HK := Lib.hid hkk
  have HX := Lib.hid hx
  have HN := Lib.hid hnd
  have htx := hL.text p x hx
  have hnx := hL.num p x hx
  unfold I64 at hnx
  obtain ⟨hnx1, hnx2⟩ := hnx
  have d8 : decide ((8 : Int) < d) = false := decide_eq_false (by omega)
  have d300 : decide ((300 : Int) ≤ m) = false := decide_eq_false (by omega)
  have hm9 : (m : Int) ≤ 300 := by omega
  rw [if_neg (by rw [hk]; decide), if_neg (by rw [hk]; decide), if_neg (by rw [hk]; decide), if_neg (by rw [hk]; decide), if_neg (by rw [hk]; decide), show (x.kind == 9) = false by rw [hk]; rfl] at hr
  have HR := Lib.hid hr
  clear hr h hx hkk hk hnd hd8 hm3
  go_enter Tryz.func34, Tryz.ntmps34
  go_wp2_with fail
  refine (c_rd_kind L E b p m flt0 _ (by omega) (HRd.out.below bel)).mono ?_
  rintro e w1 ⟨rfl, hb1⟩
  rw [HK.out]
  have HB1 := Lib.hid (bel : Below w.heap.size w w1)
  have HT1 := Lib.hid ((hb1.block w.heap.size (by simp)).trans (heap_at (w := w) (o := .cells #[.int .i64 0, .bool false, .int .i64 0, .string ⟨#[]⟩, .slice none 0 0, .slice none 0 0] 27) rfl))
  have HR1 := Lib.hid (HRd.out.below HB1.out)
  have hl1 := row_lt HT1.out
  obtain ⟨A, c, hbx, -, -⟩ := HR1.out
  unfold rdC at hbx
  obtain ⟨a0, a1, a2, a3, a4, a5, a6, af⟩ := row7r hbx
  have l1 := row_lt hbx
  have a4' : w1.cell? ⟨b, 4, none⟩ = some (.int .i64 0) := a4
  clear hbx hb1 a4
  go_upto_region 11 with fail
  obtain ⟨w2, hw2⟩ : ∃ W, W = w1.setCell ⟨b, 3, none⟩ (.int .i64 ((m : Int) + 1)) := ⟨_, rfl⟩
  have hA2 : Aside (fun q => q = b) w1 w2 := by rw [hw2]; exact aside_set rfl (Aside.refl _ _)
  have hR2 : RdAt L E b p (m + 1) flt0 w2 := RdAt.poke HR1.out hA2 (fun A c h => by rw [hw2]; unfold rdC at h ⊢; exact set7_3 h)
  rw [← hw2]
  have HR2 := Lib.hid hR2
  have HA2 := Lib.hid hA2
  have HT2 := Lib.hid ((hA2.block _ hl1 hnb).trans HT1.out)
  have hl2 := row_lt HT2.out
  clear a0 a1 a2 a3 a4' a5 a6 af hR2 hA2 hw2
  obtain ⟨A2, c2, hbx, hrow, -⟩ := HR2.out
  unfold rdC at hbx
  obtain ⟨a0, a1, a2, a3, a4, a5, a6, af⟩ := row7r hbx
  have l2 := row_lt hbx
  obtain ⟨g, y, rfl, hy, hlc, lg, s0, s1, s2, s3⟩ := sign_row (p := p) hrow hpl
  obtain rfl : y = x := Option.some.inj (hy.symm.trans HX.out)
  clear hbx hrow hy
  go_cut [6] from 49 to 58 (fun s6 wx => s6 = .pointer (some ⟨w2.heap.size, 0, none⟩) ∧ wx.heap[w2.heap.size]? = some (.cells #[.int .i64 y.kind, .string y.text, .int .i64 y.num, .int .i64 y.at'] 54 (0, 0)) ∧ Below w2.heap.size w2 wx)
  case first =>
    go_region_law (fail)
    all_goals
      go_wp2_with fail
      go_meet
      exact ⟨rfl, heap_at (by simp), bel⟩
  case rest =>
    obtain ⟨rfl, hXr, hBc⟩ := hcut
    have HXr := Lib.hid hXr
    have HBc := Lib.hid hBc
    have HRc := Lib.hid (HR2.out.below hBc)
    have HTc := Lib.hid ((hBc.block _ hl2).trans HT2.out)
    have hl3 := row_lt HTc.out
    have hl3x := row_lt hXr
    have hnx3 : ¬ w2.heap.size = b := by omega
    have hnxt : ¬ w2.heap.size = w.heap.size := by omega
    clear a0 a1 a2 a3 a4 a5 a6 af s0 s1 s2 s3 hXr hBc
    obtain ⟨A3, c3, hbx, -, -⟩ := HRc.out
    unfold rdC at hbx
    obtain ⟨a0, a1, a2, a3, a4, a5, a6, af⟩ := row7r hbx
    have l3 := row_lt hbx
    obtain ⟨y0, y1, y2, y3, yf⟩ := row4 HXr.out
    clear hbx
    go_upto_region 15 with fail
    obtain ⟨w3, hw3⟩ : ∃ W, W = wc.setCell ⟨b, 1, none⟩ (.int .i64 ((p : Int) + 1)) := ⟨_, rfl⟩
    have hA3 : Aside (fun q => q = b) wc w3 := by rw [hw3]; exact aside_set rfl (Aside.refl _ _)
    have hR3 : RdAt L E b (p + 1) (m + 1) flt0 w3 := RdAt.poke HRc.out hA3 (fun A c h => by rw [hw3]; unfold rdC at h ⊢; exact set7_1 h)
    rw [← hw3]
    have HR3 := Lib.hid hR3
    have HT3 := Lib.hid ((hA3.block _ (row_lt HTc.out) hnb).trans HTc.out)
    have HX3 := Lib.hid ((hA3.block _ (row_lt HXr.out) hnx3).trans HXr.out)
    have HAw := Lib.hid (show Aside (fun q => q = b ∨ w.heap.size ≤ q) w w3 from (Aside.of_below HB1.out).trans ((HA2.out.mono (fun q h => .inl h)).trans ((Aside.of_below HBc.out).trans ((Aside.refl _ wc).trans (hA3.mono (fun q h => .inl h))))))
    have hl4 := row_lt HT3.out
    have hl4x := row_lt HX3.out
    have hl4b := hR3.lt
    clear a0 a1 a2 a3 a4 a5 a6 af y0 y1 y2 y3 yf hR3 hA3 hw3
    obtain ⟨z0, z1, z2, z3, zf⟩ := row4 HX3.out
    obtain ⟨x0, x1, x2, x3, x4, x5, xf⟩ := row6 HT3.out
    go_wp2_with fail
    exact bodyPost_ret (v := .agg #[.int .i64 2, .bool false, .int .i64 0, .string ⟨#[]⟩, .slice none 0 0, .slice none 0 0]) (by simp only [results, Tryz.results34]; go_simp) rfl (ValE.good HR.out (GoodT.close (w3 := w3) ⟨[.int .i64 2, .bool false, .int .i64 0, .string ⟨#[]⟩, .slice none 0 0, .slice none 0 0], rfl, own_leaf (by unfold I64; decide) (by unfold I64; decide) (by decide), HR3.out, Aside.refl _ _⟩ HAw.out (by repeat (first | (with_reducible exact Aside.refl _ _) | ((with_reducible refine aside_set ?_ ?_); (focus (simp; done))) | (with_reducible refine aside_alloc ?_))) (by omega) hlb))
end Go.Proofs.YtffelpdefjkeaaaGreatDoor
