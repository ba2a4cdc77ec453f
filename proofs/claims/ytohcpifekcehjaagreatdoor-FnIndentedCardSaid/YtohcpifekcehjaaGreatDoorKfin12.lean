/- Steps to FnIndented. No conditions. -/
import Derived.Test.YtohcpifekcehjaaGreatDoorKfin11
import Derived.Test.YtohcpifekcehjaaGreatDoorKfin7
import Derived.Test.YtohcpifekcehjaaGreatDoorKfin9
import Derived.Test.YtohcpifekcehjaaGreatDoorKfin5
import Derived.Test.YtohcpifekcehjaaGreatDoorKfin8
import Derived.Test.YtohcpifekcehjaaGreatDoorKfin6
set_option maxHeartbeats 16000000
set_option maxRecDepth 20000
namespace Go.Proofs.YtohcpifekcehjaaGreatDoor
open Go.RowKit Go.Lib
abbrev Ln := Nat × List UInt8
def sh (p : Ln) : Ln := (p.1 + 2, p.2)
def kidLn (f : TreeD -> List Ln) (d : TreeD) (i : Nat) : List Ln := match d.kids[i]? with
 | none => []
 | some t => if d.kind = 6 then (match d.keys[i]? with
   | none => []
   | some k => if t.kids = [] then [(0, (keyText k).data.toList ++ [58, 32] ++ (scalText t).data.toList)] else (0, (keyText k).data.toList ++ [58]) :: (f t).map sh)
  else (match f t with | [] => [] | (_, x) :: r => (0, [45, 32] ++ x) :: r.map sh)
def lnT : Nat -> TreeD -> List Ln
 | 0, _ => []
 | n + 1, d => if d.kids = [] then [(0, (scalText d).data.toList)] else seqP (kidLn (lnT n) d) 0 d.kids.length
theorem lnT_leaf {n : Nat} {d : TreeD} (h : d.kids = []) : lnT (n + 1) d = [(0, (scalText d).data.toList)] := by rw [lnT, if_pos h]
theorem lnT_kids {n : Nat} {d : TreeD} (h : d.kids ≠ []) : lnT (n + 1) d = seqP (kidLn (lnT n) d) 0 d.kids.length := by rw [lnT, if_neg h]
theorem manyL_seq (g : Nat -> List (List UInt8)) : ∀ n, manyL g n = seqP g 0 n
 | 0 => rfl
 | n + 1 => by rw [manyL, manyL_seq g n, seqP_last, Nat.zero_add]
theorem seq_map {α β : Type} (f : α -> β) {g : Nat -> List α} {h : Nat -> List β} : ∀ (n k : Nat), (∀ i, k <= i -> i < k + n -> h i = (g i).map f) -> seqP h k n = (seqP g k n).map f
 | 0, _, _ => rfl
 | n + 1, k, hh => by
  rw [seqP_succ, seqP_succ, List.map_append, hh k (Nat.le_refl _) (by omega), seq_map f n (k + 1) (fun i h1 h2 => hh i (by omega) (by omega))]
theorem render_sh (p : Ln) : render (sh p) = [32, 32] ++ render p := by
 unfold render sh
 rw [List.replicate_succ, List.replicate_succ]
 rfl
theorem blank_render (L : List Ln) : blank2 (L.map render) = (L.map sh).map render := by
 unfold blank2
 rw [List.map_map, List.map_map]
 exact List.map_congr_left (fun p _ => (render_sh p).symm)
structure LnOkT (n : Nat) (d : TreeD) : Prop where
 hd : ∃ x r, lnT n d = (0, x) :: r
 tx : ∀ p ∈ lnT n d, TxOk p.2
 lines : linesT n d = (lnT n d).map render
theorem shape_kids {n : Nat} {d : TreeD} (h : shapeT (n + 1) d = true) (hk : d.kids ≠ []) : d.kind = 5 ∨ (d.kind = 6 /\ d.keys.length = d.kids.length) := by
 obtain ⟨h1, -, h3, -, -⟩ := shape_parts h
 obtain ⟨⟨k1, k2⟩, -, -, -, -, p6⟩ := bad_parts h1
 by_cases c : d.kind = 6
 ·right
  refine ⟨c, ?_⟩
  unfold lensOk at h3
  simp [c] at h3
  exact h3
 ·left
  by_cases c5 : d.kind < 5
  ·exact absurd (p6 c5) hk
  ·omega
theorem key_at {n i : Nat} {d : TreeD} (h : shapeT (n + 1) d = true) (hl : d.keys.length = d.kids.length) (hi : i < d.kids.length) : ∃ k, d.keys[i]? = some k /\ strB k = true := by
 obtain ⟨k, hk⟩ := exists_at (show i < d.keys.length by omega)
 exact ⟨k, hk, key_str h hk⟩
theorem kid_ok {n i : Nat} {d t : TreeD} (h : shapeT (n + 1) d = true) (hn : numT (n + 1) d) (ht : d.kids[i]? = some t) (hk : LnOkT n t) :
  (∃ x r, kidLn (lnT n) d i = (0, x) :: r) /\ (∀ p ∈ kidLn (lnT n) d i, TxOk p.2) /\ kidLines (linesT n) d i = (kidLn (lnT n) d i).map render := by
 have hne : d.kids ≠ [] := fun e => by rw [e] at ht; cases ht
 have hi : i < d.kids.length := (List.getElem?_eq_some_iff.1 ht).1
 obtain ⟨m, rfl⟩ : ∃ m, n = m + 1 := by
  cases n with
  | zero =>
   have h9 := shape_kid h ht
   cases h9
  | succ m => exact ⟨m, rfl⟩
 have hst := shape_kid h ht
 have hnt := hn.2 t (List.mem_of_getElem? ht)
 obtain ⟨x, r, hx⟩ := hk.hd
 unfold kidLn kidLines
 rw [ht]
 simp only
 rcases shape_kids h hne with h5 | ⟨h6, hl⟩
 ·rw [if_neg (by omega), if_neg (by omega), hk.lines, hx]
  simp only [List.map_cons]
  refine ⟨⟨_, _, rfl⟩, fun p hp => ?_, ?_⟩
  ·rcases List.mem_cons.1 hp with rfl | hp
   ·exact (hk.tx (0, x) (by rw [hx]; simp)).item
   ·obtain ⟨q, hq, rfl⟩ := List.mem_map.1 hp
    exact hk.tx q (by rw [hx]; simp [hq])
  ·rw [blank_render]
   rfl
 ·obtain ⟨k, hkk, hks⟩ := key_at h hl hi
  rw [if_pos h6, if_pos h6, hkk]
  simp only
  by_cases hkt : t.kids = []
  ·rw [if_pos hkt, if_pos hkt]
   have hs := scal_of hst hnt hkt
   refine ⟨⟨_, _, rfl⟩, fun p hp => ?_, ?_⟩
   ·simp at hp
    subst hp
    have := (TxOk.key hks).pair hs.tx
    simpa using this
   ·rw [hk.lines, lnT_leaf hkt]
    rfl
  ·rw [if_neg hkt, if_neg hkt]
   refine ⟨⟨_, _, rfl⟩, fun p hp => ?_, ?_⟩
   ·rcases List.mem_cons.1 hp with rfl | hp
    ·exact (TxOk.key hks).colon
    ·obtain ⟨q, hq, rfl⟩ := List.mem_map.1 hp
     exact hk.tx q hq
   ·rw [hk.lines, blank_render]
    rfl
theorem mem_seq {α : Type} {g : Nat -> List α} {x : α} : ∀ (n k : Nat), x ∈ seqP g k n -> ∃ i, k <= i /\ i < k + n /\ x ∈ g i
 | 0, _, h => by cases h
 | n + 1, k, h => by
  rw [seqP_succ] at h
  rcases List.mem_append.1 h with h | h
  ·exact ⟨k, Nat.le_refl _, by omega, h⟩
  ·obtain ⟨i, h1, h2, h3⟩ := mem_seq n (k + 1) h
   exact ⟨i, by omega, by omega, h3⟩
theorem ln_ok : ∀ (n : Nat) (d : TreeD), shapeT n d = true -> numT n d -> LnOkT n d
 | 0, _, h, _ => by cases h
 | n + 1, d, h, hn => by
  by_cases hk : d.kids = []
  ·have hs := scal_of h hn hk
   refine ⟨⟨_, _, lnT_leaf hk⟩, fun p hp => ?_, ?_⟩
   ·rw [lnT_leaf hk] at hp
    simp at hp
    subst hp
    exact hs.tx
   ·rw [lnT_leaf hk, linesT, if_pos hk]
    rfl
  ·have hall : ∀ i, i < d.kids.length -> (∃ x r, kidLn (lnT n) d i = (0, x) :: r) /\ (∀ p ∈ kidLn (lnT n) d i, TxOk p.2) /\ kidLines (linesT n) d i = (kidLn (lnT n) d i).map render := fun i hi => by
    obtain ⟨t, ht⟩ := exists_at hi
    exact kid_ok h hn ht (ln_ok n t (shape_kid h ht) (hn.2 t (List.mem_of_getElem? ht)))
   have hpos : 0 < d.kids.length := List.length_pos_iff.2 hk
   refine ⟨?_, fun p hp => ?_, ?_⟩
   ·obtain ⟨x, r, hx⟩ := (hall 0 hpos).1
    obtain ⟨q, hq⟩ : ∃ q, d.kids.length = q + 1 := ⟨d.kids.length - 1, by omega⟩
    rw [lnT_kids hk, hq, seqP_succ, hx]
    exact ⟨_, _, rfl⟩
   ·rw [lnT_kids hk] at hp
    obtain ⟨i, -, h2, h3⟩ := mem_seq _ _ hp
    exact (hall i (by omega)).2.1 p h3
   ·rw [lnT_kids hk, linesT, if_neg hk, manyL_seq]
    exact seq_map render _ _ (fun i _ h2 => (hall i (by omega)).2.2)
def LnR (i : Nat) (ps : List Ln) (L : List LineD) : Prop := L.map (fun x => (x.ind, x.text)) = ps.map (fun p => (i + p.1, bs p.2))
theorem LnR.nil {i : Nat} {L : List LineD} (h : LnR i [] L) : L = [] := by
 unfold LnR at h
 simpa using h
theorem LnR.app {i : Nat} {a b : List Ln} {L : List LineD} (h : LnR i (a ++ b) L) : ∃ La Lb, L = La ++ Lb /\ LnR i a La /\ LnR i b Lb := by
 unfold LnR at h
 rw [List.map_append, List.map_eq_append_iff] at h
 obtain ⟨La, Lb, h1, h2, h3⟩ := h
 exact ⟨La, Lb, h1, h2, h3⟩
theorem LnR.cons {i : Nat} {p : Ln} {r : List Ln} {L : List LineD} (h : LnR i (p :: r) L) : ∃ y L', L = y :: L' /\ y.ind = i + p.1 /\ y.text = bs p.2 /\ LnR i r L' := by
 unfold LnR at h
 cases L with
 | nil => cases h
 | cons y L' =>
  simp only [List.map_cons, List.cons.injEq, Prod.mk.injEq] at h
  exact ⟨y, L', rfl, h.1.1, h.1.2, h.2⟩
theorem LnR.sh {i : Nat} {r : List Ln} {L : List LineD} (h : LnR i (r.map sh) L) : LnR (i + 2) r L := by
 unfold LnR at h ⊢
 rw [h, List.map_map]
 refine List.map_congr_left (fun p _ => ?_)
 show (i + (p.1 + 2), bs p.2) = (i + 2 + p.1, bs p.2)
 rw [show i + (p.1 + 2) = i + 2 + p.1 by omega]
def Stop (i : Nat) (rest : List LineD) : Prop := ∀ y, rest.head? = some y -> y.ind < i
theorem costL_app (a b : List LineD) : costL (a ++ b) = costL a + costL b := szL_append _ a b
theorem costL_cons (x : LineD) (l : List LineD) : costL (x :: l) = (x.text.size + 3) + costL l := rfl
def InB (n : Nat) (d : TreeD) : Prop := ∀ (i : Nat) (L rest : List LineD) (m deep fuel : Nat), LnR i (lnT n d) L -> Stop i rest -> deep + depthT n d <= 9 -> m + sizeT n d <= 300 -> 3 * costL (L ++ rest) + 3 <= fuel ->
 readK fuel (.value deep) (L ++ rest) m = .good d rest (m + sizeT n d)
theorem begin_ok {d m a : Nat} (h1 : d <= 8) (h2 : m < 300) : beginF d m a = none := by
 unfold beginF
 rw [if_neg (by omega), if_neg (by omega)]
theorem depth_pos {n : Nat} {t : TreeD} (h : shapeT n t = true) : 1 <= depthT n t /\ 1 <= sizeT n t := by
 cases n with
 | zero => cases h
 | succ n => rw [depthT_succ, sizeT_succ]; omega
theorem list_in {n : Nat} {d : TreeD} (h : shapeT (n + 1) d = true) (hn : numT (n + 1) d) (h5 : d.kind = 5) (hb : ∀ t ∈ d.kids, InB n t) : ∀ (r k : Nat), k + r = d.kids.length -> ∀ (i : Nat) (L rest : List LineD) (m deep fuel : Nat),
  LnR i (seqP (kidLn (lnT n) d) k r) L -> Stop i rest -> (∀ t ∈ d.kids, deep + 1 + depthT n t <= 9) -> m + szL (sizeT n) (d.kids.drop k) <= 300 -> 3 * costL (L ++ rest) + 2 <= fuel ->
  readK fuel (.list i deep (d.kids.take k)) (L ++ rest) m = .good (tList d.kids) rest (m + szL (sizeT n) (d.kids.drop k)) := by
 intro r
 induction r with
 | zero =>
  intro k hk i L rest m deep fuel hL hs _ _ hf
  obtain rfl := hL.nil
  obtain ⟨f, rfl⟩ : ∃ f, fuel = f + 1 := ⟨fuel - 1, by omega⟩
  rw [List.take_of_length_le (by omega), List.drop_of_length_le (by omega), List.nil_append]
  cases rest with
  | nil => rfl
  | cons y rest =>
   have := hs y rfl
   rw [readK, if_pos (by omega)]
   rfl
 | succ r ih =>
  intro k hk i L rest m deep fuel hL hs hd hm hf
  obtain ⟨f, rfl⟩ : ∃ f, fuel = f + 1 := ⟨fuel - 1, by omega⟩
  obtain ⟨t, ht⟩ := exists_at (show k < d.kids.length by omega)
  have htm := List.mem_of_getElem? ht
  have hst := shape_kid h ht
  have hnt := hn.2 t htm
  have hsz : szL (sizeT n) (d.kids.drop k) = sizeT n t + szL (sizeT n) (d.kids.drop (k + 1)) := by
   rw [seq_kids ht]
   simp [szL]
  rw [seqP_succ] at hL
  obtain ⟨La, Lb, rfl, hLa, hLb⟩ := hL.app
  have hlk := ln_ok n t hst hnt
  obtain ⟨x, q, hx⟩ := hlk.hd
  have hkl : kidLn (lnT n) d k = (0, [45, 32] ++ x) :: q.map sh := by
   unfold kidLn
   rw [ht]
   simp only
   rw [if_neg (by omega), hx]
  rw [hkl] at hLa
  obtain ⟨y, La', rfl, hy1, hy2, hLa'⟩ := hLa.cons
  have hxo := hlk.tx (0, x) (by rw [hx]; simp)
  rw [List.cons_append, List.cons_append, readK, if_neg (by simpa using hy1), hy2, item_line hxo]
  simp only
  rw [if_neg (by decide)]
  have hnext : Stop (i + 2) (Lb ++ rest) := by
   intro z hz
   cases r with
   | zero =>
    obtain rfl := hLb.nil
    have := hs z hz
    omega
   | succ r =>
    rw [seqP_succ] at hLb
    obtain ⟨u, hu⟩ := exists_at (show k + 1 < d.kids.length by omega)
    obtain ⟨x2, q2, hx2⟩ := (kid_ok h hn hu (ln_ok n u (shape_kid h hu) (hn.2 u (List.mem_of_getElem? hu)))).1
    rw [hx2, List.cons_append] at hLb
    obtain ⟨y2, Lb', rfl, hy3, -, -⟩ := hLb.cons
    simp at hz
    subst hz
    simp only at hy3
    omega
  have hv := hb t htm (i + 2) (⟨i + 2, bs x, y.at'⟩ :: La') (Lb ++ rest) m (deep + 1) f (by
   rw [hx]
   unfold LnR
   have h9 := hLa'.sh
   unfold LnR at h9
   rw [List.map_cons, List.map_cons, h9]
   rfl) hnext (hd t htm) (by omega) (by
   rw [List.cons_append, List.cons_append, costL_cons, hy2, bs_size] at hf
   rw [List.cons_append, costL_cons, bs_size]
   simp only [List.length_append, List.length_cons, List.length_nil] at hf
   rw [List.append_assoc] at hf
   omega)
  rw [List.append_assoc]
  rw [List.cons_append] at hv
  rw [hv]
  simp only
  rw [<- take_next ht, ih (k + 1) (by omega) i Lb rest (m + sizeT n t) deep f hLb hs hd (by omega) (by
   rw [List.cons_append, List.cons_append, costL_cons, List.append_assoc, costL_app] at hf
   omega), hsz, Nat.add_assoc]
theorem pairs_in {n : Nat} {d : TreeD} (h : shapeT (n + 1) d = true) (hn : numT (n + 1) d) (h6 : d.kind = 6) (hl : d.keys.length = d.kids.length) (hb : ∀ t ∈ d.kids, InB n t) : ∀ (r k : Nat), k + r = d.kids.length -> ∀ (i : Nat) (L rest : List LineD) (m deep fuel : Nat),
  LnR i (seqP (kidLn (lnT n) d) k r) L -> Stop i rest -> (∀ t ∈ d.kids, deep + 1 + depthT n t <= 9) -> m + szL (sizeT n) (d.kids.drop k) <= 300 -> 3 * costL (L ++ rest) + 2 <= fuel ->
  readK fuel (.pairs i deep (d.keys.take k) (d.kids.take k)) (L ++ rest) m = .good (tMap d.keys d.kids) rest (m + szL (sizeT n) (d.kids.drop k)) := by
 intro r
 induction r with
 | zero =>
  intro k hk i L rest m deep fuel hL hs _ _ hf
  obtain rfl := hL.nil
  obtain ⟨f, rfl⟩ : ∃ f, fuel = f + 1 := ⟨fuel - 1, by omega⟩
  rw [List.take_of_length_le (by omega), List.take_of_length_le (by omega), List.drop_of_length_le (by omega), List.nil_append]
  cases rest with
  | nil => rfl
  | cons y rest =>
   have := hs y rfl
   rw [readK, if_pos (.inl (by omega))]
   rfl
 | succ r ih =>
  intro k hk i L rest m deep fuel hL hs hd hm hf
  obtain ⟨f, rfl⟩ : ∃ f, fuel = f + 1 := ⟨fuel - 1, by omega⟩
  obtain ⟨t, ht⟩ := exists_at (show k < d.kids.length by omega)
  obtain ⟨key, hkey, hstr⟩ := key_at h hl (show k < d.kids.length by omega)
  have htm := List.mem_of_getElem? ht
  have hst := shape_kid h ht
  have hnt := hn.2 t htm
  have hdp := depth_pos hst
  have hdt := hd t htm
  have hsz : szL (sizeT n) (d.kids.drop k) = sizeT n t + szL (sizeT n) (d.kids.drop (k + 1)) := by
   rw [seq_kids ht]
   simp [szL]
  have hlk : ∀ x ∈ d.keys.take k, lessS x key = true := fun x hx => by
   obtain ⟨j, hj⟩ := List.getElem?_of_mem hx
   rw [List.getElem?_take] at hj
   split at hj
   ·exact key_less h k j x key (by omega) hj hkey
   ·cases hj
  have hpk : posK (d.keys.take k) key = (d.keys.take k).length := posK_last hlk
  have hkl : (d.keys.take k).length = k := by rw [List.length_take]; omega
  have hll : (d.kids.take k).length = k := by rw [List.length_take]; omega
  have hi1 : insL (d.keys.take k) k key = d.keys.take (k + 1) := by
   have := insL_last (d.keys.take k) key
   rw [hkl] at this
   rw [this, <- take_next hkey]
  have hi2 : insL (d.kids.take k) k t = d.kids.take (k + 1) := by
   have := insL_last (d.kids.take k) t
   rw [hll] at this
   rw [this, <- take_next ht]
  have h400 : ¬ 400 < key.size := by have := (strB_utf hstr).2; omega
  rw [seqP_succ] at hL
  obtain ⟨La, Lb, rfl, hLa, hLb⟩ := hL.app
  have hnext : Stop (i + 2) (Lb ++ rest) := by
   intro z hz
   cases r with
   | zero =>
    obtain rfl := hLb.nil
    have := hs z hz
    omega
   | succ r =>
    rw [seqP_succ] at hLb
    obtain ⟨u, hu⟩ := exists_at (show k + 1 < d.kids.length by omega)
    obtain ⟨x2, q2, hx2⟩ := (kid_ok h hn hu (ln_ok n u (shape_kid h hu) (hn.2 u (List.mem_of_getElem? hu)))).1
    rw [hx2, List.cons_append] at hLb
    obtain ⟨y2, Lb', rfl, hy3, -, -⟩ := hLb.cons
    simp at hz
    subst hz
    simp only at hy3
    omega
  have hgo : ∀ (fu : Nat), 3 * costL (Lb ++ rest) + 2 <= fu -> readK fu (.pairs i deep (insL (d.keys.take k) (posK (d.keys.take k) key) key) (insL (d.kids.take k) (posK (d.keys.take k) key) t)) (Lb ++ rest) (m + sizeT n t) = .good (tMap d.keys d.kids) rest (m + szL (sizeT n) (d.kids.drop k)) := fun fu hfu => by
   rw [hpk, hkl, hi1, hi2, ih (k + 1) (by omega) i Lb rest (m + sizeT n t) deep fu hLb hs hd (by omega) hfu, hsz, Nat.add_assoc]
  by_cases hkt : t.kids = []
  ·obtain ⟨n', rfl⟩ : ∃ n', n = n' + 1 := by
    cases n with
    | zero => cases hst
    | succ n' => exact ⟨n', rfl⟩
   have hsc := scal_of hst hnt hkt
   have hkn : kidLn (lnT (n' + 1)) d k = [(0, (keyText key).data.toList ++ [58, 32] ++ (scalText t).data.toList)] := by
    unfold kidLn
    rw [ht]
    simp only
    rw [if_pos h6, hkey]
    simp only
    rw [if_pos hkt]
   rw [hkn] at hLa
   obtain ⟨y, La', rfl, hy1, hy2, hLa'⟩ := hLa.cons
   obtain rfl := hLa'.nil
   have hyt : y.text = bs ((keyText key).data.toList ++ 58 :: (32 :: (scalText t).data.toList)) := by rw [hy2]; simp
   obtain ⟨g1, g2⟩ := key_line hstr (R := 32 :: (scalText t).data.toList) (.inr ⟨_, hsc.tx, rfl⟩)
   have hrest : bs ((32 :: (scalText t).data.toList).drop 1) = scalText t := by show bs (scalText t).data.toList = _; exact bs_toL _
   rw [hrest] at g1
   have hpos : (scalText t).size ≠ 0 := by
    have h9 := List.length_pos_iff.2 hsc.tx.ne
    rw [toL_size] at h9
    omega
   have hone : sizeT (n' + 1) t = 1 := by rw [sizeT_succ, hkt]; rfl
   rw [List.cons_append, List.nil_append, List.cons_append, readK, hyt, g2, if_neg (by simpa using hy1), g1]
   simp only
   rw [if_neg h400, if_neg (by rw [not_contains hlk]; decide), if_neg hpos, begin_ok (by omega) (by omega), hsc.scal]
   simp only
   have := hgo f (by
    rw [List.cons_append, List.cons_append, costL_cons, List.nil_append] at hf
    omega)
   rw [hone] at this
   exact this
  ·have hkn : kidLn (lnT n) d k = (0, (keyText key).data.toList ++ [58]) :: (lnT n t).map sh := by
    unfold kidLn
    rw [ht]
    simp only
    rw [if_pos h6, hkey]
    simp only
    rw [if_neg hkt]
   rw [hkn] at hLa
   obtain ⟨y, La', rfl, hy1, hy2, hLa'⟩ := hLa.cons
   obtain ⟨g1, g2⟩ := key_line hstr (R := []) (.inl rfl)
   have hyt : y.text = bs ((keyText key).data.toList ++ 58 :: []) := hy2
   obtain ⟨x, q, hx⟩ := (ln_ok n t hst hnt).hd
   have hLs := hLa'.sh
   obtain ⟨z, Lz, hz, hz1, -, -⟩ : ∃ z Lz, La' = z :: Lz /\ z.ind = i + 2 + 0 /\ z.text = bs x /\ LnR (i + 2) q Lz := by
    have h9 := hLs
    rw [hx] at h9
    exact h9.cons
   obtain ⟨f2, rfl⟩ : ∃ f2, f = f2 + 1 := ⟨f - 1, by
    rw [List.cons_append, List.cons_append, costL_cons] at hf
    omega⟩
   have hfc : 3 * costL (La' ++ (Lb ++ rest)) + 9 + 2 <= f2 + 1 + 1 := by
    rw [List.cons_append, List.cons_append, costL_cons, List.append_assoc] at hf
    omega
   have hv := hb t htm (i + 2) La' (Lb ++ rest) m (deep + 1) f2 hLs hnext hdt (by omega) (by omega)
   have hbelow : readK (f2 + 1) (.below i (deep + 1) y.at') (La' ++ (Lb ++ rest)) m = .good t (Lb ++ rest) (m + sizeT n t) := by
    rw [hz]
    show (if decide (i < z.ind) = true then readK f2 (.value (deep + 1)) ((z :: Lz) ++ (Lb ++ rest)) m else _) = _
    rw [if_pos (by rw [decide_eq_true_eq]; omega), <- hz, hv]
   rw [List.cons_append, List.cons_append, readK, hyt, g2, if_neg (by simpa using hy1), g1]
   simp only
   rw [if_neg h400, if_neg (by rw [not_contains hlk]; decide), if_pos (show (bs (([] : List UInt8).drop 1)).size = 0 from rfl), List.append_assoc, hbelow]
   simp only
   exact hgo (f2 + 1) (by
    rw [costL_app] at hfc
    omega)
theorem back_in : ∀ (n : Nat) (d : TreeD), shapeT n d = true -> numT n d -> InB n d
 | 0, _, h, _ => by cases h
 | n + 1, d, h, hn => by
  intro i L rest m deep fuel hL hs hd hm hf
  obtain ⟨f, rfl⟩ : ∃ f, fuel = f + 1 := ⟨fuel - 1, by omega⟩
  have hdp := depth_pos h
  by_cases hk : d.kids = []
  ·have hsc := scal_of h hn hk
   have hone : sizeT (n + 1) d = 1 := by rw [sizeT_succ, hk]; rfl
   rw [lnT_leaf hk] at hL
   obtain ⟨y, L', rfl, hy1, hy2, hL'⟩ := hL.cons
   obtain rfl := hL'.nil
   have hyt : y.text = scalText d := by rw [hy2]; exact bs_toL _
   rw [List.cons_append, List.nil_append, readK, hyt, begin_ok (by omega) (by omega)]
   simp only
   rw [hsc.item, hsc.key, hsc.scal, hone]
   rfl
  ·have hb : ∀ t ∈ d.kids, InB n t := fun t ht => by
    obtain ⟨j, hj⟩ := List.getElem?_of_mem ht
    exact back_in n t (shape_kid h hj) (hn.2 t ht)
   have hdk : ∀ t ∈ d.kids, deep + 1 + depthT n t <= 9 := fun t ht => by
    obtain ⟨j, hj⟩ := List.getElem?_of_mem ht
    have := (depth_kid (n := n) hj).2
    omega
   have hpos : 0 < d.kids.length := List.length_pos_iff.2 hk
   have hsz : sizeT (n + 1) d = 1 + szL (sizeT n) d.kids := rfl
   have hlo := ln_ok (n + 1) d h hn
   obtain ⟨x, q, hx⟩ := hlo.hd
   have hL0 := hL
   rw [hx] at hL
   obtain ⟨y, L', rfl, hy1, hy2, -⟩ := hL.cons
   have hyi : y.ind = i := hy1
   rw [lnT_kids hk] at hL0
   have h0k : kidLn (lnT n) d 0 ++ seqP (kidLn (lnT n) d) 1 (d.kids.length - 1) = (0, x) :: q := by
    rw [<- hx, lnT_kids hk]
    obtain ⟨z, hz⟩ : ∃ z, d.kids.length = z + 1 := ⟨d.kids.length - 1, by omega⟩
    rw [hz, seqP_succ]
    rfl
   obtain ⟨t, ht⟩ := exists_at hpos
   have htk := ln_ok n t (shape_kid h ht) (hn.2 t (List.mem_of_getElem? ht))
   rw [List.cons_append, readK, begin_ok (by omega) (by omega)]
   simp only
   rcases shape_kids h hk with h5 | ⟨h6, hl⟩
   ·have hit : (itemB y.text).isSome = true := by
     obtain ⟨x2, q2, hx2⟩ := htk.hd
     have hkl : kidLn (lnT n) d 0 = (0, [45, 32] ++ x2) :: q2.map sh := by
      unfold kidLn
      rw [ht]
      simp only
      rw [if_neg (by omega), hx2]
     rw [hkl, List.cons_append, List.cons.injEq, Prod.mk.injEq] at h0k
     rw [hy2, <- h0k.1.2, item_line (htk.tx (0, x2) (by rw [hx2]; simp))]
     rfl
    rw [if_pos hit, hyi]
    have := list_in h hn h5 hb d.kids.length 0 (by omega) i (y :: L') rest (m + 1) deep f hL0 hs hdk (by rw [List.drop_zero]; omega) (by omega)
    rw [List.take_zero, List.drop_zero, List.cons_append] at this
    rw [this, hsz]
    have he : tList d.kids = d := by
     obtain ⟨h1, -, -, -, -⟩ := shape_parts h
     obtain ⟨-, p2, p3, p4, p5, -⟩ := bad_parts h1
     obtain ⟨kind, flag, num, text, keys, kids⟩ := d
     simp only at *
     subst h5
     rw [p2 (by decide), p3 (by decide), p4 (by decide), p5 (by decide)]
     rfl
    rw [he, Nat.add_assoc]
   ·obtain ⟨key, hkey, hstr⟩ := key_at h hl hpos
    have hkl : (itemB y.text).isSome = false /\ (keyB y.text).isSome = true := by
     unfold kidLn at h0k
     rw [ht] at h0k
     simp only at h0k
     rw [if_pos h6, hkey] at h0k
     simp only at h0k
     by_cases hkt : t.kids = []
     ·have hst := shape_kid h ht
      have hnt := hn.2 t (List.mem_of_getElem? ht)
      obtain ⟨n', rfl⟩ : ∃ n', n = n' + 1 := by
       cases n with
       | zero => cases hst
       | succ n' => exact ⟨n', rfl⟩
      have hsc := scal_of hst hnt hkt
      rw [if_pos hkt, List.cons_append, List.cons.injEq, Prod.mk.injEq] at h0k
      obtain ⟨g1, g2⟩ := key_line hstr (R := 32 :: (scalText t).data.toList) (.inr ⟨_, hsc.tx, rfl⟩)
      have hyt : y.text = bs ((keyText key).data.toList ++ 58 :: (32 :: (scalText t).data.toList)) := by rw [hy2, <- h0k.1.2]; simp
      rw [hyt, g1, g2]
      exact ⟨rfl, rfl⟩
     ·rw [if_neg hkt, List.cons_append, List.cons.injEq, Prod.mk.injEq] at h0k
      obtain ⟨g1, g2⟩ := key_line hstr (R := []) (.inl rfl)
      have hyt : y.text = bs ((keyText key).data.toList ++ 58 :: []) := by rw [hy2, <- h0k.1.2]
      rw [hyt, g1, g2]
      exact ⟨rfl, rfl⟩
    rw [if_neg (by rw [hkl.1]; decide), if_pos hkl.2, hyi]
    have := pairs_in h hn h6 hl hb d.kids.length 0 (by omega) i (y :: L') rest (m + 1) deep f hL0 hs hdk (by rw [List.drop_zero]; omega) (by omega)
    rw [List.take_zero, List.take_zero, List.drop_zero, List.cons_append] at this
    rw [this, hsz]
    have he : tMap d.keys d.kids = d := by
     obtain ⟨h1, -, -, -, -⟩ := shape_parts h
     obtain ⟨-, p2, p3, p4, -, -⟩ := bad_parts h1
     obtain ⟨kind, flag, num, text, keys, kids⟩ := d
     simp only at *
     subst h6
     rw [p2 (by decide), p3 (by decide), p4 (by decide)]
     rfl
    rw [he, Nat.add_assoc]
theorem cut_line : ∀ (x acc r : List UInt8), (10 : UInt8) ∉ x -> cutA acc (x ++ 10 :: r) = (acc ++ x) :: cutA [] r
 | [], acc, r, _ => by simp [cutA]
 | c :: x, acc, r, h => by
  have hc : ¬ c = 10 := fun e => h (by rw [e]; simp)
  rw [List.cons_append, cutA, if_neg hc, cut_line x (acc ++ [c]) r (fun hm => h (by simp [hm]))]
  simp
theorem cut_lines : ∀ (L : List (List UInt8)) (z : List UInt8), (∀ x ∈ L, (10 : UInt8) ∉ x) -> cutA [] (textL L ++ z) = L ++ cutA [] z
 | [], z, _ => rfl
 | x :: L, z, h => by
  have e : textL (x :: L) ++ z = x ++ 10 :: (textL L ++ z) := by unfold textL; simp
  rw [e, cut_line x [] _ (h x (by simp)), List.nil_append, cut_lines L z (fun y hy => h y (by simp [hy]))]
  rfl
def linesA : Nat -> List (List UInt8) -> List LineD
 | _, [] => []
 | k, l :: P => lineO (k + 1) l ++ linesA (k + 1) P
theorem linesA_app : ∀ (a : List (List UInt8)) (k : Nat) (b : List (List UInt8)), linesA k (a ++ b) = linesA k a ++ linesA (k + a.length) b
 | [], k, b => rfl
 | l :: a, k, b => by
  rw [List.cons_append, linesA, linesA, linesA_app a (k + 1) b, List.length_cons, List.append_assoc, show k + 1 + a.length = k + (a.length + 1) by omega]
theorem linesK_A (P : List (List UInt8)) : ∀ n, n <= P.length -> linesK P n = linesA 0 (P.take n)
 | 0, _ => rfl
 | n + 1, h => by
  obtain ⟨l, hl⟩ := exists_at (show n < P.length by omega)
  rw [linesK, linesK_A P n (by omega), hl, take_next hl, linesA_app, List.length_take, Nat.min_eq_left (by omega), Nat.zero_add]
  simp [linesA]
theorem linesA_nil : ∀ (P : List (List UInt8)) (k : Nat), (∀ x ∈ P, bareL x = []) -> linesA k P = []
 | [], _, _ => rfl
 | x :: P, k, h => by
  rw [linesA, linesA_nil P (k + 1) (fun y hy => h y (by simp [hy]))]
  unfold lineO
  rw [if_pos (h x (by simp))]
  rfl
theorem linesA_lines : ∀ (ps : List Ln) (k : Nat), (∀ p ∈ ps, TxOk p.2) -> LnR 0 ps (linesA k (ps.map render))
 | [], _, _ => rfl
 | p :: ps, k, h => by
  have ih := linesA_lines ps (k + 1) (fun q hq => h q (by simp [hq]))
  have hl := (line_okT (i := p.1) (h p (by simp)) (k + 1)).1
  unfold LnR at ih ⊢
  rw [List.map_cons, linesA, show render p = render (p.1, p.2) from rfl, hl, List.map_append, ih]
  simp
def Mute (x : List UInt8) : Prop := bareL x = [] /\ lowB x = false
theorem linesF_wrap {s : ByteArray} {P Q : List (List UInt8)} {ps : List Ln} (hcut : cutA [] s.data.toList = P ++ (ps.map render ++ Q)) (hf : textF s = flt0) (hP : ∀ x ∈ P, Mute x) (hQ : ∀ x ∈ Q, Mute x) (hps : ∀ p ∈ ps, TxOk p.2) :
  ∃ L, linesF s = (L, flt0) /\ LnR 0 ps L := by
 refine ⟨linesA P.length (ps.map render), ?_, linesA_lines ps _ hps⟩
 have hidx : (P ++ (ps.map render ++ Q)).findIdx? lowB = none := by
  rw [List.findIdx?_eq_none_iff]
  intro x hx
  simp only [List.mem_append, List.mem_map] at hx
  rcases hx with hx | ⟨p, hp, rfl⟩ | hx
  ·exact (hP x hx).2
  ·exact (line_okT (i := p.1) (hps p hp) 0).2.1
  ·exact (hQ x hx).2
 unfold linesF
 rw [hf, if_neg (by decide), hcut, hidx]
 simp only
 rw [linesK_A _ _ (Nat.le_refl _), List.take_length, linesA_app, linesA_app, linesA_nil P 0 (fun x hx => (hP x hx).1), linesA_nil Q _ (fun x hx => (hQ x hx).1), List.append_nil, List.nil_append, Nat.zero_add]
theorem readIn_wrap {n : Nat} {d : TreeD} {s : ByteArray} {P Q : List (List UInt8)} (h : okT n d = true) (hn : numT n d) (hcut : cutA [] s.data.toList = P ++ (linesT n d ++ Q)) (hf : textF s = flt0) (hP : ∀ x ∈ P, Mute x) (hQ : ∀ x ∈ Q, Mute x) : readIn s = (flt0, d) := by
 obtain ⟨h3, hsh⟩ := okT_parts h
 have h8 := okT_deep h
 have hlo := ln_ok n d hsh hn
 rw [hlo.lines] at hcut
 obtain ⟨L, hL, hR⟩ := linesF_wrap hcut hf hP hQ hlo.tx
 obtain ⟨x, q, hx⟩ := hlo.hd
 have hR0 := hR
 rw [hx] at hR
 obtain ⟨y, L', rfl, hy1, hy2, -⟩ := hR.cons
 have hb := back_in n d hsh hn 0 (y :: L') [] 0 1 (3 * costL (y :: L') + 3) hR0 (fun z hz => by cases hz) (by omega) (by omega) (by rw [List.append_nil]; omega)
 rw [List.append_nil] at hb
 have hy0 : y.ind = 0 := hy1
 unfold readIn
 rw [hL]
 simp only
 rw [if_neg (show ¬ flt0.code ≠ 0 by decide)]
 rw [if_neg (show ¬ y.ind ≠ 0 by omega), hb]
theorem lines_no10 {n : Nat} {d : TreeD} (h : shapeT n d = true) (hn : numT n d) : ∀ x ∈ linesT n d, (10 : UInt8) ∉ x /\ VU x := by
 have hlo := ln_ok n d h hn
 rw [hlo.lines]
 intro x hx
 obtain ⟨p, hp, rfl⟩ := List.mem_map.1 hx
 have := line_okT (i := p.1) (hlo.tx p hp) 0
 exact ⟨this.2.2.2, this.2.2.1⟩
theorem VU.textL : ∀ {L : List (List UInt8)}, (∀ x ∈ L, VU x) -> VU (textL L)
 | [], _ => VU.nil
 | x :: L, h => by
  have e : Go.Proofs.YtohcpifekcehjaaGreatDoor.textL (x :: L) = (x ++ [10]) ++ Go.Proofs.YtohcpifekcehjaaGreatDoor.textL L := by unfold Go.Proofs.YtohcpifekcehjaaGreatDoor.textL; simp
  rw [e]
  exact VU.app (VU.app (h x (by simp)) (VU.low (by simp))) (VU.textL (fun y hy => h y (by simp [hy])))
def ahead : List UInt8 := [35, 32, 115, 97, 105, 100, 10, 10]
def behind : List UInt8 := [32, 32, 32, 35, 32, 115, 97, 105, 100, 10]
theorem cut_ahead (r : List UInt8) : cutA [] (ahead ++ r) = [[35, 32, 115, 97, 105, 100], []] ++ cutA [] r := by
 unfold ahead
 simp [cutA]
theorem cut_behind : cutA [] behind = [[32, 32, 32, 35, 32, 115, 97, 105, 100], []] := by kernel_rfl
theorem mute1 : Mute [35, 32, 115, 97, 105, 100] := ⟨by kernel_rfl, by kernel_rfl⟩
theorem mute2 : Mute [32, 32, 32, 35, 32, 115, 97, 105, 100] := ⟨by kernel_rfl, by kernel_rfl⟩
theorem mute0 : Mute [] := ⟨by kernel_rfl, by kernel_rfl⟩
theorem readIn_back {n : Nat} {d : TreeD} (h : okT n d = true) (hn : numT n d) (hl : (textL (linesT n d)).length <= 20000) : readIn (bs (textL (linesT n d))) = (flt0, d) := by
 have hsh := (okT_parts h).2
 have hlo := lines_no10 hsh hn
 refine readIn_wrap (P := []) (Q := [[]]) h hn ?_ (textF_good (VU.textL (fun x hx => (hlo x hx).2)) hl) (fun x hx => by cases hx) (fun x hx => ?_)
 ·rw [toL]
  have := cut_lines (linesT n d) [] (fun x hx => (hlo x hx).1)
  rw [List.append_nil] at this
  rw [this]
  rfl
 ·simp at hx
  subst hx
  exact mute0
theorem readIn_said {n : Nat} {d : TreeD} (h : okT n d = true) (hn : numT n d) (hl : (textL (linesT n d)).length <= 19900) : readIn (bs (ahead ++ (textL (linesT n d) ++ behind))) = (flt0, d) := by
 have hsh := (okT_parts h).2
 have hlo := lines_no10 hsh hn
 refine readIn_wrap (P := [[35, 32, 115, 97, 105, 100], []]) (Q := [[32, 32, 32, 35, 32, 115, 97, 105, 100], []]) h hn ?_ (textF_good (VU.app (VU.low (by unfold ahead; simp)) (VU.app (VU.textL (fun x hx => (hlo x hx).2)) (VU.low (by unfold behind; simp)))) ?_) (fun x hx => ?_) (fun x hx => ?_)
 ·rw [toL, cut_ahead, cut_lines _ _ (fun x hx => (hlo x hx).1), cut_behind]
 ·have h1 : ahead.length = 8 := rfl
  have h2 : behind.length = 10 := rfl
  rw [List.length_append, List.length_append]
  omega
 ·simp at hx
  rcases hx with rfl | rfl
  ·exact mute1
  ·exact mute0
 ·simp at hx
  rcases hx with rfl | rfl
  ·exact mute2
  ·exact mute0
theorem readIn_none : readIn ⟨#[]⟩ = (⟨4, 1, ⟨#[]⟩⟩, treeE) := by kernel_rfl
theorem readIn_deep : readIn (bs [32, 97, 10]) = (⟨4, 1, ⟨#[]⟩⟩, treeE) := by kernel_rfl
def nlB : Nat -> Nat
 | 0 => 0
 | 1 => 1
 | k + 2 => 4 * (1 + nlB (k + 1))
def tlB : Nat -> Nat
 | 0 => 0
 | 1 => 123
 | k + 2 => 4 * (125 + tlB (k + 1) + 2 * nlB (k + 1))
theorem textL_app (a b : List (List UInt8)) : (textL (a ++ b)).length = (textL a).length + (textL b).length := by unfold textL; rw [List.flatMap_append, List.length_append]
theorem textL_cons (x : List UInt8) (b : List (List UInt8)) : (textL (x :: b)).length = x.length + 1 + (textL b).length := by unfold textL; simp; omega
theorem textL_blank : ∀ b : List (List UInt8), (textL (blank2 b)).length = (textL b).length + 2 * b.length
 | [] => rfl
 | x :: b => by
  have := textL_blank b
  show (textL (([32, 32] ++ x) :: blank2 b)).length = _
  rw [textL_cons, textL_cons, this]
  simp
  omega
theorem nlB_pos (k : Nat) : 1 <= nlB (k + 1) := by cases k <;> (unfold nlB; omega)
theorem tlB_pos (k : Nat) : 123 <= tlB (k + 1) := by cases k <;> (unfold tlB; omega)
theorem blank_len (b : List (List UInt8)) : (blank2 b).length = b.length := List.length_map _
theorem scal_len {n : Nat} {d : TreeD} (_h : shapeT (n + 1) d = true) (hn : numT (n + 1) d) (hw : WordOk d.text) : (scalText d).data.toList.length <= 122 := by
 have hkey : ∀ {s : ByteArray}, WordOk s -> (keyText s).data.toList.length <= 122 := fun {s} hs => by
  unfold keyText
  split
  ·rw [toL_size]
   have := hs.2
   omega
  ·exact hs.quote
 unfold scalText
 split
 ·exact hkey hw
 split
 ·decide
 split
 ·decide
 split
 ·decide
 split
 ·split <;> decide
 ·exact Nat.le_trans (Nat.le_of_eq Array.length_toList) (Nat.le_trans (decS_size _ hn.1) (by decide))
theorem key_len {s : ByteArray} (hs : WordOk s) : (keyText s).data.toList.length <= 122 := by
 unfold keyText
 split
 ·rw [toL_size]
  have := hs.2
  omega
 ·exact hs.quote
theorem many_len {g : Nat -> List (List UInt8)} {a b : Nat} : ∀ n, (∀ i, i < n -> (g i).length <= a /\ (textL (g i)).length <= b) -> (manyL g n).length <= n * a /\ (textL (manyL g n)).length <= n * b
 | 0, _ => ⟨Nat.zero_le _, Nat.zero_le _⟩
 | n + 1, h => by
  have h1 := many_len n (fun i hi => h i (by omega))
  have h2 := h n (by omega)
  rw [manyL, List.length_append, textL_app, Nat.add_mul, Nat.add_mul]
  omega
theorem drawn_lines : ∀ (k : Nat) (d : TreeD), shapeT k d = true -> numT k d -> WordT k d -> (linesT k d).length <= nlB k /\ (textL (linesT k d)).length <= tlB k
 | 0, _, h, _, _ => by cases h
 | k + 1, d, h, hn, ⟨w1, w2, w3, w4⟩ => by
  by_cases hk : d.kids = []
  ·have := scal_len h hn w1
   rw [linesT, if_pos hk, textL_cons]
   have h1 := nlB_pos k
   have h2 := tlB_pos k
   have h3 : (textL []).length = 0 := rfl
   exact ⟨h1, by omega⟩
  ·cases k with
   | zero =>
    obtain ⟨t, ht⟩ := exists_at (List.length_pos_iff.2 hk)
    exact absurd (w4 t (List.mem_of_getElem? ht)) (fun e => e)
   | succ k =>
    rw [linesT, if_neg hk]
    have hm := many_len (g := kidLines (linesT (k + 1)) d) (a := 1 + nlB (k + 1)) (b := 125 + tlB (k + 1) + 2 * nlB (k + 1)) d.kids.length (fun i hi => by
     obtain ⟨t, ht⟩ := exists_at hi
     have htm := List.mem_of_getElem? ht
     have ih := drawn_lines (k + 1) t (shape_kid h ht) (hn.2 t htm) (w4 t htm)
     unfold kidLines
     rw [ht]
     simp only
     split
     ·rcases hkk : d.keys[i]? with _ | key
      ·exact ⟨Nat.zero_le _, Nat.zero_le _⟩
      ·have h122 := key_len (w2 key (List.mem_of_getElem? hkk))
       simp only
       split
       ·rename_i hkt
        have hs := scal_len (shape_kid h ht) (hn.2 t htm) (w4 t htm).1
        have hp := tlB_pos k
        rw [linesT, if_pos hkt, textL_cons]
        have h3 : (textL []).length = 0 := rfl
        simp only [List.headD_cons, List.length_append, List.length_cons, List.length_nil]
        exact ⟨by omega, by omega⟩
       ·rw [textL_cons, textL_blank, List.length_cons, blank_len]
        simp only [List.length_append, List.length_cons, List.length_nil]
        exact ⟨by omega, by omega⟩
     ·rcases hlt : linesT (k + 1) t with _ | ⟨x, r⟩
      ·exact ⟨Nat.zero_le _, Nat.zero_le _⟩
      ·rw [hlt, textL_cons, List.length_cons] at ih
       simp only
       rw [textL_cons, textL_blank, List.length_cons, blank_len]
       simp only [List.length_append, List.length_cons, List.length_nil]
       exact ⟨by omega, by omega⟩)
    have q1 : d.kids.length * (1 + nlB (k + 1)) <= 4 * (1 + nlB (k + 1)) := Nat.mul_le_mul_right _ w3
    have q2 : d.kids.length * (125 + tlB (k + 1) + 2 * nlB (k + 1)) <= 4 * (125 + tlB (k + 1) + 2 * nlB (k + 1)) := Nat.mul_le_mul_right _ w3
    exact ⟨Nat.le_trans hm.1 q1, Nat.le_trans hm.2 q2⟩
theorem Drawn.lines {d : TreeD} (h : Drawn 4 d) : (textL (linesT 4 d)).length <= 19044 := (drawn_lines 4 d h.shape h.num h.word).2
theorem many_same {g h : Nat -> List (List UInt8)} : ∀ n, (∀ i, i < n -> g i = h i) -> manyL g n = manyL h n
 | 0, _ => rfl
 | n + 1, e => by rw [manyL, manyL, many_same n (fun i hi => e i (by omega)), e n (by omega)]
theorem kidLines_same {f g : TreeD -> List (List UInt8)} {d : TreeD} (h : ∀ t ∈ d.kids, f t = g t) (i : Nat) : kidLines f d i = kidLines g d i := by
 unfold kidLines
 rcases ht : d.kids[i]? with _ | t
 ·rfl
 ·simp only
  rw [h t (List.mem_of_getElem? ht)]
theorem lines_up : ∀ (n m : Nat) (d : TreeD), n <= m -> shapeT n d = true -> linesT m d = linesT n d
 | 0, _, _, _, h => by cases h
 | n + 1, 0, _, hm, _ => absurd hm (by omega)
 | n + 1, m + 1, d, hm, h => by
  have hk : ∀ t ∈ d.kids, linesT m t = linesT n t := fun t ht => by
   obtain ⟨i, hi⟩ := List.getElem?_of_mem ht
   exact lines_up n m t (by omega) (shape_kid h hi)
  rw [linesT, linesT]
  split
  ·rfl
  ·exact many_same _ (fun i _ => kidLines_same hk i)
structure TenI (d : TreeD) : Prop where
 ten : Ten d
 ind : (textL (linesT 10 d)).length <= 19044
theorem Drawn.tenI {d : TreeD} (h : Drawn 4 d) : TenI d := ⟨h.ten, by rw [lines_up 4 10 d (by decide) h.shape]; exact h.lines⟩
def tin (d : TreeD) : ByteArray := bs (textL (linesT 10 d))
theorem tin_size (d : TreeD) : (tin d).size = (textL (linesT 10 d)).length := size_mk _
theorem TenI.size {d : TreeD} (h : TenI d) : (tin d).size <= 19044 := by rw [tin_size]; exact h.ind
theorem TenI.text {d : TreeD} (h : TenI d) : indB 10 d = tin d := by
 have := h.ind
 unfold indB
 rw [if_pos h.ten.ok, if_neg (by omega)]
 rfl
theorem TenI.read {d : TreeD} (h : TenI d) : readIn (tin d) = (flt0, d) := readIn_back h.ten.ok h.ten.num (by have := h.ind; omega)
theorem TenI.said {d : TreeD} (h : TenI d) : readIn (bs ahead ++ tin d ++ bs behind) = (flt0, d) := by
 have e : (bs ahead ++ tin d ++ bs behind : ByteArray) = bs (ahead ++ (textL (linesT 10 d) ++ behind)) := by
  have h1 := bs_app ahead (textL (linesT 10 d))
  have h2 := bs_app (ahead ++ textL (linesT 10 d)) behind
  unfold tin bs
  rw [h1, h2, List.append_assoc]
 rw [e]
 exact readIn_said h.ten.ok h.ten.num (by have := h.ind; omega)
theorem lines_pos {n : Nat} {d : TreeD} (h : shapeT n d = true) (hn : numT n d) : 0 < (linesT n d).length := by
 have hlo := ln_ok n d h hn
 obtain ⟨x, q, hx⟩ := hlo.hd
 rw [hlo.lines, hx]
 simp
theorem textL_last : ∀ (L : List (List UInt8)), 0 < L.length -> ∃ y, textL L = y ++ [10]
 | [], h => absurd h (by simp)
 | [x], _ => ⟨x, by unfold textL; simp⟩
 | x :: z :: L, _ => by
  obtain ⟨y, hy⟩ := textL_last (z :: L) (by simp)
  exact ⟨x ++ [10] ++ y, by
   have e : textL (x :: z :: L) = x ++ [10] ++ textL (z :: L) := by unfold textL; simp
   rw [e, hy]; simp⟩
theorem TenI.last {d : TreeD} (h : TenI d) : 0 < (tin d).size /\ ∀ (i : Nat) (hi : i < (tin d).size), i + 1 = (tin d).size -> (tin d)[i]'hi = 10 := by
 obtain ⟨y, hy⟩ := textL_last _ (lines_pos h.ten.shape h.ten.num)
 have hs := tin_size d
 rw [hy, List.length_append, List.length_singleton] at hs
 refine ⟨by omega, fun i hi he => ?_⟩
 have hiy : i = y.length := by omega
 subst hiy
 have e : (tin d)[y.length]'hi = (y ++ [10])[y.length]'(by simp) := by
  show (tin d).data[y.length] = _
  simp only [tin, bs, hy, List.getElem_toArray]
 rw [e]
 simp
theorem whole_i64 (s : ByteArray) (j : Nat) : I64 (wholeB s j).1 := by
 unfold wholeB
 split
 ·split
  ·unfold wholeA
   split
   ·exact i64_zero
   ·rw [if_pos rfl]
    split
    ·unfold I64; simp only; omega
    ·exact i64_zero
  ·unfold wholeA
   split
   ·exact i64_zero
   ·rw [if_neg (by decide)]
    split
    ·unfold I64; simp only; omega
    ·exact i64_zero
 ·exact i64_zero
theorem plain_str {s : ByteArray} (h : plainB s = true) : strB s = true := by
 unfold plainB at h
 simp only [Bool.and_eq_true, decide_eq_true_eq] at h
 unfold strB
 rw [h.1.1.1.1.1.1.1.1.1.2, decide_eq_true h.1.1.1.1.1.1.1.1.1.1.2]
 rfl
theorem quot_str {s : ByteArray} {j : Nat} (h : 0 <= (quotB s j).2) (hs : (quotB s j).1.size <= 400) : strB (quotB s j).1 = true := by
 have h1 := (quotB_cost (s := s) (j := j) (by omega)).1
 unfold strB
 rw [h1, decide_eq_true hs]
 rfl
theorem scal_ok {s : ByteArray} {t : TreeD} (h : scalB s = some t) {N d : Nat} (hd : d <= 8) : VOk (N + 1) d t /\ sizeT (N + 1) t = 1 := by
 unfold scalB at h
 by_cases c1 : s = bs [91, 93]
 ·rw [if_pos c1] at h
  cases h
  exact leaf_ok hd (by unfold badH tList inB; simp) strB_empty (by unfold lensOk tList; simp) rfl rfl i64_zero
 rw [if_neg c1] at h
 by_cases c2 : s = bs [123, 125]
 ·rw [if_pos c2] at h
  cases h
  exact leaf_ok hd (by unfold badH tMap inB; simp) strB_empty (by unfold lensOk tMap; simp) rfl rfl i64_zero
 rw [if_neg c2] at h
 by_cases c3 : s = bs [110, 117, 108, 108] ∨ s = bs [126]
 ·rw [if_pos c3] at h
  cases h
  exact leaf_ok hd (by unfold badH tNull inB; simp) strB_empty (by unfold lensOk tNull; simp) rfl rfl i64_zero
 rw [if_neg c3] at h
 by_cases c4 : s = bs [116, 114, 117, 101]
 ·rw [if_pos c4] at h
  cases h
  exact leaf_ok hd (by unfold badH tFlag inB; simp) strB_empty (by unfold lensOk tFlag; simp) rfl rfl i64_zero
 rw [if_neg c4] at h
 by_cases c5 : s = bs [102, 97, 108, 115, 101]
 ·rw [if_pos c5] at h
  cases h
  exact leaf_ok hd (by unfold badH tFlag inB; simp) strB_empty (by unfold lensOk tFlag; simp) rfl rfl i64_zero
 rw [if_neg c5] at h
 by_cases c6 : 0 < s.size /\ byteI s 0 = 34
 ·rw [if_pos c6] at h
  by_cases c7 : (quotB s 0).2 = s.size /\ (quotB s 0).1.size <= 400
  ·rw [if_pos c7] at h
   cases h
   exact leaf_ok hd (by unfold badH tText inB; simp) (quot_str (by omega) c7.2) (by unfold lensOk tText; simp) rfl rfl i64_zero
  ·rw [if_neg c7] at h; cases h
 rw [if_neg c6] at h
 by_cases c8 : (wholeB s 0).2 = s.size /\ 0 < (wholeB s 0).2
 ·rw [if_pos c8] at h
  cases h
  exact leaf_ok hd (by unfold badH tInt inB; simp) strB_empty (by unfold lensOk tInt; simp) rfl rfl (whole_i64 s 0)
 rw [if_neg c8] at h
 by_cases c9 : plainB s = true
 ·rw [if_pos c9] at h
  cases h
  exact leaf_ok hd (by unfold badH tText inB; simp) (plain_str c9) (by unfold lensOk tText; simp) rfl rfl i64_zero
 ·rw [if_neg c9] at h; cases h
theorem bs_len (l : List UInt8) : (bs l).size = l.length := by show l.toArray.size = l.length; simp
theorem trimL_le (l : List UInt8) : (trimLeftB l 32).length <= l.length := by
 unfold trimLeftB
 exact (List.dropWhile_sublist _).length_le
theorem tail_le (s : ByteArray) (i : Nat) : (tailL s i).size <= s.size - i := by
 unfold tailL
 rw [bs_len]
 have h1 := trimL_le (s.data.toList.drop i)
 have h2 : s.data.toList.length = s.size := Array.length_toList
 rw [List.length_drop] at h1
 omega
theorem key_str' {s key rest : ByteArray} (h : keyB s = some (key, rest)) (hk : ¬ 400 < key.size) : strB key = true := by
 unfold keyB at h
 by_cases c1 : 0 < s.size /\ byteI s 0 = 34
 ·rw [if_pos c1] at h
  by_cases c2 : 0 <= (quotB s 0).2 /\ endsB s (quotB s 0).2.toNat = true
  ·rw [if_pos c2] at h
   cases h
   exact quot_str c2.1 (by omega)
  ·rw [if_neg c2] at h; cases h
 ·rw [if_neg c1] at h
  rcases hf : findE s s.size 0 with _ | i
  ·rw [hf] at h; cases h
  ·rw [hf] at h
   simp only at h
   by_cases c3 : plainB (bs (s.data.toList.take i)) = true
   ·rw [if_pos c3] at h
    cases h
    exact plain_str c3
   ·rw [if_neg c3] at h; cases h
theorem item_le {s rest : ByteArray} {k : Nat} (h : itemB s = some (rest, k)) : rest.size <= s.size := by
 unfold itemB at h
 by_cases c1 : s = bs [45]
 ·rw [if_pos c1] at h
  cases h
  exact Nat.zero_le _
 ·rw [if_neg c1] at h
  by_cases c2 : 2 <= s.size /\ byteI s 0 = 45 /\ byteI s 1 = 32
  ·rw [if_pos c2] at h
   cases h
   have := tail_le s 2
   omega
  ·rw [if_neg c2] at h; cases h
theorem item_more {s rest : ByteArray} {k : Nat} (h : itemB s = some (rest, k)) (hk : k ≠ 0) : rest.size + 2 <= s.size := by
 unfold itemB at h
 by_cases c1 : s = bs [45]
 ·rw [if_pos c1] at h
  cases h
  exact absurd rfl hk
 ·rw [if_neg c1] at h
  by_cases c2 : 2 <= s.size /\ byteI s 0 = 45 /\ byteI s 1 = 32
  ·rw [if_pos c2] at h
   cases h
   have := tail_le s 2
   omega
  ·rw [if_neg c2] at h; cases h
theorem readK_value (n d : Nat) (x : LineD) (r : List LineD) (m : Nat) : readK (n + 1) (.value d) (x :: r) m = (match beginF d m x.at' with
   | some f => .bad f
   | none =>
    if (itemB x.text).isSome then readK n (.list x.ind d []) (x :: r) (m + 1)
    else if (keyB x.text).isSome then readK n (.pairs x.ind d [] []) (x :: r) (m + 1)
    else match scalB x.text with
     | some t => .good t r (m + 1)
     | none => .bad (fltA 4 x.at')) := rfl
def below? (i : Nat) : List LineD -> Bool
 | [] => false
 | x :: _ => decide (i < x.ind)
theorem readK_below (n i d a : Nat) (L : List LineD) (m : Nat) : readK (n + 1) (.below i d a) L m = if below? i L = true then readK n (.value d) L m else (match beginF d m a with
   | some f => .bad f
   | none => .good tNull L (m + 1)) := by
 cases L <;> rfl
def itemJ (n i d : Nat) (x : LineD) (r : List LineD) (rest : ByteArray) (k m : Nat) : ResI := if k = 0 then readK n (.below i (d + 1) x.at') r m else readK n (.value (d + 1)) (⟨i + k, rest, x.at'⟩ :: r) m
theorem readK_list (n i d : Nat) (acc : List TreeD) (x : LineD) (r : List LineD) (m : Nat) : readK (n + 1) (.list i d acc) (x :: r) m = if x.ind ≠ i then .good (tList acc) (x :: r) m else (match itemB x.text with
   | none => .good (tList acc) (x :: r) m
   | some (rest, k) => match itemJ n i d x r rest k m with
    | .bad f => .bad f
    | .good t L' m' => readK n (.list i d (acc ++ [t])) L' m') := rfl
theorem readK_list_nil (n i d : Nat) (acc : List TreeD) (m : Nat) : readK (n + 1) (.list i d acc) [] m = .good (tList acc) [] m := rfl
def pairJ (n i d : Nat) (x : LineD) (r : List LineD) (rest : ByteArray) (m : Nat) : ResI := if rest.size = 0 then readK n (.below i (d + 1) x.at') r m else match beginF (d + 1) m x.at' with
      | some f => .bad f
      | none => match scalB rest with
       | none => .bad (fltA 4 x.at')
       | some t => .good t r (m + 1)
theorem readK_pairs (n i d : Nat) (ks : List ByteArray) (acc : List TreeD) (x : LineD) (r : List LineD) (m : Nat) : readK (n + 1) (.pairs i d ks acc) (x :: r) m = if x.ind ≠ i ∨ (itemB x.text).isSome then .good (tMap ks acc) (x :: r) m else (match keyB x.text with
   | none => .good (tMap ks acc) (x :: r) m
   | some (key, rest) =>
    if 400 < key.size then .bad (fltA 8 x.at')
    else if ks.contains key then .bad (fltA 5 x.at')
    else match pairJ n i d x r rest m with
     | .bad f => .bad f
     | .good t L' m' => readK n (.pairs i d (insL ks (posK ks key) key) (insL acc (posK ks key) t)) L' m') := rfl
theorem readK_pairs_nil (n i d : Nat) (ks : List ByteArray) (acc : List TreeD) (m : Nat) : readK (n + 1) (.pairs i d ks acc) [] m = .good (tMap ks acc) [] m := rfl
theorem begin_none {d m a : Nat} (h : beginF d m a = none) : d <= 8 /\ m < 300 := by
 unfold beginF at h
 by_cases c1 : 8 < d
 ·rw [if_pos c1] at h; cases h
 ·rw [if_neg c1] at h
  by_cases c2 : 300 <= m
  ·rw [if_pos c2] at h; cases h
  ·omega
theorem begin_code {d m a : Nat} {f : Flt} (h : beginF d m a = some f) : f.code ≠ 0 := by
 unfold beginF at h
 by_cases c1 : 8 < d
 ·rw [if_pos c1] at h
  cases h
  exact (show (6 : Int) ≠ 0 by decide)
 ·rw [if_neg c1] at h
  by_cases c2 : 300 <= m
  ·rw [if_pos c2] at h
   cases h
   exact (show (7 : Int) ≠ 0 by decide)
  ·rw [if_neg c2] at h; cases h
def JobIOk (j : JobI) (m : Nat) (t : TreeD) (m' : Nat) : Prop := match j with
 | .value d => ∀ N, N + d = 11 -> VOk N d t /\ m' = m + sizeT N t /\ m' <= 300
 | .below _ d _ => ∀ N, N + d = 11 -> VOk N d t /\ m' = m + sizeT N t /\ m' <= 300
 | .list _ d acc => ∀ N, N + d = 10 -> ∃ more, t = tList (acc ++ more) /\ (∀ x ∈ more, VOk N (d + 1) x) /\ m' = m + szL (sizeT N) more /\ m' <= 300
 | .pairs _ d ks acc => ∀ N, N + d = 10 -> ks.length = acc.length -> SortK ks -> (∀ k ∈ ks, strB k = true) -> (∀ x ∈ acc, VOk N (d + 1) x) -> ∃ ks' l', t = tMap ks' l' /\ ks'.length = l'.length /\ SortK ks' /\ (∀ k ∈ ks', strB k = true) /\ (∀ x ∈ l', VOk N (d + 1) x) /\
   m' + szL (sizeT N) acc = m + szL (sizeT N) l' /\ m' <= 300
theorem readK_ok : ∀ (n : Nat) (j : JobI) (L : List LineD) (m : Nat) (t : TreeD) (L' : List LineD) (m' : Nat), readK n j L m = .good t L' m' -> m <= 300 -> JobIOk j m t m'
 | 0, j, L, m, t, L', m', h, _ => by cases h
 | n + 1, .value d, [], m, t, L', m', h, hm => by cases h
 | n + 1, .value d, x :: r, m, t, L', m', h, hm => by
  rw [readK_value] at h
  rcases hb : beginF d m x.at' with _ | f
  ·rw [hb] at h
   simp only at h
   obtain ⟨hd, hm3⟩ := begin_none hb
   intro N hN
   obtain ⟨N, rfl⟩ : ∃ M, N = M + 1 := ⟨N - 1, by omega⟩
   by_cases c1 : (itemB x.text).isSome = true
   ·rw [if_pos c1] at h
    obtain ⟨more, g1, g2, g3, g4⟩ := readK_ok n _ _ _ _ _ _ h (by omega) N (by omega)
    rw [List.nil_append] at g1
    subst g1
    refine ⟨list_ok hd g2, ?_, g4⟩
    rw [sizeT_succ]
    show m' = m + (1 + szL (sizeT N) more)
    omega
   rw [if_neg c1] at h
   by_cases c2 : (keyB x.text).isSome = true
   ·rw [if_pos c2] at h
    obtain ⟨ks, l, g1, g2, g3, g4, g5, g6, g7⟩ := readK_ok n _ _ _ _ _ _ h (by omega) N (by omega) rfl List.Pairwise.nil (fun k hk => by cases hk) (fun k hk => by cases hk)
    subst g1
    simp only [szL] at g6
    refine ⟨map_ok hd g2 g3 g4 g5, ?_, g7⟩
    rw [sizeT_succ]
    show m' = m + (1 + szL (sizeT N) l)
    omega
   rw [if_neg c2] at h
   rcases hs : scalB x.text with _ | u
   ·rw [hs] at h; cases h
   ·rw [hs] at h
    cases h
    have h1 := scal_ok hs (N := N) hd
    exact ⟨h1.1, by rw [h1.2], by omega⟩
  ·rw [hb] at h; cases h
 | n + 1, .below i d a, L, m, t, L', m', h, hm => by
  rw [readK_below] at h
  by_cases c : below? i L = true
  ·rw [if_pos c] at h
   exact readK_ok n (.value d) L m t L' m' h hm
  ·rw [if_neg c] at h
   rcases hb : beginF d m a with _ | f
   ·rw [hb] at h
    obtain ⟨hd, hm3⟩ := begin_none hb
    cases h
    intro N hN
    obtain ⟨N, rfl⟩ : ∃ M, N = M + 1 := ⟨N - 1, by omega⟩
    obtain ⟨h1, h2⟩ := leaf_ok (N := N) (d := d) (t := tNull) hd (by unfold badH tNull inB; simp) strB_empty (by unfold lensOk tNull; simp) rfl rfl i64_zero
    exact ⟨h1, by rw [h2], by omega⟩
   ·rw [hb] at h; cases h
 | n + 1, .list i d acc, [], m, t, L', m', h, hm => by
  cases h
  intro N hN
  exact ⟨[], by rw [List.append_nil], fun x hx => (by cases hx), rfl, hm⟩
 | n + 1, .list i d acc, x :: r, m, t, L', m', h, hm => by
  rw [readK_list] at h
  have stop : ∀ {t L' m'}, ResI.good (tList acc) (x :: r) m = .good t L' m' -> JobIOk (.list i d acc) m t m' := fun e => by
   cases e
   intro N hN
   exact ⟨[], by rw [List.append_nil], fun x hx => (by cases hx), rfl, hm⟩
  by_cases c1 : x.ind ≠ i
  ·rw [if_pos c1] at h
   exact stop h
  rw [if_neg c1] at h
  rcases hi : itemB x.text with _ | ⟨rest, k⟩
  ·rw [hi] at h
   exact stop h
  rw [hi] at h
  simp only at h
  rcases hr : itemJ n i d x r rest k m with f | ⟨u, L1, m1⟩
  ·rw [hr] at h; cases h
  rw [hr] at h
  simp only at h
  have hv : ∀ N, N + (d + 1) = 11 -> VOk N (d + 1) u /\ m1 = m + sizeT N u /\ m1 <= 300 := by
   unfold itemJ at hr
   by_cases c2 : k = 0
   ·rw [if_pos c2] at hr
    exact readK_ok n (.below i (d + 1) x.at') _ _ _ _ _ hr hm
   ·rw [if_neg c2] at hr
    exact readK_ok n (.value (d + 1)) _ _ _ _ _ hr hm
  intro N hN
  obtain ⟨v1, v2, v3⟩ := hv N (by omega)
  obtain ⟨more, g1, g2, g3, g4⟩ := readK_ok n _ _ _ _ _ _ h v3 N hN
  refine ⟨u :: more, by rw [g1, List.append_assoc]; rfl, fun y hy => ?_, ?_, g4⟩
  ·rcases List.mem_cons.1 hy with rfl | hy
   ·exact v1
   ·exact g2 y hy
  ·simp only [szL]; omega
 | n + 1, .pairs i d ks acc, [], m, t, L', m', h, hm => by
  cases h
  intro N hN g1 g2 g3 g4
  exact ⟨ks, acc, rfl, g1, g2, g3, g4, rfl, hm⟩
 | n + 1, .pairs i d ks acc, x :: r, m, t, L', m', h, hm => by
  rw [readK_pairs] at h
  have stop : ∀ {t L' m'}, ResI.good (tMap ks acc) (x :: r) m = .good t L' m' -> JobIOk (.pairs i d ks acc) m t m' := fun e => by
   cases e
   intro N hN g1 g2 g3 g4
   exact ⟨ks, acc, rfl, g1, g2, g3, g4, rfl, hm⟩
  by_cases c1 : x.ind ≠ i ∨ (itemB x.text).isSome = true
  ·rw [if_pos c1] at h
   exact stop h
  rw [if_neg c1] at h
  rcases hi : keyB x.text with _ | ⟨key, rest⟩
  ·rw [hi] at h
   exact stop h
  rw [hi] at h
  simp only at h
  by_cases c2 : 400 < key.size
  ·rw [if_pos c2] at h; cases h
  rw [if_neg c2] at h
  by_cases c3 : ks.contains key = true
  ·rw [if_pos c3] at h; cases h
  rw [if_neg c3] at h
  rcases hr : pairJ n i d x r rest m with f | ⟨u, L1, m1⟩
  ·rw [hr] at h; cases h
  rw [hr] at h
  simp only at h
  have hst := key_str' hi c2
  have hv : ∀ N, N + (d + 1) = 11 -> VOk N (d + 1) u /\ m1 = m + sizeT N u /\ m1 <= 300 := by
   unfold pairJ at hr
   by_cases c4 : rest.size = 0
   ·rw [if_pos c4] at hr
    exact readK_ok n (.below i (d + 1) x.at') _ _ _ _ _ hr hm
   ·rw [if_neg c4] at hr
    rcases hb : beginF (d + 1) m x.at' with _ | f
    ·rw [hb] at hr
     obtain ⟨hd, hm3⟩ := begin_none hb
     simp only at hr
     rcases hs : scalB rest with _ | v
     ·rw [hs] at hr; cases hr
     ·rw [hs] at hr
      cases hr
      intro N hN
      obtain ⟨N, rfl⟩ : ∃ M, N = M + 1 := ⟨N - 1, by omega⟩
      have h1 := scal_ok hs (N := N) hd
      exact ⟨h1.1, by rw [h1.2], by omega⟩
    ·rw [hb] at hr; cases hr
  intro N hN hlen hso hks hacc
  obtain ⟨v1, v2, v3⟩ := hv N (by omega)
  have hle := posK_le ks key
  have hno : hasS ks key = false := by rw [<- contains_hasS]; simpa using c3
  have i1 : (insL ks (posK ks key) key).length = (insL acc (posK ks key) u).length := by rw [ins_len hle, ins_len (by omega), hlen]
  have i2 := ins_sorted hso hno
  have i3 : ∀ k ∈ insL ks (posK ks key) key, strB k = true := fun k hk => by
   unfold insL at hk
   rcases List.mem_append.1 hk with hk | hk
   ·exact hks k (List.mem_of_mem_take hk)
   ·rcases List.mem_cons.1 hk with rfl | hk
    ·exact hst
    ·exact hks k (List.mem_of_mem_drop hk)
  have i4 : ∀ y ∈ insL acc (posK ks key) u, VOk N (d + 1) y := fun y hy => by
   unfold insL at hy
   rcases List.mem_append.1 hy with hy | hy
   ·exact hacc y (List.mem_of_mem_take hy)
   ·rcases List.mem_cons.1 hy with rfl | hy
    ·exact v1
    ·exact hacc y (List.mem_of_mem_drop hy)
  have z2 := szL_ins (sizeT N) acc (posK ks key) u
  obtain ⟨ks', l', g1, g2, g3, g4, g5, g6, g7⟩ := readK_ok n _ _ _ _ _ _ h v3 N hN i1 i2 i3 i4
  exact ⟨ks', l', g1, g2, g3, g4, g5, by omega, g7⟩
def headItem (i : Nat) : List LineD -> Bool
 | [] => false
 | x :: _ => decide (x.ind = i) && (itemB x.text).isSome
def headKey (i : Nat) : List LineD -> Bool
 | [] => false
 | x :: _ => decide (x.ind = i) && !(itemB x.text).isSome && (keyB x.text).isSome
def Less (j : JobI) (L L' : List LineD) : Prop := costL L' <= costL L /\ match j with
 | .value _ => costL L' + 3 <= costL L
 | .below _ _ _ => True
 | .list i _ _ => headItem i L = true -> costL L' + 3 <= costL L
 | .pairs i _ _ _ => headKey i L = true -> costL L' + 3 <= costL L
theorem cost_cons (x : LineD) (l : List LineD) : costL (x :: l) = (x.text.size + 3) + costL l := rfl
theorem readK_less : ∀ (n : Nat) (j : JobI) (L : List LineD) (m : Nat) (t : TreeD) (L' : List LineD) (m' : Nat), readK n j L m = .good t L' m' -> Less j L L'
 | 0, j, L, m, t, L', m', h => by cases h
 | n + 1, .value d, [], m, t, L', m', h => by cases h
 | n + 1, .value d, x :: r, m, t, L', m', h => by
  rw [readK_value] at h
  rcases hb : beginF d m x.at' with _ | f
  ·rw [hb] at h
   simp only at h
   by_cases c1 : (itemB x.text).isSome = true
   ·rw [if_pos c1] at h
    have g := readK_less n _ _ _ _ _ _ h
    have g2 := g.2 (by show (decide (x.ind = x.ind) && (itemB x.text).isSome) = true; rw [c1]; simp)
    exact ⟨g.1, g2⟩
   rw [if_neg c1] at h
   by_cases c2 : (keyB x.text).isSome = true
   ·rw [if_pos c2] at h
    have g := readK_less n _ _ _ _ _ _ h
    have g2 := g.2 (by show (decide (x.ind = x.ind) && !(itemB x.text).isSome && (keyB x.text).isSome) = true; rw [c2]; simp at c1; simp [c1])
    exact ⟨g.1, g2⟩
   rw [if_neg c2] at h
   rcases hs : scalB x.text with _ | u
   ·rw [hs] at h; cases h
   ·rw [hs] at h
    cases h
    unfold Less
    rw [cost_cons]
    exact ⟨by omega, by simp only; omega⟩
  ·rw [hb] at h; cases h
 | n + 1, .below i d a, L, m, t, L', m', h => by
  rw [readK_below] at h
  by_cases c : below? i L = true
  ·rw [if_pos c] at h
   exact ⟨(readK_less n (.value d) L m t L' m' h).1, trivial⟩
  ·rw [if_neg c] at h
   rcases hb : beginF d m a with _ | f
   ·rw [hb] at h
    cases h
    exact ⟨Nat.le_refl _, trivial⟩
   ·rw [hb] at h; cases h
 | n + 1, .list i d acc, [], m, t, L', m', h => by
  cases h
  exact ⟨Nat.le_refl _, fun e => by cases e⟩
 | n + 1, .list i d acc, x :: r, m, t, L', m', h => by
  rw [readK_list] at h
  by_cases c1 : x.ind ≠ i
  ·rw [if_pos c1] at h
   cases h
   exact ⟨Nat.le_refl _, fun e => by simp [headItem, c1] at e⟩
  rw [if_neg c1] at h
  rcases hi : itemB x.text with _ | ⟨rest, k⟩
  ·rw [hi] at h
   cases h
   exact ⟨Nat.le_refl _, fun e => by simp [headItem, hi] at e⟩
  rw [hi] at h
  simp only at h
  rcases hr : itemJ n i d x r rest k m with f | ⟨u, L1, m1⟩
  ·rw [hr] at h; cases h
  rw [hr] at h
  simp only at h
  have hle := item_le hi
  have hv : costL L1 + 3 <= costL (x :: r) := by
   unfold itemJ at hr
   by_cases c2 : k = 0
   ·rw [if_pos c2] at hr
    have := (readK_less n (.below i (d + 1) x.at') _ _ _ _ _ hr).1
    rw [cost_cons]
    omega
   ·rw [if_neg c2] at hr
    have := (readK_less n (.value (d + 1)) _ _ _ _ _ hr).2
    simp only [cost_cons] at this
    rw [cost_cons]
    omega
  have g := (readK_less n _ _ _ _ _ _ h).1
  exact ⟨by omega, fun _ => by omega⟩
 | n + 1, .pairs i d ks acc, [], m, t, L', m', h => by
  cases h
  exact ⟨Nat.le_refl _, fun e => by cases e⟩
 | n + 1, .pairs i d ks acc, x :: r, m, t, L', m', h => by
  rw [readK_pairs] at h
  by_cases c1 : x.ind ≠ i ∨ (itemB x.text).isSome = true
  ·rw [if_pos c1] at h
   cases h
   exact ⟨Nat.le_refl _, fun e => by rcases c1 with c1 | c1 <;> simp [headKey, c1] at e⟩
  rw [if_neg c1] at h
  rcases hi : keyB x.text with _ | ⟨key, rest⟩
  ·rw [hi] at h
   cases h
   exact ⟨Nat.le_refl _, fun e => by simp [headKey, hi] at e⟩
  rw [hi] at h
  simp only at h
  by_cases c2 : 400 < key.size
  ·rw [if_pos c2] at h; cases h
  rw [if_neg c2] at h
  by_cases c3 : ks.contains key = true
  ·rw [if_pos c3] at h; cases h
  rw [if_neg c3] at h
  rcases hr : pairJ n i d x r rest m with f | ⟨u, L1, m1⟩
  ·rw [hr] at h; cases h
  rw [hr] at h
  simp only at h
  have hv : costL L1 + 3 <= costL (x :: r) := by
   unfold pairJ at hr
   rw [cost_cons]
   by_cases c4 : rest.size = 0
   ·rw [if_pos c4] at hr
    have := (readK_less n (.below i (d + 1) x.at') _ _ _ _ _ hr).1
    omega
   ·rw [if_neg c4] at hr
    rcases hb : beginF (d + 1) m x.at' with _ | f
    ·rw [hb] at hr
     simp only at hr
     rcases hs : scalB rest with _ | v
     ·rw [hs] at hr; cases hr
     ·rw [hs] at hr
      cases hr
      omega
    ·rw [hb] at hr; cases hr
  have g := (readK_less n _ _ _ _ _ _ h).1
  exact ⟨by omega, fun _ => by omega⟩
def needI (j : JobI) (L : List LineD) : Nat := match j with
 | .value _ => 3 * costL L + 3
 | .below _ _ _ => 3 * costL L + 4
 | .list _ _ _ => 3 * costL L + 2
 | .pairs _ _ _ _ => 3 * costL L + 2
def jobNe (j : JobI) (L : List LineD) : Prop := match j with
 | .value _ => L ≠ []
 | _ => True
theorem below_ne {i : Nat} {L : List LineD} (h : below? i L = true) : L ≠ [] := by
 intro e
 rw [e] at h
 cases h
theorem readK_code : ∀ (n : Nat) (j : JobI) (L : List LineD) (m : Nat) (f : Flt), readK n j L m = .bad f -> needI j L <= n -> jobNe j L -> f.code ≠ 0
 | 0, j, L, m, f, _, hn, _ => by cases j <;> (unfold needI at hn; simp only at hn; omega)
 | n + 1, .value d, [], m, f, h, _, hne => absurd rfl hne
 | n + 1, .value d, x :: r, m, f, h, hn, _ => by
  rw [readK_value] at h
  unfold needI at hn
  simp only at hn
  rcases hb : beginF d m x.at' with _ | f'
  ·rw [hb] at h
   simp only at h
   by_cases c1 : (itemB x.text).isSome = true
   ·rw [if_pos c1] at h
    exact readK_code n _ _ _ _ h (by unfold needI; simp only; omega) trivial
   rw [if_neg c1] at h
   by_cases c2 : (keyB x.text).isSome = true
   ·rw [if_pos c2] at h
    exact readK_code n _ _ _ _ h (by unfold needI; simp only; omega) trivial
   rw [if_neg c2] at h
   rcases hs : scalB x.text with _ | u
   ·rw [hs] at h
    cases h
    show (4 : Int) ≠ 0
    decide
   ·rw [hs] at h; cases h
  ·rw [hb] at h
   cases h
   exact begin_code hb
 | n + 1, .below i d a, L, m, f, h, hn, _ => by
  rw [readK_below] at h
  unfold needI at hn
  simp only at hn
  by_cases c : below? i L = true
  ·rw [if_pos c] at h
   exact readK_code n (.value d) L m f h (by unfold needI; simp only; omega) (below_ne c)
  ·rw [if_neg c] at h
   rcases hb : beginF d m a with _ | f'
   ·rw [hb] at h; cases h
   ·rw [hb] at h
    cases h
    exact begin_code hb
 | n + 1, .list i d acc, [], m, f, h, _, _ => by cases h
 | n + 1, .list i d acc, x :: r, m, f, h, hn, _ => by
  rw [readK_list] at h
  unfold needI at hn
  simp only at hn
  by_cases c1 : x.ind ≠ i
  ·rw [if_pos c1] at h; cases h
  rw [if_neg c1] at h
  rcases hi : itemB x.text with _ | ⟨rest, k⟩
  ·rw [hi] at h; cases h
  rw [hi] at h
  simp only at h
  rw [cost_cons] at hn
  rcases hr : itemJ n i d x r rest k m with f' | ⟨u, L1, m1⟩
  ·rw [hr] at h
   cases h
   unfold itemJ at hr
   by_cases c2 : k = 0
   ·rw [if_pos c2] at hr
    exact readK_code n _ _ _ _ hr (by unfold needI; simp only; omega) trivial
   ·rw [if_neg c2] at hr
    have := item_more hi c2
    exact readK_code n _ _ _ _ hr (by unfold needI; simp only [cost_cons]; omega) (fun e => by cases e)
  ·rw [hr] at h
   simp only at h
   have hle := item_le hi
   have hv : costL L1 + 3 <= (x.text.size + 3) + costL r := by
    unfold itemJ at hr
    by_cases c2 : k = 0
    ·rw [if_pos c2] at hr
     have := (readK_less n (.below i (d + 1) x.at') _ _ _ _ _ hr).1
     omega
    ·rw [if_neg c2] at hr
     have := (readK_less n (.value (d + 1)) _ _ _ _ _ hr).2
     simp only [cost_cons] at this
     omega
   exact readK_code n _ _ _ _ h (by unfold needI; simp only; omega) trivial
 | n + 1, .pairs i d ks acc, [], m, f, h, _, _ => by cases h
 | n + 1, .pairs i d ks acc, x :: r, m, f, h, hn, _ => by
  rw [readK_pairs] at h
  unfold needI at hn
  simp only at hn
  by_cases c1 : x.ind ≠ i ∨ (itemB x.text).isSome = true
  ·rw [if_pos c1] at h; cases h
  rw [if_neg c1] at h
  rcases hi : keyB x.text with _ | ⟨key, rest⟩
  ·rw [hi] at h; cases h
  rw [hi] at h
  simp only at h
  rw [cost_cons] at hn
  by_cases c2 : 400 < key.size
  ·rw [if_pos c2] at h
   cases h
   show (8 : Int) ≠ 0
   decide
  rw [if_neg c2] at h
  by_cases c3 : ks.contains key = true
  ·rw [if_pos c3] at h
   cases h
   show (5 : Int) ≠ 0
   decide
  rw [if_neg c3] at h
  rcases hr : pairJ n i d x r rest m with f' | ⟨u, L1, m1⟩
  ·rw [hr] at h
   cases h
   unfold pairJ at hr
   by_cases c4 : rest.size = 0
   ·rw [if_pos c4] at hr
    exact readK_code n _ _ _ _ hr (by unfold needI; simp only; omega) trivial
   ·rw [if_neg c4] at hr
    rcases hb : beginF (d + 1) m x.at' with _ | f'
    ·rw [hb] at hr
     simp only at hr
     rcases hs : scalB rest with _ | v
     ·rw [hs] at hr
      cases hr
      show (4 : Int) ≠ 0
      decide
     ·rw [hs] at hr; cases hr
    ·rw [hb] at hr
     cases hr
     exact begin_code hb
  ·rw [hr] at h
   simp only at h
   have hv : costL L1 <= costL r := by
    unfold pairJ at hr
    by_cases c4 : rest.size = 0
    ·rw [if_pos c4] at hr
     exact (readK_less n (.below i (d + 1) x.at') _ _ _ _ _ hr).1
    ·rw [if_neg c4] at hr
     rcases hb : beginF (d + 1) m x.at' with _ | f'
     ·rw [hb] at hr
      simp only at hr
      rcases hs : scalB rest with _ | v
      ·rw [hs] at hr; cases hr
      ·rw [hs] at hr
       cases hr
       exact Nat.le_refl _
     ·rw [hb] at hr; cases hr
   exact readK_code n _ _ _ _ h (by unfold needI; simp only; omega) trivial
theorem readIn_ok {s : ByteArray} (h : (readIn s).1.code = 0) : okT 10 (readIn s).2 = true /\ numT 10 (readIn s).2 := by
 unfold readIn at h ⊢
 by_cases c1 : (linesF s).2.code ≠ 0
 ·rw [if_pos c1] at h
  exact absurd h c1
 rw [if_neg c1] at h ⊢
 rcases hL : (linesF s).1 with _ | ⟨x, r⟩
 ·rw [hL] at h
  exact absurd (show (4 : Int) = 0 from h) (by decide)
 rw [hL] at h
 simp only at h ⊢
 by_cases c2 : x.ind ≠ 0
 ·rw [if_pos c2] at h
  exact absurd (show (4 : Int) = 0 from h) (by decide)
 rw [if_neg c2] at h ⊢
 rcases hq : readK (3 * costL (x :: r) + 3) (.value 1) (x :: r) 0 with f | ⟨t, L', m'⟩
 ·rw [hq] at h
  exact absurd h (readK_code _ _ _ _ _ hq (Nat.le_refl _) (fun e => by cases e))
 ·rw [hq] at h
  cases L' with
  | nil =>
   simp only
   obtain ⟨v1, v2, v3⟩ := readK_ok _ _ _ _ _ _ _ hq (by omega) 10 rfl
   have hdeep := v1.deep
   refine ⟨?_, v1.num⟩
   unfold okT
   rw [v1.shape, decide_eq_true (by omega), decide_eq_true (by omega)]
   rfl
  | cons y L'' => exact absurd (show (4 : Int) = 0 from h) (by decide)
def InAt (ty : TypeId) (b g N cap : Nat) (L : List LineD) (m : Nat) (f : Flt) (w : World) : Prop :=
 ∃ (p : Nat) (cur : Array Value), p + L.length = N /\ N <= cap /\ N <= 20001 /\ g ≠ b /\
  w.heap[b]? = some (.cells #[.slice (some ⟨g, 0, none⟩) N cap, .int .i64 p, .int .i64 m, .int .i64 f.code, .int .i64 f.at', .string f.path] ty (0, 0)) /\
  w.heap[g]? = some (.cells cur 59 (0, 0)) /\
  ∀ i x, L[i]? = some x -> cur[(p + i) * 3]? = some (.int .i64 (x.ind : Nat)) /\ cur[(p + i) * 3 + 1]? = some (.string x.text) /\ cur[(p + i) * 3 + 2]? = some (.int .i64 (x.at' : Nat))
def endOk (s : ByteArray) : Prop := 0 < s.size /\ byteI s (s.size - 1) ≠ 32
def LnOk (x : LineD) : Prop := x.ind + x.text.size <= 20000 /\ x.at' <= 20001 /\ endOk x.text
def InOk (L : List LineD) : Prop := ∀ x ∈ L, LnOk x
theorem InOk.tail {x : LineD} {r : List LineD} (h : InOk (x :: r)) : InOk r := fun y hy => h y (List.mem_cons_of_mem _ hy)
theorem InOk.head {x : LineD} {r : List LineD} (h : InOk (x :: r)) : LnOk x := h x List.mem_cons_self
theorem InOk.cons {x : LineD} {r : List LineD} (h : InOk r) (h1 : LnOk x) : InOk (x :: r) := fun y hy => by
 rcases List.mem_cons.1 hy with rfl | hy
 ·exact h1
 ·exact h y hy
theorem drop_all (a : UInt8) : ∀ (l : List UInt8), l.dropWhile (· == a) = [] -> ∀ c ∈ l, c = a
 | [], _, c, hc => by cases hc
 | x :: l, h, c, hc => by
  rw [List.dropWhile_cons] at h
  by_cases e : (x == a) = true
  ·rw [if_pos e] at h
   rcases List.mem_cons.1 hc with rfl | hc
   ·exact beq_iff_eq.1 e
   ·exact drop_all a l h c hc
  ·rw [if_neg e] at h; cases h
theorem tail_end {s : ByteArray} {i : Nat} (h : endOk s) (hi : i < s.size) : endOk (tailL s i) /\ (tailL s i).size <= s.size - i := by
 obtain ⟨h0, h1⟩ := h
 have hl := trimL_len (s.data.toList.drop i) 32
 rw [List.length_drop, list_size] at hl
 have hz : (tailL s i).size = (trimLeftB (s.data.toList.drop i) 32).length := size_mk _
 have hsuf : trimLeftB (s.data.toList.drop i) 32 = (s.data.toList.drop i).drop ((s.data.toList.drop i).length - (trimLeftB (s.data.toList.drop i) 32).length) := trim_drop _ _
 have hlast : s.data.toList[s.size - 1]? = some (s.get! (s.size - 1)) := byte_list (by omega)
 have hpos : 0 < (tailL s i).size := by
  rcases Nat.eq_zero_or_pos (tailL s i).size with e | e
  ·exfalso
   have hnil : trimLeftB (s.data.toList.drop i) 32 = [] := List.eq_nil_of_length_eq_zero (by omega)
   have hall : ∀ c ∈ s.data.toList.drop i, c = 32 := by
    intro c hc
    unfold trimLeftB at hnil
    exact drop_all _ _ hnil c hc
   have hm : s.get! (s.size - 1) ∈ s.data.toList.drop i := by
    refine List.mem_of_getElem? (i := s.size - 1 - i) ?_
    rw [List.getElem?_drop, show i + (s.size - 1 - i) = s.size - 1 by omega]
    exact hlast
   have := hall _ hm
   apply h1
   unfold byteI
   rw [this]
   rfl
  ·exact e
 refine ⟨⟨hpos, fun e => h1 ?_⟩, by omega⟩
 have hb : (tailL s i).data.toList[(tailL s i).size - 1]? = some ((tailL s i).get! ((tailL s i).size - 1)) := byte_list (by omega)
 have e2 : (tailL s i).data.toList = trimLeftB (s.data.toList.drop i) 32 := rfl
 rw [e2, hsuf, List.drop_drop, List.getElem?_drop, List.length_drop, list_size, <- hz] at hb
 rw [show i + (s.size - i - (tailL s i).size) + ((tailL s i).size - 1) = s.size - 1 by omega, hlast] at hb
 unfold byteI at e ⊢
 rw [<- Option.some.inj hb] at e
 exact e
theorem item_rest {s rest : ByteArray} {k : Nat} (h : itemB s = some (rest, k)) (he : endOk s) : (k = 0 /\ rest = ⟨#[]⟩) ∨ (2 <= k /\ k + rest.size = s.size /\ endOk rest) := by
 unfold itemB at h
 by_cases c1 : s = bs [45]
 ·rw [if_pos c1] at h
  cases h
  exact .inl ⟨rfl, rfl⟩
 ·rw [if_neg c1] at h
  by_cases c2 : 2 <= s.size /\ byteI s 0 = 45 /\ byteI s 1 = 32
  ·rw [if_pos c2] at h
   cases h
   have h3 : 2 < s.size := by
    rcases Nat.lt_or_ge 2 s.size with g | g
    ·exact g
    ·exfalso
     have e : s.size = 2 := by omega
     apply he.2
     rw [e]
     exact c2.2.2
   obtain ⟨g1, g2⟩ := tail_end he h3
   exact .inr ⟨by omega, by omega, g1⟩
  ·rw [if_neg c2] at h; cases h
theorem InAt.lt {ty : TypeId} {b g N cap : Nat} {L : List LineD} {m : Nat} {f : Flt} {w : World} (h : InAt ty b g N cap L m f w) : b < w.heap.size /\ g < w.heap.size := by
 obtain ⟨p, cur, -, -, -, -, h1, h2, -⟩ := h
 exact ⟨row_lt h1, row_lt h2⟩
theorem InAt.carry {ty : TypeId} {b g N cap : Nat} {L : List LineD} {m : Nat} {f : Flt} {w w' : World} (h : InAt ty b g N cap L m f w) (hb : w'.heap[b]? = w.heap[b]?) (hg : w'.heap[g]? = w.heap[g]?) : InAt ty b g N cap L m f w' := by
 obtain ⟨p, cur, h1, h2, h3, h4, h5, h6, h7⟩ := h
 exact ⟨p, cur, h1, h2, h3, h4, hb.trans h5, hg.trans h6, h7⟩
theorem InAt.below {ty : TypeId} {b g N cap : Nat} {L : List LineD} {m : Nat} {f : Flt} {w w' : World} (h : InAt ty b g N cap L m f w) (hb : Below w.heap.size w w') : InAt ty b g N cap L m f w' :=
 h.carry (hb.block b h.lt.1) (hb.block g h.lt.2)
theorem InAt.past {ty : TypeId} {b g N cap : Nat} {L : List LineD} {m : Nat} {f : Flt} {w w' : World} {S : Nat -> Prop} (h : InAt ty b g N cap L m f w) (hF : Aside S w w') (hb : ¬ S b) (hg : ¬ S g) : InAt ty b g N cap L m f w' :=
 h.carry (hF.block b h.lt.1 hb) (hF.block g h.lt.2 hg)
structure BoxIn (ty : TypeId) (b g N cap p : Nat) (L : List LineD) (m : Nat) (f : Flt) (w : World) : Prop where
 pos : p + L.length = N
 cap' : N <= cap
 small : N <= 20001
 ne : g ≠ b
 row : w.heap[b]? = some (.cells #[.slice (some ⟨g, 0, none⟩) N cap, .int .i64 p, .int .i64 m, .int .i64 f.code, .int .i64 f.at', .string f.path] ty (0, 0))
 lines : g < w.heap.size
 line : ∀ x r, L = x :: r -> w.cell? ⟨g, p * 3, none⟩ = some (.int .i64 (x.ind : Nat)) /\ w.cell? ⟨g, p * 3 + 1, none⟩ = some (.string x.text) /\ w.cell? ⟨g, p * 3 + 2, none⟩ = some (.int .i64 (x.at' : Nat)) /\ ∀ o, w.frozen? ⟨g, o, none⟩ = false
theorem InAt.open {ty : TypeId} {b g N cap : Nat} {L : List LineD} {m : Nat} {f : Flt} {w : World} (h : InAt ty b g N cap L m f w) : ∃ p, BoxIn ty b g N cap p L m f w := by
 obtain ⟨p, cur, h1, h2, h3, h4, h5, h6, h7⟩ := h
 refine ⟨p, h1, h2, h3, h4, h5, row_lt h6, fun x r hx => ?_⟩
 obtain ⟨e1, e2, e3⟩ := h7 0 x (by rw [hx]; rfl)
 rw [Nat.add_zero] at e1 e2 e3
 exact ⟨by rw [cell_of_row _ _ _ _ _ _ h6]; exact e1, by rw [cell_of_row _ _ _ _ _ _ h6]; exact e2, by rw [cell_of_row _ _ _ _ _ _ h6]; exact e3, fun o => frozen_row h6 o⟩
theorem InAt.turn {ty : TypeId} {b g N cap : Nat} {L L' : List LineD} {m m' : Nat} {f f' : Flt} {w w' : World} (h : InAt ty b g N cap L m f w) (hF : Aside (fun q => q = b) w w') (hL : L' = L ∨ ∃ x, L = x :: L')
  (hr : ∀ p p' : Nat, p + L.length = N -> p' + L'.length = N -> w.heap[b]? = some (.cells #[.slice (some ⟨g, 0, none⟩) N cap, .int .i64 p, .int .i64 m, .int .i64 f.code, .int .i64 f.at', .string f.path] ty (0, 0)) ->
   w'.heap[b]? = some (.cells #[.slice (some ⟨g, 0, none⟩) N cap, .int .i64 p', .int .i64 m', .int .i64 f'.code, .int .i64 f'.at', .string f'.path] ty (0, 0))) : InAt ty b g N cap L' m' f' w' := by
 obtain ⟨p, cur, h1, h2, h3, h4, h5, h6, h7⟩ := h
 rcases hL with rfl | ⟨x, rfl⟩
 ·exact ⟨p, cur, h1, h2, h3, h4, hr p p h1 h1 h5, (hF.block g (row_lt h6) h4).trans h6, h7⟩
 ·have e : (p + 1) + L'.length = N := by rw [List.length_cons] at h1; omega
  refine ⟨p + 1, cur, e, h2, h3, h4, hr p (p + 1) h1 e h5, (hF.block g (row_lt h6) h4).trans h6, fun i y hy => ?_⟩
  have := h7 (i + 1) y (by rw [List.getElem?_cons_succ]; exact hy)
  rw [show p + 1 + i = p + (i + 1) by omega]
  exact this
theorem InAt.tellI {ty : TypeId} {b g N cap p : Nat} {x : LineD} {r : List LineD} {m k : Nat} {f : Flt} {w : World} {z : Int} (h : InAt ty b g N cap (x :: r) m f w) (hp : p + (x :: r).length = N) (hz : z = (k : Nat)) :
  InAt ty b g N cap (⟨k, x.text, x.at'⟩ :: r) m f (w.setCell ⟨g, p * 3, none⟩ (.int .i64 z)) := by
 subst hz
 obtain ⟨p', cur, h1, h2, h3, h4, h5, h6, h7⟩ := h
 obtain rfl : p' = p := by omega
 have k1 := heap_setCell_same w g (p' * 3) _ _ (.int .i64 (k : Nat)) h6
 obtain ⟨e1, e2, e3⟩ := h7 0 x rfl
 rw [Nat.add_zero] at e1 e2 e3
 obtain ⟨l1, -⟩ := Array.getElem?_eq_some_iff.1 e1
 refine ⟨p', _, h1, h2, h3, h4, ?_, k1, fun i y hy => ?_⟩
 ·rw [Below.heap_setCell _ _ _ _ (fun e => h4 e.symm)]
  exact h5
 ·rcases i with _ | i
  ·rw [List.getElem?_cons_zero] at hy
   cases hy
   rw [show p' + 0 = p' from rfl]
   exact ⟨Array.getElem?_setIfInBounds_self_of_lt l1, by rw [Array.getElem?_setIfInBounds_ne (by omega)]; exact e2, by rw [Array.getElem?_setIfInBounds_ne (by omega)]; exact e3⟩
  ·have := h7 (i + 1) y (by rw [List.getElem?_cons_succ] at hy ⊢; exact hy)
   exact ⟨by rw [Array.getElem?_setIfInBounds_ne (by omega)]; exact this.1, by rw [Array.getElem?_setIfInBounds_ne (by omega)]; exact this.2.1, by rw [Array.getElem?_setIfInBounds_ne (by omega)]; exact this.2.2⟩
theorem InAt.tellT {ty : TypeId} {b g N cap p : Nat} {x : LineD} {r : List LineD} {m : Nat} {t : ByteArray} {f : Flt} {w : World} (h : InAt ty b g N cap (x :: r) m f w) (hp : p + (x :: r).length = N) :
  InAt ty b g N cap (⟨x.ind, t, x.at'⟩ :: r) m f (w.setCell ⟨g, p * 3 + 1, none⟩ (.string t)) := by
 obtain ⟨p', cur, h1, h2, h3, h4, h5, h6, h7⟩ := h
 obtain rfl : p' = p := by omega
 have k1 := heap_setCell_same w g (p' * 3 + 1) _ _ (.string t) h6
 obtain ⟨e1, e2, e3⟩ := h7 0 x rfl
 rw [Nat.add_zero] at e1 e2 e3
 obtain ⟨l2, -⟩ := Array.getElem?_eq_some_iff.1 e2
 refine ⟨p', _, h1, h2, h3, h4, ?_, k1, fun i y hy => ?_⟩
 ·rw [Below.heap_setCell _ _ _ _ (fun e => h4 e.symm)]
  exact h5
 ·rcases i with _ | i
  ·rw [List.getElem?_cons_zero] at hy
   cases hy
   rw [show p' + 0 = p' from rfl]
   exact ⟨by rw [Array.getElem?_setIfInBounds_ne (by omega)]; exact e1, Array.getElem?_setIfInBounds_self_of_lt l2, by rw [Array.getElem?_setIfInBounds_ne (by omega)]; exact e3⟩
  ·have := h7 (i + 1) y (by rw [List.getElem?_cons_succ] at hy ⊢; exact hy)
   exact ⟨by rw [Array.getElem?_setIfInBounds_ne (by omega)]; exact this.1, by rw [Array.getElem?_setIfInBounds_ne (by omega)]; exact this.2.1, by rw [Array.getElem?_setIfInBounds_ne (by omega)]; exact this.2.2⟩
def failF (f : Flt) (code : Int) (a : Nat) : Flt := if f.code = 0 then fltA code a else f
def hereB (f : Flt) (L : List LineD) (i : Nat) : Bool := decide (f.code = 0) && (match L with | [] => false | x :: _ => decide (x.ind = i))
def beginX (d m a : Nat) : Flt := (beginF d m a).getD flt0
end Go.Proofs.YtohcpifekcehjaaGreatDoor
