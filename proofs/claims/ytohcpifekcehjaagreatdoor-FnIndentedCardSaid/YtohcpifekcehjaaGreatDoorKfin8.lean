/- Steps to FnIndented. No conditions. -/
import Derived.Test.YtohcpifekcehjaaGreatDoorKfin7
import Derived.Test.YtohcpifekcehjaaGreatDoorKfin6
import Derived.Test.YtohcpifekcehjaaGreatDoorKfin3
import Derived.Test.YtohcpifekcehjaaGreatDoorKfin2
import Derived.Test.YtohcpifekcehjaaGreatDoorKfin5
import Derived.Shelf.LaysM
import Derived.Shelf.Strconv.Itoa3
import Derived.Test.YtohcpifekcehjaaGreatDoorKfin1
import Derived.Deep.CutRange
import Derived.Deep.CutBlock
set_option maxHeartbeats 16000000
set_option maxRecDepth 20000
namespace Go.Proofs.YtohcpifekcehjaaGreatDoor
open Go.RowKit Go.Lib
theorem grown_of_aside {w w' : World} {g : Nat} (h : Aside (fun q => q = g) w w') : w.grownBy w' (some g) := ⟨h.os, h.tape, h.output, h.size, fun k hk hne => h.block k hk (fun e => hne (by rw [e]))⟩
theorem ins_shift {C xs vs : List Value} {N I K : Nat} (hI : I <= N) (hC : N + K <= C.length) (hx : C.take N = xs) (hv : vs.length = K) :
  ((C.take (I + K) ++ xs.drop I ++ C.drop (I + K + (xs.drop I).length)).take I ++ vs ++ (C.take (I + K) ++ xs.drop I ++ C.drop (I + K + (xs.drop I).length)).drop (I + vs.length)).take (N + K) = xs.take I ++ vs ++ xs.drop I := by
 have hxl : xs.length = N := by rw [<- hx, List.length_take]; omega
 have hd : (xs.drop I).length = N - I := by rw [List.length_drop, hxl]
 have h1 : (C.take (I + K)).length = I + K := by rw [List.length_take]; omega
 have ht : xs.take I = C.take I := by rw [<- hx, List.take_take]; congr 1; omega
 obtain ⟨R, hR⟩ : ∃ R, R = C.drop (I + K + (xs.drop I).length) := ⟨_, rfl⟩
 rw [<- hR]
 have e1 : (C.take (I + K) ++ xs.drop I ++ R).take I = C.take I := by
  rw [List.append_assoc, List.take_append_of_le_length (by omega), List.take_take]
  congr 1
  omega
 have e2 : (C.take (I + K) ++ xs.drop I ++ R).drop (I + vs.length) = xs.drop I ++ R := by rw [hv, List.append_assoc, List.drop_left' h1]
 rw [e1, e2, <- ht, <- List.append_assoc, List.take_append_of_le_length (by simp only [List.length_append, List.length_take, hd, hv]; omega)]
 exact List.take_of_length_le (by simp only [List.length_append, List.length_take, hd, hv]; omega)
theorem own_ins_at {w W : World} {base K n g c i o1 o2 : Nat} {e : TypeId} {xs vs : List Value} (h : w.ownsRow base e K (.slice (some ⟨g, 0, none⟩) n c) n xs) (hi : i <= n) (hroom : n + 1 <= c) (hvl : vs.length = K) (h1 : o1 = (i + 1) * K) (h2 : o2 = i * K)
  (hW : W = (w.drew.setCells g o1 (xs.drop (i * K))).setCells g o2 vs) : W.ownsRow base e K (.slice (some ⟨g, 0, none⟩) (n + 1) c) (n + 1) (xs.take (i * K) ++ vs ++ xs.drop (i * K)) /\ w.grownBy W (some g) := by
 obtain ⟨cur, hg, hn, hcm, hcs, ht, hb⟩ := own_row h
 have hNI : i * K <= n * K := Nat.mul_le_mul_right K hi
 have hNc : (n + 1) * K <= c * K := Nat.mul_le_mul_right K hroom
 have hN1 : (n + 1) * K = n * K + K := Nat.succ_mul n K
 have hI1 : (i + 1) * K = i * K + K := Nat.succ_mul i K
 have hcl : cur.toList.length = c * K := by rw [Array.length_toList, hcs]
 have hxl := h.1
 have hdl : (xs.drop (i * K)).length = n * K - i * K := by rw [List.length_drop, hxl]
 subst hW h1 h2
 have hr1 := heap_setCells (xs.drop (i * K)) w.drew ((i + 1) * K) cur (show w.drew.heap[g]? = some (.cells cur e (0, 0)) from hg)
 have hr2 := heap_setCells vs _ (i * K) _ hr1
 refine ⟨⟨?_, .inr ⟨g, c, _, rfl, hb, hr2, hroom, hcm, by rw [setA_size, setA_size, hcs], ?_⟩⟩, ?_⟩
 ·simp only [List.length_append, List.length_take, hdl, hvl, hxl]; omega
 ·rw [setA_list _ _ _ (by rw [setA_size, hcs, hvl]; omega), setA_list _ _ _ (by rw [hcs, hdl]; omega), hI1, hN1]
  exact ins_shift hNI (by omega) ht hvl
 ·exact grown_of_aside (aside_setC (S := fun q => q = g) (b := g) rfl vs w _ _ (aside_setC (S := fun q => q = g) (b := g) rfl _ w _ _ (Aside.of_below (Below.drew (Below.refl _ _)))))
theorem ins_new {C xs vs : List Value} {N I K : Nat} (hI : I <= N) (hC : N + K <= C.length) (hx : C.take I = xs.take I) (hxl : xs.length = N) (hv : vs.length = K) :
  ((C.take I ++ vs ++ C.drop (I + vs.length)).take (I + K) ++ xs.drop I ++ (C.take I ++ vs ++ C.drop (I + vs.length)).drop (I + K + (xs.drop I).length)).take (N + K) = xs.take I ++ vs ++ xs.drop I := by
 have hd : (xs.drop I).length = N - I := by rw [List.length_drop, hxl]
 have hl : (C.take I ++ vs).length = I + K := by rw [List.length_append, List.length_take, hv]; omega
 rw [List.take_left' hl, List.take_append_of_le_length (by simp only [List.length_append, List.length_take, hd, hv]; omega), hx]
 exact List.take_of_length_le (by simp only [List.length_append, List.length_take, hd, hv, hxl]; omega)
theorem own_ins_new {w W : World} {base K n G i o1 o2 : Nat} {e : TypeId} {xs vs : List Value} {ROW : Array Value} (hxl : xs.length = n * K) (hbase : base <= w.heap.size) (hi : i <= n) (hroom : n + 1 <= G) (hG : G <= maxLen) (hR : ROW.size = G * K) (ht : ROW.toList.take (i * K) = xs.take (i * K)) (hvl : vs.length = K) (h1 : o1 = (i + 1) * K) (h2 : o2 = i * K) (row : Option Nat)
  (hW : W = ((w.alloc (.cells ROW e)).drew.setCells w.heap.size o2 vs).drew.setCells w.heap.size o1 (xs.drop (i * K))) : W.ownsRow base e K (.slice (some ⟨w.heap.size, 0, none⟩) (n + 1) G) (n + 1) (xs.take (i * K) ++ vs ++ xs.drop (i * K)) /\ w.grownBy W row /\ w.heap.size < W.heap.size := by
 have hNI : i * K <= n * K := Nat.mul_le_mul_right K hi
 have hNc : (n + 1) * K <= G * K := Nat.mul_le_mul_right K hroom
 have hN1 : (n + 1) * K = n * K + K := Nat.succ_mul n K
 have hI1 : (i + 1) * K = i * K + K := Nat.succ_mul i K
 have hcl : ROW.toList.length = G * K := by rw [Array.length_toList, hR]
 have hdl : (xs.drop (i * K)).length = n * K - i * K := by rw [List.length_drop, hxl]
 subst hW h1 h2
 have hr0 : (w.alloc (.cells ROW e)).drew.heap[w.heap.size]? = some (.cells ROW e (0, 0)) := heap_alloc_new w _
 have hr1 := heap_setCells vs _ (i * K) _ hr0
 have hr2 := heap_setCells (xs.drop (i * K)) ((w.alloc (.cells ROW e)).drew.setCells w.heap.size (i * K) vs).drew ((i + 1) * K) _ hr1
 refine ⟨⟨?_, .inr ⟨w.heap.size, G, _, rfl, hbase, hr2, hroom, hG, by rw [setA_size, setA_size, hR], ?_⟩⟩, ?_, row_lt hr2⟩
 ·simp only [List.length_append, List.length_take, hdl, hvl, hxl]; omega
 ·rw [setA_list _ _ _ (by rw [setA_size, hR, hdl]; omega), setA_list _ _ _ (by rw [hR, hvl]; omega), hI1, hN1]
  exact ins_new hNI (by omega) ht hxl hvl
 ·have hA : Aside (fun q => q = w.heap.size) w _ := aside_setC (S := fun q => q = w.heap.size) (b := w.heap.size) rfl (xs.drop (i * K)) w ((w.alloc (.cells ROW e)).drew.setCells w.heap.size (i * K) vs).drew ((i + 1) * K) (Aside.trans (aside_setC (S := fun q => q = w.heap.size) (b := w.heap.size) rfl vs w (w.alloc (.cells ROW e)).drew (i * K) (Aside.trans (aside_alloc (Aside.refl _ _)) (Aside.of_below (Below.drew (Below.refl _ _))))) (Aside.of_below (Below.drew (Below.refl _ _))))
  exact ⟨hA.os, hA.tape, hA.output, hA.size, fun k hk _ => hA.block k hk (by omega)⟩
theorem c_Insert_Tree (base n i vb : Nat) (v : Value) (xs vs : List Value) (w : World) (hown : w.ownsRow base 34 6 v n xs) (hi : i <= n) (hvb : w.heap[vb]? = some (.cells vs.toArray 34 (0, 0))) (hvl : vs.length = 6) (h1 : ∀ x ∈ xs, x.oneCell' = true) (h1v : ∀ x ∈ vs, x.oneCell' = true) (hn : n <= 1048576) (hbase : base <= w.heap.size) (hne : v.ownBlock ≠ some vb) :
  Calls Tryz.prog 185 #[v, .int .i64 i, .slice (some ⟨vb, 0, none⟩) 1 1] w fun e w' => ∃ g cap, e = .returned (.slice (some ⟨g, 0, none⟩) (n + 1) cap) /\ w'.ownsRow base 34 6 (.slice (some ⟨g, 0, none⟩) (n + 1) cap) (n + 1) (xs.take (i * 6) ++ vs ++ xs.drop (i * 6)) /\ w.grownBy w' v.ownBlock /\ (v.ownBlock = some g ∨ g = w.heap.size) /\ g < w'.heap.size := by
 have hvs : ∀ j u, vs[j]? = some u -> w.cell? ⟨vb, j, none⟩ = some u := fun j u hj => by rw [cell_of_row _ _ _ _ _ _ hvb]; simpa using hj
 have hxl := hown.1
 by_cases hin : i = n
 ·subst hin
  rw [List.take_of_length_le (by omega), List.drop_of_length_le (by omega), List.append_nil]
  exact c_InsT_end base i vb v xs vs w hown hvl hvs h1v hn hbase
 ·obtain ⟨A, c, rfl⟩ := own_form hown
  have hown2 := hown
  rcases hown.2 with ⟨-, h0⟩ | ⟨g, cap, cur, h0, hb, hg, hnc, hcm, hcs, ht⟩
  ·omega
  ·simp only [Value.slice.injEq, true_and] at h0
   obtain ⟨rfl, rfl⟩ := h0
   have hcx : ∀ j v, xs[j]? = some v -> w.cell? ⟨g, j, none⟩ = some v := fun j v hj => by
    have := own_news hown2 j v hj
    rwa [add_at, Nat.zero_add] at this
   by_cases hroom : n + 1 <= c
   ·refine (c_InsT_shift g n c i vb xs vs w (by omega) hroom (by unfold maxLen at hcm; omega) (fun e => hne (by rw [e]; rfl)) hxl hvl hcx (fun j hj => isSome_row hg (by rw [hcs]; have := Nat.mul_le_mul_right 6 hroom; omega)) (fun j => frozen_row hg j) hvs h1 h1v _ _ _ _ (shape_row hvb) (shape_row hg) (by rw [hcs]; omega) (frozen_row hvb _) (frozen_row hvb _)).mono ?_
    rintro e w' ⟨rfl, hw⟩
    obtain ⟨a1, a2⟩ := own_ins_at hown2 hi hroom hvl rfl rfl hw
    exact ⟨g, c, rfl, a1, a2, .inl rfl, Nat.lt_of_lt_of_le (row_lt hg) a2.size⟩
   ·refine (c_InsT_grow g n c i vb xs vs w (by omega) hnc (by omega) (by omega) hxl hvl hcx hvs h1 h1v).mono ?_
    rintro e w' ⟨G, ROW, rfl, hG1, hG2, hR1, hR2, hw⟩
    obtain ⟨a1, a2, a3⟩ := own_ins_new hxl hbase hi hG1 hG2 hR1 hR2 hvl rfl rfl (some g) hw
    exact ⟨_, G, rfl, a1, a2, .inr rfl, a3⟩
theorem c_Insert_Str (base n i vb : Nat) (v x : Value) (xs : List Value) (w : World) (hown : w.ownsRow base 9 1 v n xs) (hi : i <= n) (hvb : w.heap[vb]? = some (.cells #[x] 9 (0, 0))) (h1 : ∀ x ∈ xs, x.oneCell' = true) (h1v : x.oneCell' = true) (hn : n <= 1048576) (hbase : base <= w.heap.size) (hne : v.ownBlock ≠ some vb) :
  Calls Tryz.prog 184 #[v, .int .i64 i, .slice (some ⟨vb, 0, none⟩) 1 1] w fun e w' => ∃ g cap, e = .returned (.slice (some ⟨g, 0, none⟩) (n + 1) cap) /\ w'.ownsRow base 9 1 (.slice (some ⟨g, 0, none⟩) (n + 1) cap) (n + 1) (xs.take i ++ [x] ++ xs.drop i) /\ w.grownBy w' v.ownBlock /\ (v.ownBlock = some g ∨ g = w.heap.size) /\ g < w'.heap.size := by
 have hvs : ∀ (j : Nat) (u : Value), [x][j]? = some u -> w.cell? ⟨vb, j, none⟩ = some u := fun j u hj => by rw [cell_of_row _ _ _ _ _ _ hvb]; simpa using hj
 have hxl : xs.length = n := by have := hown.1; omega
 have h1vs : ∀ u ∈ [x], u.oneCell' = true := fun u hu => by simp at hu; rw [hu]; exact h1v
 by_cases hin : i = n
 ·subst hin
  rw [List.take_of_length_le (by omega), List.drop_of_length_le (by omega), List.append_nil]
  exact c_InsS_end base i vb v xs [x] w hown rfl hvs h1vs hn hbase
 ·obtain ⟨A, c, rfl⟩ := own_form hown
  have hown2 := hown
  rcases hown.2 with ⟨-, h0⟩ | ⟨g, cap, cur, h0, hb, hg, hnc, hcm, hcs, ht⟩
  ·omega
  ·simp only [Value.slice.injEq, true_and] at h0
   obtain ⟨rfl, rfl⟩ := h0
   have hcx : ∀ (j : Nat) (v : Value), xs[j]? = some v -> w.cell? ⟨g, 0 + j, none⟩ = some v := fun j v hj => by
    have := own_news hown2 j v hj
    rwa [add_at] at this
   have hvs0 : ∀ (j : Nat) (u : Value), [x][j]? = some u -> w.cell? ⟨vb, 0 + j, none⟩ = some u := fun j u hj => by rw [Nat.zero_add]; exact hvs j u hj
   by_cases hroom : n + 1 <= c
   ·have hk := Any2.slices_Insert_string_shift laysIs g 0 n c i vb 0 1 1 xs [x] w (by omega) (by decide) hroom (by unfold maxLen at hcm; omega) (fun e => hne (by rw [e]; rfl)) hxl rfl hcx (fun j hj => by rw [Nat.zero_add]; exact isSome_row hg (by omega)) (fun j _ => frozen_row hg _) hvs0 h1 h1vs _ _ _ _ (shape_row hvb) (shape_row hg) (by omega) (frozen_row hvb _) (frozen_row hvb _)
    change Calls Tryz.prog 184 _ _ _ at hk
    refine hk.mono ?_
    rintro e w' ⟨rfl, hw⟩
    obtain ⟨a1, a2⟩ := own_ins_at (W := w') (K := 1) (vs := [x]) (i := i) (o1 := 0 + (i + 1)) (o2 := 0 + i) hown2 hi hroom rfl (by omega) (by omega) (by rw [Nat.mul_one]; exact hw)
    rw [Nat.mul_one] at a1
    exact ⟨g, c, rfl, a1, a2, .inl rfl, Nat.lt_of_lt_of_le (row_lt hg) a2.size⟩
   ·have hk := Any2.slices_Insert_string_grow laysIs g 0 n c i vb 0 1 1 xs [x] w (by omega) (by decide) hnc (by omega) (by omega) hxl rfl hcx hvs0 h1 h1vs
    change Calls Tryz.prog 184 _ _ _ at hk
    refine hk.mono ?_
    rintro e w' ⟨rfl, hw⟩
    obtain ⟨G, hG⟩ : ∃ G, G = grownCap w (n + 1) c 9 := ⟨_, rfl⟩
    have hGn : n + 1 <= G := by rw [hG]; exact grownCap_ge w _ _ _
    have hG63 : G <= maxLen := by rw [hG]; exact grownCap_le_maxLen w (n + 1) c 9 (by unfold maxLen; omega)
    change w' = (((w.alloc (.cells ((xs.take i).toArray ++ Builtin.zeroCells (Value.string ⟨#[]⟩).cells (n + 1 - i) ++ Builtin.zeroCells (Value.string ⟨#[]⟩).cells (grownCap w (n + 1) c 9 - (n + 1))) 9)).drew.setCells w.heap.size i [x]).drew).setCells w.heap.size (i + 1) (xs.drop i) at hw
    rw [<- hG] at hw
    have htl : (xs.take i).length = i := by rw [List.length_take]; omega
    obtain ⟨ROW, hROW⟩ : ∃ ROW : Array Value, ROW = (xs.take i).toArray ++ Builtin.zeroCells (Value.string ⟨#[]⟩).cells (n + 1 - i) ++ Builtin.zeroCells (Value.string ⟨#[]⟩).cells (G - (n + 1)) := ⟨_, rfl⟩
    rw [<- hROW] at hw
    have hR1 : ROW.size = G * 1 := by
     rw [hROW]
     simp only [Array.size_append, size_zeroCells, List.size_toArray, htl]
     rw [show (Value.string ⟨#[]⟩).cells.size = 1 from rfl]
     omega
    have hR2 : ROW.toList.take (i * 1) = xs.take (i * 1) := by
     rw [hROW, Nat.mul_one, Array.append_assoc, Array.toList_append]
     exact List.take_left' htl
    obtain ⟨a1, a2, a3⟩ := own_ins_new (W := w') (K := 1) (n := n) (i := i) (G := G) (xs := xs) (vs := [x]) (ROW := ROW) (o1 := i + 1) (o2 := i) (by omega) hbase hi hGn hG63 hR1 hR2 rfl (by omega) (by omega) (some g) (by rw [Nat.mul_one]; exact hw)
    rw [Nat.mul_one] at a1
    exact ⟨_, G, by show Ending.returned (Value.slice _ _ (grownCap w (n + 1) c 9)) = _; rw [<- hG], a1, a2, .inr rfl, a3⟩
structure MapG (nT base hi : Nat) (w : World) (ks : List ByteArray) (l : List TreeD) (vk vl : Value) (ess : List (List Value)) (F : Nat -> Nat -> Prop) : Prop where
 len : ess.length = l.length
 six : ∀ es ∈ ess, es.length = 6
 keys : w.ownsRow base 9 1 vk ks.length (ks.map Value.string)
 kids : w.ownsRow base 34 6 vl l.length ess.flatten
 hk : ∀ g, vk.ownBlock = some g -> g < hi
 hl : ∀ g, vl.ownBlock = some g -> g < hi
 part : ∀ i b, F i b -> base <= b /\ b < hi /\ vk.ownBlock ≠ some b /\ vl.ownBlock ≠ some b
 apart : ∀ i j b, F i b -> F j b -> i = j
 own : ∀ i d es, l[i]? = some d -> ess[i]? = some es -> OwnT nT (F i) w d es
 size : ∀ s ∈ ks, s.size <= 9223372036854775807
theorem MapG.nil (nT base hi : Nat) (w : World) : MapG nT base hi w [] [] (.slice none 0 0) (.slice none 0 0) [] (fun _ _ => False) :=
 ⟨rfl, fun _ h => (by cases h), World.ownsRow_nil _ _ _ _, World.ownsRow_nil _ _ _ _, fun g h => (by cases h), fun g h => (by cases h), fun _ _ h => h.elim, fun _ _ _ h => h.elim, fun i d es h => (by simp at h), fun _ h => (by cases h)⟩
theorem MapG.carry {nT base hi hi' : Nat} {w w' : World} {ks : List ByteArray} {l : List TreeD} {vk vl : Value} {ess : List (List Value)} {F : Nat -> Nat -> Prop} (h : MapG nT base hi w ks l vk vl ess F) (hh : hi <= hi') (hb : ∀ g, base <= g -> g < hi -> w'.heap[g]? = w.heap[g]?) : MapG nT base hi' w' ks l vk vl ess F :=
 ⟨h.len, h.six, ownsRow_carry h.keys (fun g hg => hb g (h.keys.lt g hg).1 (h.hk g hg)), ownsRow_carry h.kids (fun g hg => hb g (h.kids.lt g hg).1 (h.hl g hg)), fun g hg => Nat.lt_of_lt_of_le (h.hk g hg) hh, fun g hg => Nat.lt_of_lt_of_le (h.hl g hg) hh,
  fun i b hF => ⟨(h.part i b hF).1, Nat.lt_of_lt_of_le (h.part i b hF).2.1 hh, (h.part i b hF).2.2⟩, h.apart, fun i d es hd he => (h.own i d es hd he).carry (fun b hF => hb b (h.part i b hF).1 (h.part i b hF).2.1) (fun _ h => h), h.size⟩
theorem ins_get {D : Type} {l : List D} {i : Nat} {x : D} (hi : i <= l.length) (j : Nat) : (insL l i x)[j]? = if j < i then l[j]? else if j = i then some x else l[j - 1]? := by
 unfold insL
 have hl : (l.take i).length = i := by rw [List.length_take]; omega
 by_cases h1 : j < i
 ·rw [if_pos h1, List.getElem?_append_left (by omega), List.getElem?_take, if_pos h1]
 ·rw [if_neg h1, List.getElem?_append_right (by omega), hl]
  by_cases h2 : j = i
  ·rw [if_pos h2, h2, Nat.sub_self]; rfl
  ·rw [if_neg h2, show j - i = (j - 1 - i) + 1 by omega, List.getElem?_cons_succ, List.getElem?_drop, show i + (j - 1 - i) = j - 1 by omega]
theorem ins_map {D C : Type} (f : D -> C) (l : List D) (i : Nat) (x : D) : (insL l i x).map f = insL (l.map f) i (f x) := by
 unfold insL
 rw [List.map_append, List.map_cons, List.map_take, List.map_drop]
theorem ins_append {D : Type} (l : List D) (i : Nat) (x : D) : insL l i x = l.take i ++ [x] ++ l.drop i := by unfold insL; simp
theorem ins_mem {D : Type} {l : List D} {i : Nat} {x y : D} (h : y ∈ insL l i x) : y = x ∨ y ∈ l := by
 unfold insL at h
 rcases List.mem_append.1 h with h | h
 ·exact .inr (List.mem_of_mem_take h)
 ·rcases List.mem_cons.1 h with h | h
  ·exact .inl h
  ·exact .inr (List.mem_of_mem_drop h)
theorem flat_take : ∀ (ess : List (List Value)) (i : Nat), (∀ es ∈ ess, es.length = 6) -> ess.flatten.take (i * 6) = (ess.take i).flatten
 | [], i, _ => by simp
 | es :: ess, 0, _ => by simp
 | es :: ess, i + 1, h => by
  have h6 := h es (by simp)
  rw [List.flatten_cons, List.take_succ_cons, List.flatten_cons, List.take_append, h6, show (i + 1) * 6 - 6 = i * 6 by omega, flat_take ess i (fun x hx => h x (by simp [hx])), List.take_of_length_le (by omega)]
theorem flat_drop : ∀ (ess : List (List Value)) (i : Nat), (∀ es ∈ ess, es.length = 6) -> ess.flatten.drop (i * 6) = (ess.drop i).flatten
 | [], i, _ => by simp
 | es :: ess, 0, _ => by simp
 | es :: ess, i + 1, h => by
  have h6 := h es (by simp)
  rw [List.flatten_cons, List.drop_succ_cons, List.drop_append, h6, show (i + 1) * 6 - 6 = i * 6 by omega, flat_drop ess i (fun x hx => h x (by simp [hx])), List.drop_of_length_le (by omega), List.nil_append]
theorem flat_ins (ess : List (List Value)) (i : Nat) (es : List Value) (h : ∀ es ∈ ess, es.length = 6) : (insL ess i es).flatten = ess.flatten.take (i * 6) ++ es ++ ess.flatten.drop (i * 6) := by
 rw [flat_take ess i h, flat_drop ess i h]
 unfold insL
 rw [List.flatten_append, List.flatten_cons, List.append_assoc]
theorem MapG.one {nT base hi : Nat} {w : World} {ks : List ByteArray} {l : List TreeD} {vk vl : Value} {ess : List (List Value)} {F : Nat -> Nat -> Prop} (h : MapG nT base hi w ks l vk vl ess F) : ∀ u ∈ ess.flatten, u.oneCell' = true := by
 intro u hu
 obtain ⟨es, hes, hu⟩ := List.mem_flatten.1 hu
 obtain ⟨i, hi⟩ := List.getElem?_of_mem hes
 have hil := (List.getElem?_eq_some_iff.1 hi).1
 obtain ⟨d, hd⟩ := exists_at (l := l) (k := i) (by have := h.len; omega)
 exact (h.own i d es hd hi).one u hu
theorem MapG.ins {nT base hi i : Nat} {w0 w1 w2 : World} {ks : List ByteArray} {l : List TreeD} {vk vl vk' vl' : Value} {ess : List (List Value)} {F : Nat -> Nat -> Prop} {S : Nat -> Prop} {t : TreeD} {es : List Value} {key : ByteArray} (h : MapG nT base hi w0 ks l vk vl ess F) (hbh : base <= hi) (hhi : hi <= w0.heap.size) (hi1 : i <= ks.length) (hi2 : i <= l.length)
  (ht : OwnT nT S w0 t es) (hS : ∀ b, S b -> hi <= b /\ b < w0.heap.size) (hkey : key.size <= 9223372036854775807)
  (h01 : ∀ b, base <= b -> b < w0.heap.size -> vk.ownBlock ≠ some b -> w1.heap[b]? = w0.heap[b]?) (hs01 : w0.heap.size <= w1.heap.size)
  (hK : w1.ownsRow base 9 1 vk' (ks.length + 1) ((ks.map Value.string).take i ++ [.string key] ++ (ks.map Value.string).drop i)) (hgk : ∀ g, vk'.ownBlock = some g -> vk.ownBlock = some g ∨ w0.heap.size <= g)
  (h12 : ∀ b, base <= b -> b < w1.heap.size -> vl.ownBlock ≠ some b -> w2.heap[b]? = w1.heap[b]?) (hs12 : w1.heap.size <= w2.heap.size)
  (hL : w2.ownsRow base 34 6 vl' (l.length + 1) (ess.flatten.take (i * 6) ++ es ++ ess.flatten.drop (i * 6))) (hgl : ∀ g, vl'.ownBlock = some g -> vl.ownBlock = some g ∨ w1.heap.size <= g) :
  MapG nT base w2.heap.size w2 (insL ks i key) (insL l i t) vk' vl' (insL ess i es) (fun j b => if j < i then F j b else if j = i then S b else F (j - 1) b) := by
 have hvv := own_apart h.kids h.keys (by decide)
 have hkl : ∀ g, vk'.ownBlock = some g -> vl.ownBlock ≠ some g := fun g hg e => by
  rcases hgk g hg with h1 | h1
  ·exact hvv g e h1
  ·have := h.hl g e; omega
 have hkeep : ∀ b, base <= b -> b < w0.heap.size -> vk.ownBlock ≠ some b -> vl.ownBlock ≠ some b -> w2.heap[b]? = w0.heap[b]? := fun b h1 h2 h3 h4 => (h12 b h1 (by omega) h4).trans (h01 b h1 h2 h3)
 have hlen := h.len
 have hFS : ∀ j b, F j b -> ¬ S b := fun j b hF hs => by have := (h.part j b hF).2.1; have := (hS b hs).1; omega
 refine ⟨by rw [ins_len (by omega), ins_len hi2, hlen], ?_, ?_, ?_, ?_, ?_, ?_, ?_, ?_, ?_⟩
 ·intro x hx
  rcases ins_mem hx with rfl | hx
  ·exact ht.len
  ·exact h.six x hx
 ·rw [ins_len hi1, ins_map, ins_append]
  exact ownsRow_carry hK (fun g hg => h12 g (hK.lt g hg).1 (hK.lt g hg).2 (hkl g hg))
 ·rw [ins_len hi2, flat_ins ess i es h.six]
  exact hL
 ·intro g hg
  have := (hK.lt g hg).2
  omega
 ·intro g hg
  exact (hL.lt g hg).2
 ·have hnew : ∀ b, base <= b -> b < w0.heap.size -> vk.ownBlock ≠ some b -> vl.ownBlock ≠ some b -> base <= b /\ b < w2.heap.size /\ vk'.ownBlock ≠ some b /\ vl'.ownBlock ≠ some b := fun b h1 h2 h3 h4 =>
   ⟨h1, by omega, fun e => by rcases hgk b e with h5 | h5; exact h3 h5; omega, fun e => by rcases hgl b e with h5 | h5; exact h4 h5; omega⟩
  intro j b hF
  by_cases c1 : j < i
  ·rw [if_pos c1] at hF
   obtain ⟨f1, f2, f3, f4⟩ := h.part j b hF
   exact hnew b f1 (by omega) f3 f4
  ·rw [if_neg c1] at hF
   by_cases c2 : j = i
   ·rw [if_pos c2] at hF
    obtain ⟨f1, f2⟩ := hS b hF
    exact hnew b (by omega) f2 (fun e => by have := h.hk b e; omega) (fun e => by have := h.hl b e; omega)
   ·rw [if_neg c2] at hF
    obtain ⟨f1, f2, f3, f4⟩ := h.part (j - 1) b hF
    exact hnew b f1 (by omega) f3 f4
 ·intro j k b hF hG
  have key : ∀ j k, (if j < i then F j b else if j = i then S b else F (j - 1) b) -> (if k < i then F k b else if k = i then S b else F (k - 1) b) -> j <= k -> j = k := by
   intro j k hF hG hjk
   by_cases c1 : j < i
   ·rw [if_pos c1] at hF
    by_cases c2 : k < i
    ·rw [if_pos c2] at hG
     exact h.apart j k b hF hG
    ·rw [if_neg c2] at hG
     by_cases c3 : k = i
     ·rw [if_pos c3] at hG
      exact absurd hG (hFS j b hF)
     ·rw [if_neg c3] at hG
      have := h.apart j (k - 1) b hF hG
      omega
   ·rw [if_neg c1] at hF
    by_cases c3 : j = i
    ·rw [if_pos c3] at hF
     by_cases c4 : k = i
     ·omega
     ·rw [if_neg (by omega), if_neg c4] at hG
      exact absurd hF (hFS (k - 1) b hG)
    ·rw [if_neg c3] at hF
     rw [if_neg (by omega), if_neg (by omega)] at hG
     have := h.apart (j - 1) (k - 1) b hF hG
     omega
  rcases Nat.le_total j k with hjk | hjk
  ·exact key j k hF hG hjk
  ·exact (key k j hG hF hjk).symm
 ·have hset : ∀ b, S b -> w2.heap[b]? = w0.heap[b]? := fun b hs => by
   obtain ⟨f1, f2⟩ := hS b hs
   exact hkeep b (by omega) f2 (fun e => by have := h.hk b e; omega) (fun e => by have := h.hl b e; omega)
  intro j d' es' hd hes
  rw [ins_get hi2] at hd
  rw [ins_get (by omega)] at hes
  by_cases c1 : j < i
  ·rw [if_pos c1] at hd hes
   refine (h.own j d' es' hd hes).carry (fun b hF => ?_) (fun b hF => by rw [if_pos c1]; exact hF)
   obtain ⟨f1, f2, f3, f4⟩ := h.part j b hF
   exact hkeep b f1 (by omega) f3 f4
  ·rw [if_neg c1] at hd hes
   by_cases c2 : j = i
   ·rw [if_pos c2] at hd hes
    obtain rfl := Option.some.inj hd
    obtain rfl := Option.some.inj hes
    exact ht.carry hset (fun b hF => by rw [if_neg c1, if_pos c2]; exact hF)
   ·rw [if_neg c2] at hd hes
    refine (h.own (j - 1) d' es' hd hes).carry (fun b hF => ?_) (fun b hF => by rw [if_neg c1, if_neg c2]; exact hF)
    obtain ⟨f1, f2, f3, f4⟩ := h.part (j - 1) b hF
    exact hkeep b f1 (by omega) f3 f4
 ·intro s hs
  rcases ins_mem hs with rfl | hs
  ·exact hkey
  ·exact h.size s hs
theorem MapG.tree {nT base hi : Nat} {w wF : World} {ks : List ByteArray} {l : List TreeD} {vk vl : Value} {ess : List (List Value)} {F : Nat -> Nat -> Prop} {S : Nat -> Prop} (h : MapG nT base hi w ks l vk vl ess F) (hF : ∀ q, base <= q -> q < hi -> wF.heap[q]? = w.heap[q]?) (hS : ∀ b, base <= b -> b < hi -> S b) :
  OwnT (nT + 1) S wF (tMap ks l) [.int .i64 6, .bool false, .int .i64 0, .string ⟨#[]⟩, vk, vl] := by
 have hvv := own_apart h.kids h.keys (by decide)
 refine OwnT.into ⟨_, _, fun b => vk.ownBlock = some b, fun b => base <= b /\ b < hi /\ vk.ownBlock ≠ some b, rfl, (show I64 6 from by unfold I64; decide), (show I64 0 from by unfold I64; decide), (show ByteArray.size ⟨#[]⟩ <= 9223372036854775807 from by decide), fun b hb => ⟨hS b (h.keys.lt b hb).1 (h.hk b hb), fun hx => hx.2.2 hb⟩, fun b hb => hS b hb.1 hb.2.1, ?_, ?_⟩
 ·obtain ⟨hl, h1⟩ := h.keys
  rcases h1 with ⟨rfl, h0⟩ | ⟨g, cap, cur, rfl, hb, hg, hnc, hcm, hcs, ht⟩
  ·exact ⟨none, 0, by show _ = Value.slice none ks.length 0; rw [h0], by show ks.length <= 0; omega, by omega, fun hp => by change 0 < ks.length at hp; omega⟩
  ·refine ⟨_, cap, rfl, hnc, by unfold maxLen at hcm; omega, fun _ => ⟨g, cur, rfl, rfl, (hF g hb (h.hk g rfl)).trans hg, fun i s hs => ⟨?_, h.size s (List.mem_of_getElem? hs)⟩⟩⟩
   change ks[i]? = some s at hs
   have hi : i < ks.length := (List.getElem?_eq_some_iff.1 hs).1
   have : (cur.toList.take (ks.length * 1))[i]? = some (.string s) := by rw [ht, List.getElem?_map, hs]; rfl
   rw [List.getElem?_take, if_pos (by omega)] at this
   simpa using this
 ·obtain ⟨hl, h1⟩ := h.kids
  rcases h1 with ⟨rfl, h0⟩ | ⟨g, cap, cur, rfl, hb, hg, hnc, hcm, hcs, ht⟩
  ·exact ⟨none, 0, by show _ = Value.slice none l.length 0; rw [h0], by show l.length <= 0; omega, by omega, fun hp => by change 0 < l.length at hp; omega⟩
  ·refine ⟨_, cap, rfl, hnc, by unfold maxLen at hcm; omega, fun _ => ⟨g, F, rfl, ⟨hb, h.hl g rfl, fun e => hvv g rfl e⟩, fun i b hb => ⟨⟨(h.part i b hb).1, (h.part i b hb).2.1, (h.part i b hb).2.2.1⟩, fun e => (h.part i b hb).2.2.2 (by rw [e]; rfl)⟩, h.apart, cur, (hF g hb (h.hl g rfl)).trans hg, fun i d hd => ?_⟩⟩
   change l[i]? = some d at hd
   have hi : i < l.length := (List.getElem?_eq_some_iff.1 hd).1
   have hlen := h.len
   obtain ⟨es, hes⟩ := exists_at (l := ess) (k := i) (by omega)
   refine ⟨es, h.six es (List.mem_of_getElem? hes), fun j hj => ?_, (h.own i d es hd hes).carry (fun b hb => hF b (h.part i b hb).1 (h.part i b hb).2.1) (fun _ h => h)⟩
   have hf := flat_get ess i es j h.six hes hj
   rw [<- ht, List.getElem?_take, if_pos (by omega)] at hf
   simpa using hf
theorem aside_grown {w w' : World} {r : Option Nat} (h : w.grownBy w' r) : Aside (fun q => some q = r) w w' := ⟨h.os, h.tape, h.output, h.size, fun q h1 h2 => h.block q h1 h2⟩
open Go.RowKit
theorem quotR_size (s : ByteArray) : ∀ (k j : Nat) (acc : List UInt8), (quotR s k j acc).1.size <= acc.length + 4 * (s.size - j)
 | 0, j, acc => by show (0 : Nat) <= _; omega
 | k + 1, j, acc => by
  unfold quotR
  by_cases h : j < s.size
  ·rw [if_pos h]
   by_cases h1 : byteI s j = 34
   ·rw [if_pos h1]
    show acc.toArray.size <= _
    rw [List.size_toArray]
    omega
   ·rw [if_neg h1]
    by_cases h2 : (quotN s j).2 < 0
    ·rw [if_pos h2]; show (0 : Nat) <= _; omega
    ·rw [if_neg h2]
     have h3 := quotR_size s k (quotN s j).2.toNat (acc ++ (textB (quotN s j).1).data.toList)
     have h4 := (quotN_next s j).1
     have h5 := textB_size (quotN s j).1
     have h6 : (textB (quotN s j).1).data.toList.length = (textB (quotN s j).1).size := by rw [Array.length_toList]; rfl
     rw [List.length_append, h6] at h3
     omega
  ·rw [if_neg h]; show (0 : Nat) <= _; omega
def treeZ : TreeD := ⟨0, false, 0, ⟨#[]⟩, [], []⟩
def ReadE (r : Flt × TreeD) (w : World) (e : Ending) (w' : World) : Prop := ∃ cs, e = .returned (.tuple #[.agg cs.toArray, .agg (fltC r.1)]) /\ OwnT 10 (fun x => w.heap.size <= x /\ x < w'.heap.size) w' r.2 cs /\ Below w.heap.size w w'
theorem ReadE.bad {r : Flt × TreeD} {f : Flt} {w w' : World} (hr : r = (f, treeZ)) (h : Below w.heap.size w w') : ReadE r w (.returned (.tuple #[.agg #[.int .i64 0, .bool false, .int .i64 0, .string ⟨#[]⟩, .slice none 0 0, .slice none 0 0], .agg (fltC f)])) w' := by
 subst hr
 exact ⟨[.int .i64 0, .bool false, .int .i64 0, .string ⟨#[]⟩, .slice none 0 0, .slice none 0 0], rfl, own_leaf (by unfold I64; decide) (by unfold I64; decide) (by decide), h⟩
theorem szL_app {D : Type} (f : D -> Nat) : ∀ a b : List D, szL f (a ++ b) = szL f a + szL f b
 | [], b => by simp [szL]
 | x :: a, b => by
  simp only [List.cons_append, szL]
  rw [szL_app f a b]
  omega
theorem szL_ins {D : Type} (f : D -> Nat) (l : List D) (i : Nat) (x : D) : szL f (insL l i x) = f x + szL f l := by
 have h := szL_app f (l.take i) (l.drop i)
 rw [List.take_append_drop] at h
 unfold insL
 rw [szL_app, h]
 simp only [szL]
 omega
theorem shape_mk {n : Nat} {d : TreeD} (h1 : badH d = false) (h2 : strB d.text = true) (h3 : lensOk d = true) (h4 : ∀ i, i < d.keys.length -> keyOk d.keys i = true) (h5 : ∀ t ∈ d.kids, shapeT n t = true) : shapeT (n + 1) d = true := by
 rw [shapeT_succ, h1, h2, h3]
 have hall : ∀ {m : Nat} {p : Nat -> Bool}, (∀ i, i < m -> p i = true) -> allR m p = true := fun {m p} ha => by
  unfold allR
  exact List.all_eq_true.2 (fun i hi => ha i (List.mem_range.1 hi))
 rw [hall h4, hall (fun i hi => by
  obtain ⟨t, ht⟩ := exists_at hi
  rw [kidAt_eq ht]
  exact h5 t (List.mem_of_getElem? ht))]
 rfl
theorem strB_empty : strB ⟨#[]⟩ = true := by
 unfold strB utf8B
 rw [runesAt_end (by decide)]
 rfl
theorem keys_ok {ks : List ByteArray} (hs : SortK ks) (hk : ∀ k ∈ ks, strB k = true) : ∀ i, i < ks.length -> keyOk ks i = true := by
 intro i hi
 obtain ⟨k, hk1⟩ := exists_at hi
 have h1 := hk k (List.mem_of_getElem? hk1)
 cases i with
 | zero => rw [keyOk_zero hk1, h1]
 | succ i =>
  obtain ⟨p, hp⟩ := exists_at (show i < ks.length by omega)
  rw [keyOk_succ hk1 hp, h1]
  have h2 := List.pairwise_iff_getElem.1 hs i (i + 1) (by omega) hi (by omega)
  obtain ⟨g1, g2⟩ := List.getElem?_eq_some_iff.1 hk1
  obtain ⟨f1, f2⟩ := List.getElem?_eq_some_iff.1 hp
  rw [g2, f2] at h2
  rw [h2]
  rfl
theorem items_cost {pre : Nat -> List UInt8} {f : TreeD -> List UInt8} {g : Nat -> Nat} {l : List TreeD} (hp : ∀ i, i < l.length -> (pre i).length = g i) : ∀ k, 1 <= k -> k <= l.length -> (itemsT pre f l k).length + 1 = szL g (List.range k) + szL (fun t => (f t).length + 1) (l.take k)
 | 0, h, _ => by omega
 | 1, _, hk => by
  obtain ⟨t, ht⟩ := exists_at (show 0 < l.length by omega)
  have h1 := hp 0 (by omega)
  rw [items_next ht, szL_take_succ _ l 0 t ht]
  simp only [itemsT, if_true, List.nil_append, List.length_append, List.take_zero, szL, List.range_succ, List.range_zero]
  omega
 | k + 2, _, hk => by
  obtain ⟨t, ht⟩ := exists_at (show k + 1 < l.length by omega)
  have h1 := hp (k + 1) (by omega)
  have ih := items_cost (f := f) hp (k + 1) (by omega) (by omega)
  rw [items_next ht, szL_take_succ _ l (k + 1) t ht, if_neg (by omega), List.range_succ, szL_app]
  simp only [List.length_append, List.length_cons, List.length_nil, szL]
  omega
theorem szL_zero {D : Type} (l : List D) : szL (fun _ => 0) l = 0 := by
 induction l with
 | nil => rfl
 | cons x l ih => simp only [szL]; omega
theorem szL_keys (q : ByteArray -> Nat) (ks : List ByteArray) : ∀ k, k <= ks.length -> szL (fun i => match ks[i]? with | none => 0 | some x => q x) (List.range k) = szL q (ks.take k)
 | 0, _ => rfl
 | k + 1, hk => by
  obtain ⟨x, hx⟩ := exists_at (show k < ks.length by omega)
  rw [List.range_succ, szL_app, szL_keys q ks k (by omega), szL_take_succ q ks k x hx]
  simp only [szL]
  rw [hx]
  rfl
def qlen (k : ByteArray) : Nat := (quoteB k).data.toList.length + 1
theorem list_len {n : Nat} {l : List TreeD} (h : l ≠ []) : (sayL (n + 1) (tList l)).length = 1 + szL (fun t => (sayL n t).length + 1) l := by
 have hl : 0 < l.length := List.length_pos_iff.2 h
 have h1 := items_cost (pre := fun _ => []) (f := sayL n) (g := fun _ => 0) (l := l) (fun _ _ => rfl) l.length (by omega) (Nat.le_refl _)
 rw [szL_zero, List.take_length] at h1
 show ([91] ++ itemsT (fun _ => []) (sayL n) l l.length ++ [93]).length = _
 simp only [List.length_append, List.length_cons, List.length_nil]
 omega
theorem map_len {n : Nat} {ks : List ByteArray} {l : List TreeD} (h : l ≠ []) (hk : ks.length = l.length) : (sayL (n + 1) (tMap ks l)).length = 1 + szL qlen ks + szL (fun t => (sayL n t).length + 1) l := by
 have hl : 0 < l.length := List.length_pos_iff.2 h
 have h1 := items_cost (pre := preM ks) (f := sayL n) (g := fun i => match ks[i]? with | none => 0 | some x => qlen x) (l := l) (fun i hi => by
  obtain ⟨x, hx⟩ := exists_at (show i < ks.length by omega)
  unfold preM qlen
  rw [hx]
  simp) l.length (by omega) (Nat.le_refl _)
 rw [szL_keys qlen ks l.length (by omega), List.take_length, <- hk, List.take_length] at h1
 show ([123] ++ itemsT (preM ks) (sayL n) l l.length ++ [125]).length = _
 rw [<- hk]
 simp only [List.length_append, List.length_cons, List.length_nil]
 omega
structure VOk (N d : Nat) (t : TreeD) : Prop where
 shape : shapeT N t = true
 num : numT N t
 deep : depthT N t + d <= 9
theorem num_leaf {N : Nat} {t : TreeD} (h : I64 t.num) (hk : t.kids = []) : numT (N + 1) t := ⟨h, fun x hx => by rw [hk] at hx; cases hx⟩
theorem leaf_ok {N d : Nat} {t : TreeD} (hd : d <= 8) (h1 : badH t = false) (h2 : strB t.text = true) (h3 : lensOk t = true) (h4 : t.keys = []) (h5 : t.kids = []) (h6 : I64 t.num) : VOk (N + 1) d t /\ sizeT (N + 1) t = 1 := by
 refine ⟨⟨shape_mk h1 h2 h3 (fun i hi => by rw [h4] at hi; simp at hi) (fun x hx => by rw [h5] at hx; cases hx), num_leaf h6 h5, ?_⟩, ?_⟩
 ·rw [depthT_succ, h5]
  simp only [mxL]
  omega
 ·rw [sizeT_succ, h5]
  rfl
theorem mxL_le {D : Type} {f : D -> Nat} {b : Nat} : ∀ {l : List D}, (∀ x ∈ l, f x <= b) -> mxL f l <= b
 | [], _ => Nat.zero_le _
 | x :: l, h => by
  have h1 := h x (by simp)
  have h2 := mxL_le (f := f) (l := l) (fun y hy => h y (by simp [hy]))
  simp only [mxL]
  omega
theorem list_ok {N d : Nat} {l : List TreeD} (hd : d <= 8) (h : ∀ x ∈ l, VOk N (d + 1) x) : VOk (N + 1) d (tList l) := by
 refine ⟨shape_mk (by unfold badH tList inB; simp) strB_empty (by unfold lensOk tList; simp) (fun i hi => by simp [tList] at hi) (fun x hx => (h x hx).shape), ⟨i64_zero, fun x hx => (h x hx).num⟩, ?_⟩
 rw [depthT_succ]
 have := mxL_le (f := depthT N) (b := 8 - d) (l := l) (fun x hx => by have := (h x hx).deep; omega)
 show mxL (depthT N) l + 1 + d <= 9
 omega
theorem map_ok {N d : Nat} {ks : List ByteArray} {l : List TreeD} (hd : d <= 8) (hk : ks.length = l.length) (hs : SortK ks) (hst : ∀ k ∈ ks, strB k = true) (h : ∀ x ∈ l, VOk N (d + 1) x) : VOk (N + 1) d (tMap ks l) := by
 refine ⟨shape_mk (by unfold badH tMap inB; simp) strB_empty (by unfold lensOk tMap; simp [hk]) (keys_ok hs hst) (fun x hx => (h x hx).shape), ⟨i64_zero, fun x hx => (h x hx).num⟩, ?_⟩
 rw [depthT_succ]
 have := mxL_le (f := depthT N) (b := 8 - d) (l := l) (fun x hx => by have := (h x hx).deep; omega)
 show mxL (depthT N) l + 1 + d <= 9
 omega
structure Grb (w : World) (v : Value) (w' : World) (v' : Value) : Prop where
 grown : w.grownBy w' v.ownBlock
 at' : ∀ q, v'.ownBlock = some q -> v.ownBlock = some q ∨ w.heap.size <= q
theorem Grb.trans {w w1 w2 : World} {v v1 v2 : Value} (h : Grb w v w1 v1) (k : Grb w1 v1 w2 v2) : Grb w v w2 v2 := by
 have hs := h.grown.size
 refine ⟨⟨k.grown.os.trans h.grown.os, k.grown.tape.trans h.grown.tape, k.grown.output.trans h.grown.output, Nat.le_trans h.grown.size k.grown.size, fun q h1 h2 => ?_⟩, fun q hq => ?_⟩
 ·refine (k.grown.block q (by omega) (fun e => ?_)).trans (h.grown.block q h1 h2)
  rcases h.at' q e.symm with h3 | h3
  ·exact h2 h3.symm
  ·omega
 ·rcases k.at' q hq with h3 | h3
  ·exact h.at' q h3
  ·exact .inr (by omega)
theorem Grb.of {w w' : World} (v : Value) (h : Below w.heap.size w w') : Grb w v w' v := ⟨⟨h.os, h.tape, h.output, h.size, fun q h1 _ => h.block q h1⟩, fun _ hq => .inl hq⟩
theorem Grb.below {base : Nat} {w w' : World} {v v' : Value} {n : Nat} {xs : List Value} {e : TypeId} {z : Nat} (h : Grb w v w' v') (ho : w.ownsRow base e z v n xs) (hb : base <= w.heap.size) : Below base w w' :=
 Below.grown (Below.refl base w) h.grown hb (fun q hq => (World.ownsRow.lt ho q hq).1)
theorem Grb.keep {w w' : World} {v v' : Value} {q : Nat} (h : Grb w v w' v') (h1 : q < w.heap.size) (h2 : v.ownBlock ≠ some q) : w'.heap[q]? = w.heap[q]? := h.grown.block q h1 (fun e => h2 e.symm)
theorem Grb.of_at {w w' : World} {v v' : Value} (h : w.grownBy w' v.ownBlock) (ha : v'.ownBlock = v.ownBlock ∨ v'.ownBlock = some w.heap.size) : Grb w v w' v' :=
 ⟨h, fun q hq => by
  rcases ha with h1 | h1
  ·exact .inl (h1 ▸ hq)
  ·rw [hq] at h1
   exact .inr (by have := Option.some.inj h1; omega)⟩
def BufN (base : Nat) (w : World) (M : List UInt8) (n : Nat) (v : Value) : Prop := n = M.length /\ w.ownsRow base 5 1 v n (Lib.strCells ⟨M.toArray⟩)
theorem BufN.below {base n : Nat} {w w' : World} {M : List UInt8} {v : Value} (h : BufN base w M n v) (hb : Below w.heap.size w w') : BufN base w' M n v := ⟨h.1, ownsRow_carry h.2 (fun q hq => hb.block q (World.ownsRow.lt h.2 q hq).2)⟩
theorem BufN.lt {base n : Nat} {w : World} {M : List UInt8} {v : Value} (h : BufN base w M n v) {q : Nat} (hq : v.ownBlock = some q) : base <= q /\ q < w.heap.size := World.ownsRow.lt h.2 q hq
theorem bufN_lit (wx : World) (base n c k : Nat) (A : Option Addr) (M bs : List UInt8) (cs : List Value) (h : BufN base wx M n (.slice A n c)) (hk : k = bs.length) (hcs : cs = Lib.strCells ⟨bs.toArray⟩) (hsz : n + k <= 2147483648) (hk2 : k <= 1048576) (hbase : base <= wx.heap.size) :
  ∃ (A' : Option Addr) (c' : Nat) (w' : World), (Builtin.append_ #[28, 28] 28 #[.slice A n c, .slice (some ⟨wx.heap.size, 0, none⟩) k k]).run Tryz.prog (wx.alloc (.cells cs.toArray 5)) = .ok (.slice A' (n + k) c') w' /\ BufN base w' (M ++ bs) (n + k) (.slice A' (n + k) c') /\ Grb wx (.slice A n c) w' (.slice A' (n + k) c') := by
 obtain ⟨i0, hi, hz0, hz1, hz2⟩ := info_parts (show (Tryz.prog.info? 5).map (fun i => (i.zero, i.size, i.bytes)) = some (some (.int .u8 0), 1, 1) from by kernel_rfl)
 obtain ⟨hn, h⟩ := h
 have hb : Below wx.heap.size wx (wx.alloc (.cells cs.toArray 5)) := bel
 have h' := ownsRow_carry h (fun q hq => hb.block q (World.ownsRow.lt h q hq).2)
 obtain ⟨v', w', hr, h2, h3, h5⟩ := run_append_row (P := Tryz.prog) (wx.alloc (.cells cs.toArray 5)) 28 28 base 5 i0 (.int .u8 0) 1 1 Tryz.underlying28 hi hz0 hz1 hz2 rfl (by decide) (.slice A n c) n _ h' wx.heap.size k _ _ (own_lit hk hk2 hcs) (cells_one bs) (by unfold maxLen; omega) (by omega) (by simp; omega)
 obtain ⟨A', c', rfl⟩ := own_form h2
 refine ⟨A', c', w', hr, ⟨by rw [List.length_append, <- hn, <- hk], ?_⟩, (Grb.of _ hb).trans (Grb.of_at h3 h5)⟩
 rw [strCells_list] at h2
 exact h2
theorem run_str_at (w : World) (base n c : Nat) (A : Option Addr) (xs : List Value) (hown : w.ownsRow base 5 1 (.slice A n c) n xs) (s : ByteArray) (hsz : n + s.size <= 2147483648) (hbase : base <= w.heap.size) :
  ∃ (A' : Option Addr) (c' : Nat) (w' : World), (Builtin.append_ #[28, 9] 28 #[.slice A n c, .string s]).run Tryz.prog w = .ok (.slice A' (n + s.size) c') w' /\ w'.ownsRow base 5 1 (.slice A' (n + s.size) c') (n + s.size) (xs ++ Lib.strCells s) /\ Grb w (.slice A n c) w' (.slice A' (n + s.size) c') := by
 obtain ⟨i0, hi, hz0, hz1, hz2⟩ := info_parts (show (Tryz.prog.info? 5).map (fun i => (i.zero, i.size, i.bytes)) = some (some (.int .u8 0), 1, 1) from by kernel_rfl)
 obtain ⟨v', w', hr, h2, h3, h4⟩ := run_append_own_string (P := Tryz.prog) w base 28 9 28 5 i0 Tryz.underlying28 Tryz.underlying9 hi hz0 hz1 hz2 (.slice A n c) n xs hown s (by unfold maxLen; omega) (by omega) hbase
 obtain ⟨A', c', rfl⟩ := own_form h2
 refine ⟨A', c', w', hr, h2, h3, ?_⟩
 rcases hown.2 with ⟨e1, e2⟩ | ⟨g, cap, cur, e1, hb, hg, hnc, hcm, hcs, ht⟩
 ·obtain ⟨v2, w2, hr2, k2, -⟩ := run_append_own_string (P := Tryz.prog) w w.heap.size 28 9 28 5 i0 Tryz.underlying28 Tryz.underlying9 hi hz0 hz1 hz2 (.slice A n c) n xs ⟨hown.1, .inl ⟨e1, e2⟩⟩ s (by unfold maxLen; omega) (by omega) (Nat.le_refl _)
  rw [hr] at hr2
  simp only [Result.ok.injEq] at hr2
  obtain ⟨rfl, rfl⟩ := hr2
  exact fun q hq => .inr (World.ownsRow.lt k2 q hq).1
 ·cases e1
  by_cases hroom : n + s.size <= c
  ·have hr2 := run_append_room_string (P := Tryz.prog) w 28 9 28 5 i0 Tryz.underlying28 Tryz.underlying9 hi hz1 g n c cur hg s hroom (by omega)
   rw [hr] at hr2
   simp only [Result.ok.injEq, Value.slice.injEq] at hr2
   obtain ⟨⟨rfl, -, rfl⟩, -⟩ := hr2
   exact fun q hq => .inl hq
  ·have hr2 := run_append_grow_string (P := Tryz.prog) w 28 9 28 5 i0 (.int .u8 0) Tryz.underlying28 Tryz.underlying9 hi hz0 ⟨g, 0, none⟩ n c xs (by rw [hz1]; exact hown.1) (by
    intro j u hu
    rw [<- ht, List.getElem?_take] at hu
    rw [add_at, cell_of_row w g _ cur _ _ hg]
    split at hu
    ·simpa using hu
    ·cases hu) s (by omega) (by omega) (by rw [hz2]; exact growslice_fits (by omega) (by omega))
   rw [hr] at hr2
   simp only [Result.ok.injEq, Value.slice.injEq] at hr2
   obtain ⟨⟨rfl, -, rfl⟩, -⟩ := hr2
   intro q hq
   simp [Value.ownBlock] at hq
   exact .inr (by omega)
theorem bufN_str (w : World) (base n c : Nat) (A : Option Addr) (M : List UInt8) (s : ByteArray) (h : BufN base w M n (.slice A n c)) (hsz : n + s.size <= 2147483648) (hbase : base <= w.heap.size) :
  ∃ (A' : Option Addr) (c' : Nat) (w' : World), (Builtin.append_ #[28, 9] 28 #[.slice A n c, .string s]).run Tryz.prog w = .ok (.slice A' (n + s.size) c') w' /\ BufN base w' (M ++ s.data.toList) (n + s.size) (.slice A' (n + s.size) c') /\ Grb w (.slice A n c) w' (.slice A' (n + s.size) c') := by
 obtain ⟨A', c', w', hr, h2, h3⟩ := run_str_at w base n c A _ h.2 s hsz hbase
 rw [strCells_list] at h2
 exact ⟨A', c', w', hr, ⟨by rw [List.length_append, <- h.1, Array.length_toList]; rfl, h2⟩, h3⟩
theorem wpList_append_to {P : Program} {w : World} {ops : Array Oper} {rest : List Oper} {o : Oper} {a : Act} {Q : Exit -> Act -> World -> Prop} (hgd : o.guard = none) (s x : Operand) (t t2 : TypeId)
  (ho : o.op = .call { callee := .builtin .append, args := #[s, x], argTypes := #[t, t2] }) (v u v' : Value) (w' : World) (hs : a.eval s = v) (hx : a.eval x = u)
  (hr : (Builtin.append_ #[t, t2] o.type #[v, u]).run P w = .ok v' w') (h : wpList P ops Q rest (a.put o.dst v') w') : wpList P ops Q (o :: rest) a w :=
 wpList_plain hgd fun K hK => by
  unfold Oper.wp execOp
  simp only [ho, resolve, invoke, builtin, Sem.run_bind, Sem.run_pure, Result.andThen_ok, List.map_toArray, List.map_cons, List.map_nil, hs, hx, hr]
  exact hK _ _ h
def boolL (f : Bool) : List UInt8 := if f then litT else litF
theorem c_AppendBoolI (f : Bool) (w : World) (base n c : Nat) (A : Option Addr) (M : List UInt8) (h : BufN base w M n (.slice A n c)) (hsz : n <= 1073741824) (hbase : base <= w.heap.size) :
  Calls Tryz.prog 221 #[.slice A n c, .bool f] w fun e w' => ∃ (A' : Option Addr) (c' : Nat), e = .returned (.slice A' (n + (boolL f).length) c') /\ BufN base w' (M ++ (boolL f)) (n + (boolL f).length) (.slice A' (n + (boolL f).length) c') /\ Grb w (.slice A n c) w' (.slice A' (n + (boolL f).length) c') := by
 cases f with
 | true =>
  obtain ⟨A5, c5, w5, hr5, h5, g5⟩ := bufN_str w base n c A M ⟨#[116, 114, 117, 101]⟩ h (by show n + 4 <= _; omega) hbase
  have H5 := hid (And.intro h5 g5)
  clear h h5 g5
  go_enter Tryz.func221, Tryz.ntmps221
  go_wp2_with (at_builtin; refine wpList_append_to rfl (.tmp 6) (.const (.string ⟨#[116, 114, 117, 101]⟩)) 28 9 rfl _ _ _ w5 rfl rfl hr5 ?_)
  go_ret
  exact ⟨A5, c5, rfl, H5.out.1, H5.out.2⟩
 | false =>
  obtain ⟨A5, c5, w5, hr5, h5, g5⟩ := bufN_str w base n c A M ⟨#[102, 97, 108, 115, 101]⟩ h (by show n + 5 <= _; omega) hbase
  have H5 := hid (And.intro h5 g5)
  clear h h5 g5
  go_enter Tryz.func221, Tryz.ntmps221
  go_wp2_with (at_builtin; refine wpList_append_to rfl (.tmp 8) (.const (.string ⟨#[102, 97, 108, 115, 101]⟩)) 28 9 rfl _ _ _ w5 rfl rfl hr5 ?_)
  go_ret
  exact ⟨A5, c5, rfl, H5.out.1, H5.out.2⟩
theorem c_AppendBool (f : Bool) (w : World) (base n c : Nat) (A : Option Addr) (M : List UInt8) (h : BufN base w M n (.slice A n c)) (hsz : n <= 1073741824) (hbase : base <= w.heap.size) :
  Calls Tryz.prog 162 #[.slice A n c, .bool f] w fun e w' => ∃ (A' : Option Addr) (c' : Nat), e = .returned (.slice A' (n + (boolL f).length) c') /\ BufN base w' (M ++ (boolL f)) (n + (boolL f).length) (.slice A' (n + (boolL f).length) c') /\ Grb w (.slice A n c) w' (.slice A' (n + (boolL f).length) c') := by
 have HC := hid (c_AppendBoolI f w base n c A M h hsz hbase)
 obtain ⟨r, hr⟩ : ∃ r, r = boolL f := ⟨_, rfl⟩
 rw [<- hr] at HC ⊢
 clear h hr
 go_enter Tryz.func162, Tryz.ntmps162
 go_wp2_with fail
 refine HC.out.mono ?_
 rintro e w1 ⟨A', c', rfl, h1, h2⟩
 have H12 := hid (And.intro h1 h2)
 clear h1 h2
 go_wp2_with fail
 go_ret
 exact ⟨A', c', rfl, H12.out.1, H12.out.2⟩
open Go.Shelf
def laysItoa_ren : Go.Shelf.Ren := ⟨fun | 171 => 128 | 243 => 206 | 246 => 248 | 283 => 273 | 284 => 274 | 285 => 275 | 286 => 276 | 129 => 288 | 317 => 287 | 318 => 289 | 319 => 290 | 320 => 291 | 337 => 298 | 338 => 299 | n => n, fun | 3 => 3 | 9 => 9 | 2 => 2 | 4 => 4 | 171 => 212 | 0 => 0 | 53 => 213 | 37 => 28 | 5 => 5 | 173 => 216 | 212 => 233 | 51 => 202 | 20 => 20 | 213 => 234 | 46 => 179 | 232 => 247 | 233 => 248 | n => n, fun | 17 => 5 | 18 => 6 | 19 => 7 | n => n⟩
theorem laysItoa : Go.Proofs.LaysM.n171 Tryz.prog laysItoa_ren := {
 mixed := by kernel_rfl
 f129 := Tryz.func288.trans (congrArg some (by kernel_rfl))
 f171 := Tryz.func128.trans (congrArg some (by kernel_rfl))
 f243 := Tryz.func206.trans (congrArg some (by kernel_rfl))
 f246 := Tryz.func248.trans (congrArg some (by kernel_rfl))
 f283 := Tryz.func273.trans (congrArg some (by kernel_rfl))
 f284 := Tryz.func274.trans (congrArg some (by kernel_rfl))
 f285 := Tryz.func275.trans (congrArg some (by kernel_rfl))
 f286 := Tryz.func276.trans (congrArg some (by kernel_rfl))
 f317 := Tryz.func287.trans (congrArg some (by kernel_rfl))
 f318 := Tryz.func289.trans (congrArg some (by kernel_rfl))
 f319 := Tryz.func290.trans (congrArg some (by kernel_rfl))
 f320 := Tryz.func291.trans (congrArg some (by kernel_rfl))
 f337 := Tryz.func298.trans (congrArg some (by kernel_rfl))
 f338 := Tryz.func299.trans (congrArg some (by kernel_rfl))
 t0 := Tryz.underlying0
 a0 := Tryz.isAgg0
 z0 := Tryz.sizeOf0
 v0 := Tryz.zeroValue0
 t2 := Tryz.underlying2
 a2 := Tryz.isAgg2
 z2 := Tryz.sizeOf2
 v2 := Tryz.zeroValue2
 t3 := Tryz.underlying3
 a3 := Tryz.isAgg3
 z3 := Tryz.sizeOf3
 v3 := Tryz.zeroValue3
 t4 := Tryz.underlying4
 a4 := Tryz.isAgg4
 z4 := Tryz.sizeOf4
 v4 := Tryz.zeroValue4
 t5 := Tryz.underlying5
 a5 := Tryz.isAgg5
 z5 := Tryz.sizeOf5
 v5 := Tryz.zeroValue5
 t9 := Tryz.underlying9
 a9 := Tryz.isAgg9
 z9 := Tryz.sizeOf9
 v9 := Tryz.zeroValue9
 t20 := Tryz.underlying20
 a20 := Tryz.isAgg20
 z20 := Tryz.sizeOf20
 v20 := Tryz.zeroValue20
 t37 := Tryz.underlying28
 a37 := Tryz.isAgg28
 z37 := Tryz.sizeOf28
 v37 := Tryz.zeroValue28
 t46 := Tryz.underlying179
 a46 := Tryz.isAgg179
 z46 := Tryz.sizeOf179
 v46 := Tryz.zeroValue179
 t51 := Tryz.underlying202
 a51 := Tryz.isAgg202
 z51 := Tryz.sizeOf202
 v51 := Tryz.zeroValue202
 t53 := Tryz.underlying213
 a53 := Tryz.isAgg213
 z53 := Tryz.sizeOf213
 v53 := Tryz.zeroValue213
 t171 := Tryz.underlying212
 a171 := Tryz.isAgg212
 z171 := Tryz.sizeOf212
 v171 := Tryz.zeroValue212
 t173 := Tryz.underlying216
 a173 := Tryz.isAgg216
 z173 := Tryz.sizeOf216
 v173 := Tryz.zeroValue216
 t212 := Tryz.underlying233
 a212 := Tryz.isAgg233
 z212 := Tryz.sizeOf233
 v212 := Tryz.zeroValue233
 t213 := Tryz.underlying234
 a213 := Tryz.isAgg234
 z213 := Tryz.sizeOf234
 t232 := Tryz.underlying247
 a232 := Tryz.isAgg247
 z232 := Tryz.sizeOf247
 v232 := Tryz.zeroValue247
 t233 := Tryz.underlying248
 a233 := Tryz.isAgg248
 z233 := Tryz.sizeOf248
 v233 := Tryz.zeroValue248
 g17 := by kernel_rfl
 g18 := by kernel_rfl
 g19 := by kernel_rfl
 i0 := by kernel_rfl
 i2 := by kernel_rfl
 i3 := by kernel_rfl
 i4 := by kernel_rfl
 i5 := by kernel_rfl
 i9 := by kernel_rfl
 i20 := by kernel_rfl
 i37 := by kernel_rfl
 i46 := by kernel_rfl
 i51 := by kernel_rfl
 i53 := by kernel_rfl
 i171 := by kernel_rfl
 i173 := by kernel_rfl
 i212 := by kernel_rfl
 i232 := by kernel_rfl
 i233 := by kernel_rfl
 m17 := by kernel_rfl
 m18 := by kernel_rfl
 m19 := by kernel_rfl }
def Pow (w : World) : Prop := Lib.TabIs Tryz.prog w "internal/strconv.uint64pow10" .u64 Lib.pow10Tab
theorem Pow.below {w w' : World} (h : Pow w) (hb : Below w.heap.size w w') : Pow w' := by
 unfold Pow Lib.TabIs World.var? at h ⊢
 cases hg : Tryz.prog.globalNamed "internal/strconv.uint64pow10" with
 | none => rw [hg] at h; cases h
 | some g =>
  rw [hg] at h
  simp only [Option.bind_some] at h ⊢
  have hlt : g < w.heap.size := by
   rcases Nat.lt_or_ge g w.heap.size with h' | h'
   ·exact h'
   ·rw [Array.getElem?_eq_none h'] at h
    cases h
  rw [hb.block g hlt]
  exact h
theorem below_grow (w : World) (k : Nat) (os : Array Obj) : Below w.heap.size w (Go.Sort.grow (w.drewN k) os) :=
 ⟨rfl, rfl, rfl, by show w.heap.size <= (w.heap ++ os).size; simp, fun i hi => by
  show (w.heap ++ os)[i]? = w.heap[i]?
  rw [Array.getElem?_append_left hi]⟩
theorem c_strconv_Itoa (n : Int) (w : World) (hn : -9223372036854775808 <= n /\ n <= 9223372036854775807) (hp : Pow w) :
  Calls Tryz.prog 128 #[.int .i64 n] w fun e w' => e = .returned (.string (decS n)) /\ Below w.heap.size w w' := by
 have h := Any.strconv_Itoa laysItoa n hn.1 hn.2 w hp
 change Calls Tryz.prog 128 _ _ _ at h
 refine h.mono ?_
 rintro e w' ⟨rfl, k, os, rfl⟩
 exact ⟨rfl, below_grow w k os⟩
theorem c_impl_Decimal (n : Int) (w : World) (hn : -9223372036854775808 <= n /\ n <= 9223372036854775807) (hp : Pow w) :
  Calls Tryz.prog 70 #[.int .i64 n] w fun e w' => e = .returned (.string (decS n)) /\ Below w.heap.size w w' := by
 have Hp := Lib.hid hp
 clear hp
 go_enter Tryz.func70, Tryz.ntmps70
 go_wp2_with fail
 refine (c_strconv_Itoa n _ hn Hp.out).mono ?_
 rintro e w1 ⟨rfl, hb⟩
 go_wp2_with fail
 go_ret
 exact ⟨rfl, hb⟩
theorem C_Tree.old {n lo hi : Nat} {w w' : World} {d : TreeD} {cs : List Value} (h : C_Tree n lo hi w d cs) (hb : Below hi w w') : C_Tree n lo hi w' d cs := h.keep (same_below hb) (Nat.le_refl _) (Nat.le_refl _)
def T_sayI (n : Nat) : Prop := ∀ (d : TreeD) (cs : List Value) (w w0 : World) (lo base nn c : Nat) (A : Option Addr) (M : List UInt8), C_Tree n lo base w d cs -> shapeT n d = true -> base <= w.heap.size -> nn + 5000 * sizeT n d <= 1073741824 -> BufN base w M nn (.slice A nn c) -> Tabs w0 -> Pow w0 -> w0.heap.size <= base -> Below w0.heap.size w0 w ->
  Calls Tryz.prog 86 #[.slice A nn c, .agg cs.toArray] w fun e w' => ∃ (A' : Option Addr) (c' : Nat), e = .returned (.slice A' (nn + (sayL n d).length) c') /\ BufN base w' (M ++ sayL n d) (nn + (sayL n d).length) (.slice A' (nn + (sayL n d).length) c') /\ Grb w (.slice A nn c) w' (.slice A' (nn + (sayL n d).length) c')
theorem of_sayI (n : Nat) (ih : T_sayI n) : T_sayI (n + 1) := by
 intro d cs w w0 lo base nn c A M h hsh hbw hsz hbuf hTab hPow hw0 hb00
 have hlen := say_len (n + 1) d hsh (num_of h)
 have hS := sayL_succ n d
 have HSh := hid hsh
 have HNum := hid (num_of h)
 obtain ⟨v4, v5, rfl, a0, a2, a3, a4, a5⟩ := C_Tree.out h
 obtain ⟨A4, c4, rfl, hlk, hck, hK⟩ := a4
 obtain ⟨A5, c5, rfl, hlc, hcc, hA⟩ := a5
 have hsk : ∀ k t, d.kids[k]? = some t -> szL (sizeT n) (d.kids.take k) + sizeT n t + 1 <= sizeT (n + 1) d := fun k t ht => size_kid ht
 have HSk := hid hsk
 have hbd : badH d = false := (shape_parts hsh).1
 have hls : lensOk d = true := (shape_parts hsh).2.2.1
 have HTP := hid (And.intro hTab hPow)
 have HB00 := hid hb00
 clear h hTab hPow hsk hsh hb00
 obtain ⟨S, hSz⟩ : ∃ S, S = sizeT (n + 1) d := ⟨_, rfl⟩
 rw [<- hSz] at hlen hsz HSk
 obtain ⟨r, hr⟩ : ∃ r, r = sayL (n + 1) d := ⟨_, rfl⟩
 rw [<- hr] at hlen hS ⊢
 have HS := hid hS
 have HSz := hid (show S = 1 + szL (sizeT n) d.kids from hSz)
 clear hr hS hSz
 obtain ⟨dk, df, dn, dt, dks, dkd⟩ := d
 simp only at a0 a2 a3 hlk hK hlc hA HS HSk HSz hbd hls ⊢
 unfold badH at hbd
 unfold lensOk at hls
 simp only [Bool.or_eq_false_iff, Bool.not_eq_false', Bool.and_eq_false_iff] at hbd
 have hin : inB dk 1 6 = true := hbd.1.1.1.1.1
 have hk6 : 1 <= dk /\ dk <= 6 := by unfold inB at hin; exact of_decide_eq_true hin
 obtain ⟨W0, hW0⟩ : ∃ W, W = w.alloc (.cells #[.int .i64 dk, .bool df, .int .i64 dn, .string dt, .slice A4 dks.length c4, .slice A5 dkd.length c5] 34) := ⟨_, rfl⟩
 have hB0 : Below w.heap.size w W0 := by rw [hW0]; exact bel
 have HR0 := hid (show W0.heap[w.heap.size]? = some (.cells #[.int .i64 dk, .bool df, .int .i64 dn, .string dt, .slice A4 dks.length c4, .slice A5 dkd.length c5] 34 (0, 0)) by rw [hW0]; exact heap_at rfl)
 have HW0 := hid hW0
 have hbuf0 := hbuf.below hB0
 have hbW0 : base <= W0.heap.size := Nat.le_trans hbw hB0.size
 have hG0 := hid (Grb.of (.slice A nn c) hB0)
 have HBf0 := hid hbuf0
 have HbW := hid (HB00.out.trans (hB0.mono (Nat.le_trans hw0 hbw)))
 have Hbd := hid hbd
 clear hW0 hin hbd
 obtain ⟨x0, x1, x2, x3, x4, x5, xf⟩ := row6 HR0.out
 have l0 := row_lt HR0.out
 by_cases k1 : dk = 1
 ·subst k1
  have HX := hid (show r = litN from HS.out)
  obtain ⟨A6, c6, w5, hr5, h5, g5⟩ := bufN_str W0 base nn c A M ⟨#[110, 117, 108, 108]⟩ hbuf0 (by show nn + 4 <= _; omega) hbW0
  have H5 := hid (And.intro h5 (hG0.out.trans g5))
  clear h5 g5 hK hA
  go_enter Tryz.func86, Tryz.ntmps86
  go_upto_region 1 with fail
  rw [<- HW0.out]
  go_wp2_with (at_builtin; refine wpList_append_to rfl (.tmp 13) (.const (.string ⟨#[110, 117, 108, 108]⟩)) 28 9 rfl _ _ _ w5 rfl rfl hr5 ?_)
  go_ret
  rw [HX.out]
  exact ⟨A6, c6, rfl, H5.out.1, H5.out.2⟩
 by_cases k2 : dk = 2
 ·subst k2
  have HX := hid (show r = boolL df from HS.out)
  clear hK hA
  go_enter Tryz.func86, Tryz.ntmps86
  go_upto_region 1 with fail
  rw [<- HW0.out]
  go_wp2_with fail
  refine (c_AppendBool df W0 base nn c A M HBf0.out (by omega) hbW0).mono ?_
  rintro e w5 ⟨A6, c6, rfl, h5, g5⟩
  have H5 := hid (And.intro h5 (hG0.out.trans g5))
  clear h5 g5
  go_wp2_with fail
  go_ret
  rw [HX.out]
  exact ⟨A6, c6, rfl, H5.out.1, H5.out.2⟩
 by_cases k3 : dk = 3
 ·subst k3
  have HX := hid (show r = (decS dn).data.toList from HS.out)
  have hds := decS_size dn a2
  clear hK hA
  go_enter Tryz.func86, Tryz.ntmps86
  go_upto_region 1 with fail
  rw [<- HW0.out]
  go_wp2_with fail
  refine (c_impl_Decimal dn W0 a2 (HTP.out.2.below HbW.out)).mono ?_
  rintro e w4 ⟨rfl, hb4⟩
  obtain ⟨A6, c6, w5, hr5, h5, g5⟩ := bufN_str w4 base nn c A M (decS dn) (HBf0.out.below hb4) (by omega) (Nat.le_trans hbW0 hb4.size)
  have H5 := hid (And.intro h5 ((hG0.out.trans (Grb.of _ hb4)).trans g5))
  clear h5 g5 hb4
  go_wp2_with (at_builtin; refine wpList_append_to rfl (.tmp 23) (.tmp 26) 28 9 rfl _ _ _ w5 rfl rfl hr5 ?_)
  go_ret
  rw [HX.out, show (decS dn).data.toList.length = (decS dn).size from Array.length_toList]
  exact ⟨A6, c6, rfl, H5.out.1, H5.out.2⟩
 by_cases k4 : dk = 4
 ·subst k4
  have HX := hid (show r = (quoteB dt).data.toList from HS.out)
  have hds := quote_len dt
  have hqe : (quoteB dt).data.toList.length = (quoteB dt).size := Array.length_toList
  have hst : dt.size <= 400 := by
   have h2 := (shape_parts HSh.out).2.1
   unfold strB at h2
   simp only [Bool.and_eq_true, decide_eq_true_eq] at h2
   exact h2.1
  clear hK hA
  go_enter Tryz.func86, Tryz.ntmps86
  go_upto_region 1 with fail
  rw [<- HW0.out]
  go_wp2_with fail
  refine (c_impl_Quoted dt W0 (by omega) (HTP.out.1.below HbW.out)).mono ?_
  rintro e w4 ⟨rfl, hb4⟩
  obtain ⟨A6, c6, w5, hr5, h5, g5⟩ := bufN_str w4 base nn c A M (quoteB dt) (HBf0.out.below hb4) (by omega) (Nat.le_trans hbW0 hb4.size)
  have H5 := hid (And.intro h5 ((hG0.out.trans (Grb.of _ hb4)).trans g5))
  clear h5 g5 hb4 hqe
  go_wp2_with (at_builtin; refine wpList_append_to rfl (.tmp 30) (.tmp 33) 28 9 rfl _ _ _ w5 rfl rfl hr5 ?_)
  go_ret
  rw [HX.out, show (quoteB dt).data.toList.length = (quoteB dt).size from Array.length_toList]
  exact ⟨A6, c6, rfl, H5.out.1, H5.out.2⟩
 have e1 : (dk == 1) = false := beq_eq_false_iff_ne.2 k1
 have e2 : (dk == 2) = false := beq_eq_false_iff_ne.2 k2
 have e3 : (dk == 3) = false := beq_eq_false_iff_ne.2 k3
 have e4 : (dk == 4) = false := beq_eq_false_iff_ne.2 k4
 by_cases k5 : dk = 5
 ·subst k5
  have HX := hid (show r = [91] ++ itemsT (fun _ => []) (sayL n) dkd dkd.length ++ [93] from HS.out)
  obtain ⟨A6, c6, w5, hr5, h5, g5⟩ := bufN_lit W0 base nn c 1 A M [91] [.int .u8 91] hbuf0 rfl rfl (by omega) (by decide) hbW0
  have H5 := hid (And.intro h5 g5)
  have hrow5 := (g5.keep l0 (fun e => by have := (hbuf.lt e).2; omega)).trans HR0.out
  have HR5 := hid hrow5
  have hs5 := g5.grown.size
  clear h5 g5 hrow5 k1 k2 k3 k4
  go_enter Tryz.func86, Tryz.ntmps86
  go_upto_region 1 with fail
  rw [<- HW0.out]
  go_upto_region 14 with (at_builtin; refine wpList_append_of rfl (.tmp 38) (.tmp 40) 28 rfl _ _ _ w5 rfl rfl hr5 ?_)
  clear x0 x1 x2 x3 x4 x5 xf
  obtain ⟨x0, x1, x2, x3, x4, x5, xf⟩ := row6 HR5.out
  have l5 := row_lt HR5.out
  go_wp2_with fail
  go_loopw [0, 45] (fun s0 v wr => ∃ (k N : Nat) (A' : Option Addr) (c' : Nat), k <= dkd.length /\ v = .int .i64 k /\ s0 = .slice A' N c' /\ BufN base wr (M ++ ([91] ++ itemsT (fun _ => []) (sayL n) dkd k)) N (.slice A' N c') /\ Grb W0 (.slice A nn c) wr (.slice A' N c') /\ wr.heap[w.heap.size]? = some (.cells #[.int .i64 5, .bool df, .int .i64 dn, .string dt, .slice A4 dks.length c4, .slice A5 dkd.length c5] 34 (0, 0))) (fun _ v _ => dkd.length - (Lib.intOf v).toNat)
  case atStart => exact ⟨0, nn + 1, A6, c6, Nat.zero_le _, rfl, rfl, H5.out.1, H5.out.2, HR5.out⟩
  case round =>
   clear x0 x1 x2 x3 x4 x5 xf l5 hs5
   obtain ⟨k, N, A', c', hk, rfl, rfl, hbf, hgr, hT⟩ := hrel
   have HT := hid hT
   have HBf := hid hbf
   have HGr := hid hgr
   have hbr : Below base w wr := (hG0.out.trans hgr).below hbuf.2 hbw
   have hitl := items_len (pre := (fun _ => [])) (f := sayL n) (g := sizeT n) (l := dkd) (fun _ => Nat.zero_le _) (fun t ht => by
    obtain ⟨i, hi⟩ := List.getElem?_of_mem ht
    exact say_len n t (shape_kid HSh.out hi) (HNum.out.2 t ht)) k hk
   have hNl : N = nn + (1 + (itemsT (fun _ => []) (sayL n) dkd k).length) := by
    rw [hbf.1, List.length_append, List.length_append, <- hbuf.1]; rfl
   have hbwr : base <= wr.heap.size := Nat.le_trans hbW0 hgr.grown.size
   have HNl := hid hNl
   have hNb : N <= nn + 1 + 5000 * szL (sizeT n) (dkd.take k) := by omega
   clear hT hbf hgr hNl hitl
   obtain ⟨x0, x1, x2, x3, x4, x5, xf⟩ := row6 HT.out
   have l1 := row_lt HT.out
   by_cases hlt : k < dkd.length
   ·obtain ⟨p, o, rfl, -, hbl, hcell⟩ := hA (by omega)
    obtain ⟨t, ht⟩ := exists_at hlt
    obtain ⟨es, -, hcs, hC⟩ := hcell k t ht
    obtain ⟨eA4, ec4, eA5, ec5, rfl, ea0, ea2, ea3⟩ := hC.flat
    have hc0 := (hbr.cell (p := ⟨p, o + k * 6 + 0, none⟩) (by simp; omega)).trans (hcs 0 (by omega))
    simp at hc0
    have hc1 := (hbr.cell (p := ⟨p, o + k * 6 + 1, none⟩) (by simp; omega)).trans (hcs 1 (by omega))
    simp at hc1
    have hc2 := (hbr.cell (p := ⟨p, o + k * 6 + 2, none⟩) (by simp; omega)).trans (hcs 2 (by omega))
    simp at hc2
    have hc3 := (hbr.cell (p := ⟨p, o + k * 6 + 3, none⟩) (by simp; omega)).trans (hcs 3 (by omega))
    simp at hc3
    have hc4 := (hbr.cell (p := ⟨p, o + k * 6 + 4, none⟩) (by simp; omega)).trans (hcs 4 (by omega))
    simp at hc4
    have hc5 := (hbr.cell (p := ⟨p, o + k * 6 + 5, none⟩) (by simp; omega)).trans (hcs 5 (by omega))
    simp at hc5
    have hbr1 : p < wr.heap.size := by omega
    have hk0 : (0 : Int) <= k := by omega
    have hk1 : (k : Int) < dkd.length := by omega
    have hsk := HSk.out k t ht
    have HC := hid hC
    have HIt := hid (items_next (pre := (fun _ => [])) (f := sayL n) ht)
    have HSt := hid (shape_kid HSh.out ht)
    have hsayl := say_len n t (shape_kid HSh.out ht) (HNum.out.2 t (List.mem_of_getElem? ht))
    have hneA : ∀ q, (Value.slice A' N c').ownBlock = some q -> q ≠ w.heap.size /\ q < wr.heap.size := fun q hq => by
     refine ⟨?_, (HBf.out.lt hq).2⟩
     rcases HGr.out.at' q hq with h1 | h1
     ·have := (hbuf.lt h1).2
      omega
     ·have := row_lt HR0.out
      omega
    have HneA := hid hneA
    have hszk : N + 1 + 2404 + 5000 * sizeT n t <= 1073741824 := by omega
    have HKx := hid (trivial)
    clear hcs hcell hA hC ht hneA hK
    go_upto_if 51 with fail
    obtain ⟨wk, hwk⟩ : ∃ W, W = wr.alloc (.cells #[.int .i64 t.kind, .bool t.flag, .int .i64 t.num, .string t.text, .slice eA4 t.keys.length ec4, .slice eA5 t.kids.length ec5] 34) := ⟨_, rfl⟩
    have hbk : Below wr.heap.size wr wk := by rw [hwk]; exact bel
    have X8 : wk.heap[wr.heap.size]? = some (.cells #[.int .i64 t.kind, .bool t.flag, .int .i64 t.num, .string t.text, .slice eA4 t.keys.length ec4, .slice eA5 t.kids.length ec5] 34 (0, 0)) := by rw [hwk]; exact heap_at rfl
    rw [<- hwk]
    have HX8 := hid X8
    have HTk := hid ((hbk.block _ l1).trans HT.out)
    have HBk := hid (HBf.out.below hbk)
    have HGk := hid (HGr.out.trans (Grb.of (.slice A' N c') hbk))
    have hsk2 := hbk.size
    have hlk := row_lt X8
    clear hwk hbk X8 x0 x1 x2 x3 x4 x5 xf hc0 hc1 hc2 hc3 hc4 hc5
    go_cut [0] from 50 to 54 (fun s0 wx => ∃ (A1 : Option Addr) (c1 N1 : Nat), s0 = .slice A1 N1 c1 /\ N1 <= N + 1 /\ BufN base wx (M ++ ([91] ++ itemsT (fun _ => []) (sayL n) dkd k) ++ (if k = 0 then [] else [44])) N1 (.slice A1 N1 c1) /\ Grb wk (.slice A' N c') wx (.slice A1 N1 c1))
    case first =>
     by_cases hk00 : k = 0
     ·have d0 : decide (0 < k) = false := decide_eq_false (by omega)
      have dI : decide ((0 : Int) < k) = false := decide_eq_false (by omega)
      have HP := hid (show (if k = 0 then ([] : List UInt8) else [44]) = [] from if_pos hk00)
      have hp0 : ¬ 0 < k := by omega
      clear hk00 d0 dI
      go_wp2_with fail
      go_meet
      exact ⟨A', c', N, rfl, by omega, by rw [HP.out, List.append_nil]; exact HBk.out, Grb.of _ (Below.refl _ _)⟩
     ·have d0 : decide (0 < k) = true := decide_eq_true (by omega)
      have dI : decide ((0 : Int) < k) = true := decide_eq_true (by omega)
      have HP := hid (show (if k = 0 then ([] : List UInt8) else [44]) = [44] from if_neg hk00)
      have hp0 : 0 < k := by omega
      clear hk00 d0 dI
      obtain ⟨A7, c7, w7, hr7, h7, g7⟩ := bufN_lit wk base N c' 1 A' _ [44] [.int .u8 44] HBk.out rfl rfl (by omega) (by decide) (by omega)
      have H7 := hid (And.intro h7 g7)
      clear h7 g7
      go_wp2_with (at_builtin; refine wpList_append_of rfl (.tmp 52) (.tmp 53) 28 rfl _ _ _ w7 rfl rfl hr7 ?_)
      go_meet
      exact ⟨A7, c7, N + 1, rfl, Nat.le_refl _, by rw [HP.out]; exact H7.out.1, H7.out.2⟩
    case rest =>
     obtain ⟨A1, c1, N1, rfl, hN1, hb1, hg1⟩ := hcut
     have HT1 := hid ((hg1.keep (by omega) (fun e => (HneA.out _ e).1 rfl)).trans HTk.out)
     have HX1 := hid ((hg1.keep hlk (fun e => Nat.lt_irrefl _ (HneA.out _ e).2)).trans HX8.out)
     have HB1 := hid hb1
     have HG1 := hid hg1
     have hs1 := hg1.grown.size
     have HA1 := hid (show ∀ q, (Value.slice A1 N1 c1).ownBlock = some q -> q ≠ w.heap.size /\ q ≠ wr.heap.size from fun q hq => by
      rcases hg1.at' q hq with h1 | h1
      ·have := HneA.out q h1
       omega
      ·omega)
     clear hb1 hg1
     obtain ⟨x0, x1, x2, x3, x4, x5, xf⟩ := row6 HT1.out
     obtain ⟨y0, y1, y2, y3, y4, y5, yf⟩ := row6 HX1.out
     have lx := row_lt HT1.out
     have ly := row_lt HX1.out
     go_wp2_with fail
     refine (ih t _ wc w0 lo base N1 c1 A1 _ (HC.out.old (((hG0.out.trans HGk.out).trans (HG1.out)).below hbuf.2 hbw)) HSt.out (by omega) (by omega) HB1.out HTP.out.1 HTP.out.2 hw0 (HB00.out.trans ((((hG0.out.trans HGk.out).trans (HG1.out)).below hbuf.2 hbw).mono hw0))).mono ?_
     rintro e w9 ⟨A9, c9, rfl, h9, g9⟩
     have HT9 := hid ((g9.keep lx (fun e => (HA1.out _ e).1 rfl)).trans HT1.out)
     have H9 := hid h9
     have HG9 := hid ((HGk.out.trans (HG1.out)).trans g9)
     clear h9 g9
     go_wp2_with fail
     go_roundw
     case rel => exact ⟨k + 1, N1 + (sayL n t).length, A9, c9, by omega, by go_num, rfl, by rw [HIt.out]; simpa only [List.append_assoc, List.nil_append] using H9.out, HG9.out, HT9.out⟩
     case measure => simp [Lib.intOf]; omega
   ·obtain rfl : k = dkd.length := by omega
    have hke : decide (dkd.length < dkd.length) = false := decide_eq_false (Nat.lt_irrefl _)
    have hNz : N <= 1073741824 := by
     have := hNb
     rw [List.take_of_length_le (Nat.le_refl _)] at this
     have h2 : S = 1 + szL (sizeT n) dkd := HSz.out
     omega
    obtain ⟨A7, c7, w7, hr7, h7, g7⟩ := bufN_lit wr base N c' 1 A' _ [93] [.int .u8 93] HBf.out rfl rfl (by omega) (by decide) hbwr
    have H7 := hid (And.intro h7 (hG0.out.trans (HGr.out.trans g7)))
    have HN7 := hid (show N + 1 = nn + r.length by rw [HX.out, HNl.out]; simp only [List.length_append, List.length_cons, List.length_nil]; omega)
    clear h7 g7 hA hK
    go_wp2_with (at_builtin; refine wpList_append_of rfl (.tmp 71) (.tmp 73) 28 rfl _ _ _ w7 rfl rfl hr7 ?_)
    go_ret
    rw [<- HN7.out, HX.out]
    exact ⟨A7, c7, rfl, by rw [List.append_assoc] at H7; rw [<- HX.out] at *; exact H7.out.1, H7.out.2⟩
 ·have k6 : dk = 6 := by omega
  subst k6
  have HX := hid (show r = [123] ++ itemsT (preM dks) (sayL n) dkd dkd.length ++ [125] from HS.out)
  have HLL := hid (show dks.length = dkd.length by simpa using hls)
  clear hls
  obtain ⟨A6, c6, w5, hr5, h5, g5⟩ := bufN_lit W0 base nn c 1 A M [123] [.int .u8 123] hbuf0 rfl rfl (by omega) (by decide) hbW0
  have H5 := hid (And.intro h5 g5)
  have hrow5 := (g5.keep l0 (fun e => by have := (hbuf.lt e).2; omega)).trans HR0.out
  have HR5 := hid hrow5
  have hs5 := g5.grown.size
  clear h5 g5 hrow5 k1 k2 k3 k4
  go_enter Tryz.func86, Tryz.ntmps86
  go_upto_region 1 with fail
  rw [<- HW0.out]
  go_upto_region 14 with (at_builtin; refine wpList_append_of rfl (.tmp 38) (.tmp 40) 28 rfl _ _ _ w5 rfl rfl hr5 ?_)
  clear x0 x1 x2 x3 x4 x5 xf
  obtain ⟨x0, x1, x2, x3, x4, x5, xf⟩ := row6 HR5.out
  have l5 := row_lt HR5.out
  go_wp2_with fail
  go_loopw [0, 45] (fun s0 v wr => ∃ (k N : Nat) (A' : Option Addr) (c' : Nat), k <= dkd.length /\ v = .int .i64 k /\ s0 = .slice A' N c' /\ BufN base wr (M ++ ([123] ++ itemsT (preM dks) (sayL n) dkd k)) N (.slice A' N c') /\ Grb W0 (.slice A nn c) wr (.slice A' N c') /\ wr.heap[w.heap.size]? = some (.cells #[.int .i64 6, .bool df, .int .i64 dn, .string dt, .slice A4 dks.length c4, .slice A5 dkd.length c5] 34 (0, 0))) (fun _ v _ => dkd.length - (Lib.intOf v).toNat)
  case atStart => exact ⟨0, nn + 1, A6, c6, Nat.zero_le _, rfl, rfl, H5.out.1, H5.out.2, HR5.out⟩
  case round =>
   clear x0 x1 x2 x3 x4 x5 xf l5 hs5
   obtain ⟨k, N, A', c', hk, rfl, rfl, hbf, hgr, hT⟩ := hrel
   have HT := hid hT
   have HBf := hid hbf
   have HGr := hid hgr
   have hbr : Below base w wr := (hG0.out.trans hgr).below hbuf.2 hbw
   have hitl := items_len (pre := (preM dks)) (f := sayL n) (g := sizeT n) (l := dkd) (pre_len HSh.out) (fun t ht => by
    obtain ⟨i, hi⟩ := List.getElem?_of_mem ht
    exact say_len n t (shape_kid HSh.out hi) (HNum.out.2 t ht)) k hk
   have hNl : N = nn + (1 + (itemsT (preM dks) (sayL n) dkd k).length) := by
    rw [hbf.1, List.length_append, List.length_append, <- hbuf.1]; rfl
   have hbwr : base <= wr.heap.size := Nat.le_trans hbW0 hgr.grown.size
   have HNl := hid hNl
   have hNb : N <= nn + 1 + 5000 * szL (sizeT n) (dkd.take k) := by omega
   clear hT hbf hgr hNl hitl
   obtain ⟨x0, x1, x2, x3, x4, x5, xf⟩ := row6 HT.out
   have l1 := row_lt HT.out
   by_cases hlt : k < dkd.length
   ·obtain ⟨p, o, rfl, -, hbl, hcell⟩ := hA (by omega)
    obtain ⟨t, ht⟩ := exists_at hlt
    obtain ⟨es, -, hcs, hC⟩ := hcell k t ht
    obtain ⟨eA4, ec4, eA5, ec5, rfl, ea0, ea2, ea3⟩ := hC.flat
    have hc0 := (hbr.cell (p := ⟨p, o + k * 6 + 0, none⟩) (by simp; omega)).trans (hcs 0 (by omega))
    simp at hc0
    have hc1 := (hbr.cell (p := ⟨p, o + k * 6 + 1, none⟩) (by simp; omega)).trans (hcs 1 (by omega))
    simp at hc1
    have hc2 := (hbr.cell (p := ⟨p, o + k * 6 + 2, none⟩) (by simp; omega)).trans (hcs 2 (by omega))
    simp at hc2
    have hc3 := (hbr.cell (p := ⟨p, o + k * 6 + 3, none⟩) (by simp; omega)).trans (hcs 3 (by omega))
    simp at hc3
    have hc4 := (hbr.cell (p := ⟨p, o + k * 6 + 4, none⟩) (by simp; omega)).trans (hcs 4 (by omega))
    simp at hc4
    have hc5 := (hbr.cell (p := ⟨p, o + k * 6 + 5, none⟩) (by simp; omega)).trans (hcs 5 (by omega))
    simp at hc5
    have hbr1 : p < wr.heap.size := by omega
    have hk0 : (0 : Int) <= k := by omega
    have hk1 : (k : Int) < dkd.length := by omega
    have hsk := HSk.out k t ht
    have HC := hid hC
    have HIt := hid (items_next (pre := (preM dks)) (f := sayL n) ht)
    have HSt := hid (shape_kid HSh.out ht)
    have hsayl := say_len n t (shape_kid HSh.out ht) (HNum.out.2 t (List.mem_of_getElem? ht))
    have hneA : ∀ q, (Value.slice A' N c').ownBlock = some q -> q ≠ w.heap.size /\ q < wr.heap.size := fun q hq => by
     refine ⟨?_, (HBf.out.lt hq).2⟩
     rcases HGr.out.at' q hq with h1 | h1
     ·have := (hbuf.lt h1).2
      omega
     ·have := row_lt HR0.out
      omega
    have HneA := hid hneA
    have hszk : N + 1 + 2404 + 5000 * sizeT n t <= 1073741824 := by omega
    have HKx := hid (hK)
    clear hcs hcell hA hC ht hneA hK
    go_upto_if 51 with fail
    obtain ⟨wk, hwk⟩ : ∃ W, W = wr.alloc (.cells #[.int .i64 t.kind, .bool t.flag, .int .i64 t.num, .string t.text, .slice eA4 t.keys.length ec4, .slice eA5 t.kids.length ec5] 34) := ⟨_, rfl⟩
    have hbk : Below wr.heap.size wr wk := by rw [hwk]; exact bel
    have X8 : wk.heap[wr.heap.size]? = some (.cells #[.int .i64 t.kind, .bool t.flag, .int .i64 t.num, .string t.text, .slice eA4 t.keys.length ec4, .slice eA5 t.kids.length ec5] 34 (0, 0)) := by rw [hwk]; exact heap_at rfl
    rw [<- hwk]
    have HX8 := hid X8
    have HTk := hid ((hbk.block _ l1).trans HT.out)
    have HBk := hid (HBf.out.below hbk)
    have HGk := hid (HGr.out.trans (Grb.of (.slice A' N c') hbk))
    have hsk2 := hbk.size
    have hlk := row_lt X8
    clear hwk hbk X8 x0 x1 x2 x3 x4 x5 xf hc0 hc1 hc2 hc3 hc4 hc5
    go_cut [0] from 50 to 54 (fun s0 wx => ∃ (A1 : Option Addr) (c1 N1 : Nat), s0 = .slice A1 N1 c1 /\ N1 <= N + 1 /\ BufN base wx (M ++ ([123] ++ itemsT (preM dks) (sayL n) dkd k) ++ (if k = 0 then [] else [44])) N1 (.slice A1 N1 c1) /\ Grb wk (.slice A' N c') wx (.slice A1 N1 c1))
    case first =>
     by_cases hk00 : k = 0
     ·have d0 : decide (0 < k) = false := decide_eq_false (by omega)
      have dI : decide ((0 : Int) < k) = false := decide_eq_false (by omega)
      have HP := hid (show (if k = 0 then ([] : List UInt8) else [44]) = [] from if_pos hk00)
      have hp0 : ¬ 0 < k := by omega
      clear hk00 d0 dI
      go_wp2_with fail
      go_meet
      exact ⟨A', c', N, rfl, by omega, by rw [HP.out, List.append_nil]; exact HBk.out, Grb.of _ (Below.refl _ _)⟩
     ·have d0 : decide (0 < k) = true := decide_eq_true (by omega)
      have dI : decide ((0 : Int) < k) = true := decide_eq_true (by omega)
      have HP := hid (show (if k = 0 then ([] : List UInt8) else [44]) = [44] from if_neg hk00)
      have hp0 : 0 < k := by omega
      clear hk00 d0 dI
      obtain ⟨A7, c7, w7, hr7, h7, g7⟩ := bufN_lit wk base N c' 1 A' _ [44] [.int .u8 44] HBk.out rfl rfl (by omega) (by decide) (by omega)
      have H7 := hid (And.intro h7 g7)
      clear h7 g7
      go_wp2_with (at_builtin; refine wpList_append_of rfl (.tmp 52) (.tmp 53) 28 rfl _ _ _ w7 rfl rfl hr7 ?_)
      go_meet
      exact ⟨A7, c7, N + 1, rfl, Nat.le_refl _, by rw [HP.out]; exact H7.out.1, H7.out.2⟩
    case rest =>
     obtain ⟨A1, c1, N1, rfl, hN1, hb1, hg1⟩ := hcut
     have HT1 := hid ((hg1.keep (by omega) (fun e => (HneA.out _ e).1 rfl)).trans HTk.out)
     have HX1 := hid ((hg1.keep hlk (fun e => Nat.lt_irrefl _ (HneA.out _ e).2)).trans HX8.out)
     have HB1 := hid hb1
     have HG1 := hid hg1
     have hs1 := hg1.grown.size
     have HA1 := hid (show ∀ q, (Value.slice A1 N1 c1).ownBlock = some q -> q ≠ w.heap.size /\ q ≠ wr.heap.size from fun q hq => by
      rcases hg1.at' q hq with h1 | h1
      ·have := HneA.out q h1
       omega
      ·omega)
     clear hb1 hg1
     obtain ⟨x0, x1, x2, x3, x4, x5, xf⟩ := row6 HT1.out
     obtain ⟨y0, y1, y2, y3, y4, y5, yf⟩ := row6 HX1.out
     have lx := row_lt HT1.out
     have ly := row_lt HX1.out
     have hbwc := ((hG0.out.trans HGk.out).trans HG1.out).below hbuf.2 hbw
     obtain ⟨q, oq, rfl, -, hql, hqc⟩ := HKx.out (by have := HLL.out; omega)
     obtain ⟨s, hs⟩ := exists_at (show k < dks.length by have := HLL.out; omega)
     obtain ⟨es, -, hcs, rfl, hss⟩ := hqc k s hs
     have hkc := (hbwc.cell (p := ⟨q, oq + k * 1 + 0, none⟩) hql).trans (hcs 0 (by omega))
     simp at hkc
     have hqw : q < wc.heap.size := by have := hG0.out.grown.size; omega
     have hk2 : (k : Int) < dks.length := by have := HLL.out; omega
     have hs4 := shape_key HSh.out hs
     have hql2 := quote_len s
     have hqe : (quoteB s).data.toList.length = (quoteB s).size := Array.length_toList
     have hcat : (quoteB s ++ (⟨#[58]⟩ : ByteArray)).data.toList = (quoteB s).data.toList ++ [58] := by rw [ByteArray.data_append, Array.toList_append]
     have hcsz : (quoteB s ++ (⟨#[58]⟩ : ByteArray)).size = (quoteB s).size + 1 := by rw [ByteArray.size_append]; rfl
     have HPz := hid (show preM dks k = (quoteB s ++ (⟨#[58]⟩ : ByteArray)).data.toList by unfold preM; rw [hs, hcat])
     have HQC := hid (c_impl_Quoted s wc (by omega) (HTP.out.1.below (HB00.out.trans (hbwc.mono hw0))))
     have hb00 : (quoteB s ++ (⟨#[58]⟩ : ByteArray)).size <= 2403 := by omega
     have hb01 : (quoteB s).size <= 2402 := by omega
     clear hcs hqc hs hcat hqe hql2 hbwc
     go_wp2_with fail
     refine HQC.out.mono ?_
     rintro e w4 ⟨rfl, hb4⟩
     have hs44 := hb4.size
     obtain ⟨A2, c2, w5, hr5, h5, g5⟩ := bufN_str w4 base N1 c1 A1 _ (quoteB s ++ ⟨#[58]⟩) (HB1.out.below hb4) (by omega) (by omega)
     rw [hcsz] at hr5 h5 g5
     have HT5 := hid ((g5.keep (by omega) (fun e => (HA1.out _ e).1 rfl)).trans ((hb4.block _ lx).trans HT1.out))
     have HX5 := hid ((g5.keep (by omega) (fun e => (HA1.out _ e).2 rfl)).trans ((hb4.block _ ly).trans HX1.out))
     have HG5 := hid ((HG1.out.trans (Grb.of _ hb4)).trans g5)
     have HB5 := hid h5
     have hs55 := g5.grown.size
     have HA5 := hid (show ∀ q, (Value.slice A2 (N1 + ((quoteB s).size + 1)) c2).ownBlock = some q -> q ≠ w.heap.size from fun q hq => by
      rcases g5.at' q hq with h1 | h1
      ·exact (HA1.out q h1).1
      ·omega)
     clear h5 g5 hb4 hcsz hb00 x0 x1 x2 x3 x4 x5 xf y0 y1 y2 y3 y4 y5 yf
     obtain ⟨x0, x1, x2, x3, x4, x5, xf⟩ := row6 HT5.out
     obtain ⟨y0, y1, y2, y3, y4, y5, yf⟩ := row6 HX5.out
     have lx5 := row_lt HT5.out
     have ly5 := row_lt HX5.out
     go_wp2_with (at_builtin; refine wpList_append_to rfl (.tmp 58) (.tmp 65) 28 9 rfl _ _ _ w5 rfl rfl hr5 ?_)
     all_goals (try (exfalso; omega))
     refine (ih t _ w5 w0 lo base (N1 + ((quoteB s).size + 1)) c2 A2 _ (HC.out.old (((hG0.out.trans HGk.out).trans (HG5.out)).below hbuf.2 hbw)) HSt.out (by omega) (by omega) HB5.out HTP.out.1 HTP.out.2 hw0 (HB00.out.trans ((((hG0.out.trans HGk.out).trans (HG5.out)).below hbuf.2 hbw).mono hw0))).mono ?_
     rintro e w9 ⟨A9, c9, rfl, h9, g9⟩
     have HT9 := hid ((g9.keep lx5 (fun e => HA5.out _ e rfl)).trans HT5.out)
     have H9 := hid h9
     have HG9 := hid ((HGk.out.trans (HG5.out)).trans g9)
     clear h9 g9
     go_wp2_with fail
     go_roundw
     case rel => exact ⟨k + 1, (N1 + ((quoteB s).size + 1)) + (sayL n t).length, A9, c9, by omega, by go_num, rfl, by rw [HIt.out, HPz.out]; simpa only [List.append_assoc, List.nil_append] using H9.out, HG9.out, HT9.out⟩
     case measure => simp [Lib.intOf]; omega
   ·obtain rfl : k = dkd.length := by omega
    have hke : decide (dkd.length < dkd.length) = false := decide_eq_false (Nat.lt_irrefl _)
    have hNz : N <= 1073741824 := by
     have := hNb
     rw [List.take_of_length_le (Nat.le_refl _)] at this
     have h2 : S = 1 + szL (sizeT n) dkd := HSz.out
     omega
    obtain ⟨A7, c7, w7, hr7, h7, g7⟩ := bufN_lit wr base N c' 1 A' _ [125] [.int .u8 125] HBf.out rfl rfl (by omega) (by decide) hbwr
    have H7 := hid (And.intro h7 (hG0.out.trans (HGr.out.trans g7)))
    have HN7 := hid (show N + 1 = nn + r.length by rw [HX.out, HNl.out]; simp only [List.length_append, List.length_cons, List.length_nil]; omega)
    clear h7 g7 hA hK
    go_wp2_with (at_builtin; refine wpList_append_of rfl (.tmp 71) (.tmp 73) 28 rfl _ _ _ w7 rfl rfl hr7 ?_)
    go_ret
    rw [<- HN7.out, HX.out]
    exact ⟨A7, c7, rfl, by rw [List.append_assoc] at H7; rw [<- HX.out] at *; exact H7.out.1, H7.out.2⟩
theorem all_sayI : ∀ n, T_sayI n
 | 0 => fun _ _ _ _ _ _ _ _ _ _ h _ _ _ _ _ _ _ _ => (C_Tree.none h).elim
 | n + 1 => of_sayI n (all_sayI n)
theorem okT_parts {n : Nat} {d : TreeD} (h : okT n d = true) : sizeT n d <= 300 /\ shapeT n d = true := by
 unfold okT at h
 simp only [Bool.and_eq_true] at h
 exact ⟨of_decide_eq_true h.1.2, h.2⟩
theorem bufN_nil (base : Nat) (w : World) : BufN base w [] 0 (.slice none 0 0) := ⟨rfl, World.ownsRow_nil _ _ _ _⟩
theorem bufN_empty (w : World) (hB : ∀ {w : World} {e : TypeId} {size base B : Nat}, B = w.heap.size -> base <= w.heap.size -> (w.alloc (.cells #[] e)).ownsRow base e size (.slice (some ⟨B, 0, none⟩) 0 0) 0 []) (base : Nat) (hb : base <= w.heap.size) : BufN base (w.alloc (.cells #[] 5)) [] 0 (.slice (some ⟨w.heap.size, 0, none⟩) 0 0) := ⟨rfl, hB rfl hb⟩
theorem rd_all (l : List UInt8) : Rd ⟨l.toArray⟩ 0 l := by unfold Rd; simp
theorem size_list (l : List UInt8) : (⟨l.toArray⟩ : ByteArray).size = l.length := by show l.toArray.size = l.length; simp
theorem textF_good {l : List UInt8} (h : VU l) (hl : l.length <= 20000) : textF ⟨l.toArray⟩ = flt0 := by
 have h1 := h ⟨l.toArray⟩ 0 [] (by rw [List.append_nil]; exact rd_all l)
 have h3 : badAt ⟨l.toArray⟩ (0 + l.length) = -1 := badAt_end (by rw [size_list]; omega)
 rw [h3] at h1
 unfold textF
 rw [if_neg (by rw [size_list]; omega), h1, if_neg (by decide)]
theorem okT_deep {n : Nat} {d : TreeD} (h : okT n d = true) : depthT n d <= 8 := by
 unfold okT at h
 simp only [Bool.and_eq_true] at h
 exact of_decide_eq_true h.1.1
def textsI (l : List Int) : List UInt8 := l.flatMap fun x => (textB x).data.toList
theorem textsI_next {l : List Int} {k : Nat} {x : Int} (h : l[k]? = some x) : textsI (l.take (k + 1)) = textsI (l.take k) ++ (textB x).data.toList := by
 unfold textsI
 rw [take_next h, List.flatMap_append]
 simp
theorem textsI_len (l : List Int) : (textsI l).length <= 4 * l.length := by
 unfold textsI
 induction l with
 | nil => simp
 | cons x l ih =>
  have := textB_size x
  have h2 : (textB x).data.toList.length = (textB x).size := Array.length_toList
  rw [List.flatMap_cons, List.length_append, List.length_cons]
  omega
theorem c_spec_RunesText (l : List Int) (v : Value) (w : World) (lo : Nat) (hs : SlOf C_Int 1 lo w.heap.size w l v) (hI : ∀ x ∈ l, -9223372036854775808 <= x /\ x <= 9223372036854775807) (hn : l.length <= 1000) :
  Calls Tryz.prog 252 #[v] w fun e w' => e = .returned (.string ⟨(textsI l).toArray⟩) /\ Below w.heap.size w w' := by
 obtain ⟨A0, c0, rfl, hlc, hc, hA⟩ := hs
 have HI := hid hI
 have HA := hid hA
 clear hA hI
 go_enter Tryz.func252, Tryz.ntmps252
 go_wp2_with fail
 go_loopw [3, 4] (fun s i wr => ∃ (k n c : Nat) (A : Option Addr), k <= l.length /\ i = .int .i64 k /\ s = .slice A n c /\ BufN w.heap.size wr (textsI (l.take k)) n (.slice A n c) /\ Below w.heap.size w wr) (fun _ i _ => l.length - (intOf i).toNat)
 case atStart => exact ⟨0, 0, 0, _, Nat.zero_le _, rfl, rfl, bufN_empty w own_empty _ (Nat.le_refl _), bel⟩
 case round =>
  obtain ⟨k, n, c, A, hk, rfl, rfl, hbf, hbr⟩ := hrel
  have HBf := hid hbf
  have HBr := hid hbr
  have hws := hbr.size
  have htl := textsI_len (l.take k)
  rw [List.length_take] at htl
  have hnl : n <= 4000 := by have := hbf.1; omega
  clear htl
  clear hbf hbr
  by_cases hlt : k < l.length
  ·have hlt1 : (k : Int) < l.length := by omega
   have hk0 : (0 : Int) <= k := by omega
   obtain ⟨b, o, hb, hb1, hb2, hcell⟩ := HA.out (by omega)
   subst hb
   obtain ⟨x, hx⟩ := exists_at hlt
   obtain ⟨es, -, hes, rfl⟩ := hcell k x hx
   have hy : wr.cell? ⟨b, o + k, none⟩ = some (.int .i64 x) := by
    have := hes 0 (by omega)
    rw [HBr.out.cell (by simpa using hb2)]
    simpa using this
   have hxI := HI.out x (List.mem_of_getElem? hx)
   have HNx := hid (textsI_next hx)
   have htz := textB_size x
   clear hcell hes hx
   go_wp2_with fail
   refine (c_spec_RuneText x _ hxI).mono ?_
   rintro e w5 ⟨rfl, hb5⟩
   obtain ⟨A6, c6, w6, hr6, h6, g6⟩ := bufN_str w5 w.heap.size n c A _ (textB x) (HBf.out.below hb5) (by omega) (Nat.le_trans hws hb5.size)
   have hb6 := (HBr.out.trans (hb5.mono hws)).trans (g6.below (HBf.out.below hb5).2 (Nat.le_trans hws hb5.size))
   have H6 := hid (And.intro h6 hb6)
   clear h6 g6 hb6
   go_wp2_with (at_builtin; refine wpList_append_to rfl (.tmp 12) (.tmp 17) 28 9 rfl _ _ _ w6 rfl rfl hr6 ?_)
   go_roundw
   case rel => exact ⟨k + 1, n + (textB x).size, c6, A6, by omega, by go_num, rfl, by rw [HNx.out]; exact H6.out.1, H6.out.2⟩
   case measure => first | omega | (simp [Lib.intOf]; omega) | (simp [intOf]; omega)
  ·obtain rfl : k = l.length := by omega
   have HT := hid (show l.take l.length = l from List.take_length)
   have hcv := own_string HBf.out.1 HBf.out.2
   have hke : decide ((l.length : Int) < l.length) = false := decide_eq_false (by omega)
   rw [HT.out] at hcv
   go_wp2_with fail
   go_ret
   exact ⟨rfl, HBr.out⟩
end Go.Proofs.YtohcpifekcehjaaGreatDoor
