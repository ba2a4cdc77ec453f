/- Written by wip/tools/pack.py: the texts that FnExactPodTree needs, without what it does not need. No conditions. -/
import Derived.Test.YteecgklmdfockaaGreatDoorKFnExactPodTree19
import Derived.Lib.SliceRun
import Derived.Test.YteecgklmdfockaaGreatDoorKFnExactPodTree1
import Derived.Test.YteecgklmdfockaaGreatDoorKFnExactPodTree2
import Derived.Test.YteecgklmdfockaaGreatDoorKFnExactPodTree14
import Derived.Test.YteecgklmdfockaaGreatDoorKFnExactPodTree15
namespace Go.Proofs.YteecgklmdfockaaGreatDoor
open Go.RowKit
theorem compB_two {D : Type} (eq : D → D → Bool) (a b : D) (l : List D) : compB eq (a :: b :: l) = if eq b a then compB eq (b :: l) else a :: compB eq (b :: l) := rfl
theorem put_is_set (g : Nat) : ∀ (vs : List Value) (w : World) (o : Nat), putCells w g o vs = w.setCells g o vs
  | [], _, _ => rfl
  | v :: vs, w, o => put_is_set g vs (w.setCell ⟨g, o, none⟩ v) (o + 1)
theorem compB_snoc {D : Type} {eq : D → D → Bool} (he : ∀ a b, eq a b = true ↔ a = b) (a x : D) : ∀ l : List D, compB eq (l ++ [a, x]) = if eq x a then compB eq (l ++ [a]) else compB eq (l ++ [a]) ++ [x]
  | [] => by
    show compB eq [a, x] = if eq x a then compB eq [a] else compB eq [a] ++ [x]
    unfold compB
    by_cases h : eq x a = true
    · rw [if_pos h, if_pos h]
      have := (he x a).1 h
      subst this
      rfl
    · rw [if_neg h, if_neg h]
      rfl
  | [b] => by
    have ih := compB_snoc he a x []
    simp only [List.nil_append] at ih
    show compB eq (b :: a :: [x]) = if eq x a then compB eq (b :: a :: []) else compB eq (b :: a :: []) ++ [x]
    rw [compB_two eq b a [x], compB_two eq b a [], ih]
    by_cases h : eq x a = true <;> by_cases h2 : eq a b = true <;> simp [h, h2]
  | b :: c :: l => by
    have ih := compB_snoc he a x (c :: l)
    simp only [List.cons_append] at ih
    show compB eq (b :: c :: (l ++ [a, x])) = if eq x a then compB eq (b :: c :: (l ++ [a])) else compB eq (b :: c :: (l ++ [a])) ++ [x]
    rw [compB_two eq b c (l ++ [a, x]), compB_two eq b c (l ++ [a]), ih]
    by_cases h : eq x a = true <;> by_cases h2 : eq c b = true <;> simp [h, h2]
theorem take_last {D : Type} {l : List D} {m : Nat} {a : D} (hm : 0 < m) (ha : l[m - 1]? = some a) : l.take m = l.take (m - 1) ++ [a] := by
  have h := List.take_add_one (l := l) (i := m - 1)
  rw [show m - 1 + 1 = m by omega, ha] at h
  exact h
theorem compB_take {D : Type} {eq : D → D → Bool} (he : ∀ a b, eq a b = true ↔ a = b) {l : List D} {m : Nat} {a x : D} (hm : 0 < m) (ha : l[m - 1]? = some a) (hx : l[m]? = some x) :
    compB eq (l.take (m + 1)) = if eq x a then compB eq (l.take m) else compB eq (l.take m) ++ [x] := by
  have h := compB_snoc he a x (l.take (m - 1))
  rw [← take_last hm ha] at h
  rw [← h]
  congr 1
  rw [List.take_add_one, hx, take_last hm ha]
  simp
structure CompL {D : Type} (eq : D → D → Bool) (l : List D) (m kk : Nat) (L : List D) : Prop where
  size : L.length = l.length
  low : L.take kk = compB eq (l.take m)
  lt : kk < m
  high : ∀ j, kk ≤ j → L[j]? = l[j]?
theorem CompL.skip {D : Type} {eq : D → D → Bool} (he : ∀ a b, eq a b = true ↔ a = b) {l L : List D} {m kk : Nat} {a x : D} (h : CompL eq l m kk L) (ha : l[m - 1]? = some a) (hx : l[m]? = some x) (hd : eq x a = true) : CompL eq l (m + 1) kk L :=
  ⟨h.size, by rw [compB_take he (Nat.zero_lt_of_lt h.lt) ha hx, if_pos hd, h.low], Nat.lt_succ_of_lt h.lt, h.high⟩
theorem CompL.keep {D : Type} {eq : D → D → Bool} (he : ∀ a b, eq a b = true ↔ a = b) {l L : List D} {m kk : Nat} {a x : D} (h : CompL eq l m kk L) (ha : l[m - 1]? = some a) (hx : l[m]? = some x) (hd : eq x a = false) : CompL eq l (m + 1) (kk + 1) (L.set kk x) := by
  have hml := (List.getElem?_eq_some_iff.1 hx).1
  have hlt := h.lt
  have hsz := h.size
  refine ⟨by rw [List.length_set, h.size], ?_, by omega, fun j hj => ?_⟩
  · rw [compB_take he (by omega) ha hx, hd]
    simp only [Bool.false_eq_true, if_false]
    rw [← h.low, List.take_add_one, List.getElem?_set_self (by omega)]
    congr 1
    apply List.ext_getElem?
    intro i
    rw [List.getElem?_take, List.getElem?_take]
    split
    · rw [List.getElem?_set_ne (by omega)]
    · rfl
  · rw [List.getElem?_set_ne (by omega)]
    exact h.high j (by omega)
theorem CompL.len {D : Type} {eq : D → D → Bool} {l L : List D} {m kk : Nat} (h : CompL eq l m kk L) (hm : m ≤ l.length) : (compB eq (l.take m)).length = kk := by
  rw [← h.low, List.length_take, h.size]
  have := h.lt
  omega
/-- A member stored. -/
theorem RowE.store {D : Type} {enc : D → List Value} {sz ty base g n c k : Nat} {w : World} {l : List D} {x : D} (hk : ∀ d, (enc d).length = sz) (hs : 0 < sz) (h : RowE enc sz ty base w l (.slice (some ⟨g, 0, none⟩) n c)) (hkl : k < l.length) :
    RowE enc sz ty base (w.setCells g (k * sz) (enc x)) (l.set k x) (.slice (some ⟨g, 0, none⟩) n c) := by
  obtain ⟨rfl, hb, h1, h2, cur, hg, hcs, hrow⟩ := h.at hk
  have hcell : (k + 1) * sz ≤ l.length * sz := Nat.mul_le_mul_right _ hkl
  have hlc : l.length * sz ≤ c * sz := Nat.mul_le_mul_right _ h1
  rw [Nat.succ_mul] at hcell
  have hput : (w.setCells g (k * sz) (enc x)).heap[g]? = some (.cells (putAt cur (k * sz) (enc x)) ty (0, 0)) := by rw [← put_is_set]; exact heap_putCells (enc x) w g (k * sz) cur ty hg
  refine ⟨by rw [flatE_len hk], .inr ⟨g, c, _, by rw [List.length_set], hb, hput, by rw [List.length_set]; exact h1, by unfold maxLen; omega, by rw [size_putAt, hcs], ?_⟩⟩
  apply List.ext_getElem?
  intro i
  rw [List.length_set, List.getElem?_take]
  by_cases hi : i < l.length * sz
  · rw [if_pos hi, Array.getElem?_toList]
    have hi2 : i / sz < l.length := by rwa [Nat.div_lt_iff_lt_mul hs]
    have h3 : i / sz * sz + i % sz = i := by rw [Nat.mul_comm]; exact Nat.div_add_mod i sz
    have hm := Nat.mod_lt i hs
    by_cases he : i / sz = k
    · have h4 := flatE_at hk (l := l.set k x) (i := k) (d := x) (by rw [List.getElem?_set_self hkl]) hm
      have h6 : k * sz + i % sz = i := by rw [← he]; exact h3
      rw [h6] at h4
      rw [h4]
      have h7 := get_putAt (enc x) cur (k * sz) (i % sz) (by rw [hk]; exact hm) (by rw [hk]; omega)
      rw [h6] at h7
      exact h7
    · obtain ⟨d, hd⟩ := exists_at hi2
      have h4 := flatE_at hk (l := l.set k x) (i := i / sz) (d := d) (by rw [List.getElem?_set_ne (fun e => he e.symm)]; exact hd) hm
      rw [h3] at h4
      have h5 := hrow _ d hd _ hm
      rw [h3] at h5
      rw [h4, ← h5]
      rcases Nat.lt_or_gt_of_ne he with hlt | hgt
      · refine get_putAt_lt _ _ _ _ ?_
        have : (i / sz + 1) * sz ≤ k * sz := Nat.mul_le_mul_right _ hlt
        rw [Nat.succ_mul] at this
        omega
      · refine get_putAt_ge _ _ _ _ ?_
        have : (k + 1) * sz ≤ i / sz * sz := Nat.mul_le_mul_right _ hgt
        rw [Nat.succ_mul] at this
        rw [hk]
        omega
  · rw [if_neg hi, List.getElem?_eq_none (by rw [flatE_len hk, List.length_set]; omega)]
end Go.Proofs.YteecgklmdfockaaGreatDoor
namespace Go.Proofs.YteecgklmdfockaaGreatDoor
open Go.RowKit
structure NeedV where
  d : Need
  A : Option Addr
  c : Nat
def encN (x : NeedV) : List Value := [.string x.d.key, .int .i64 x.d.op, .slice x.A x.d.values.length x.c]
def C_E (x : NeedV) (es : List Value) : Prop := es = encN x
theorem encN_C (x : NeedV) (es : List Value) (h : C_E x es) : es = encN x := h
def GoodN (lo hi : Nat) (w : World) (x : NeedV) : Prop := x.d.key.size ≤ 9223372036854775807 ∧ I64 x.d.op ∧ Sl_Str lo hi w x.d.values (.slice x.A x.d.values.length x.c)
def OwnN (base : Nat) (w : World) (x : NeedV) : Prop :=
  x.d.key.size ≤ 9223372036854775807 ∧ I64 x.d.op ∧ (∀ s ∈ x.d.values, s.size ≤ 9223372036854775807) ∧ RowE encS 1 9 base w x.d.values (.slice x.A x.d.values.length x.c)
def AllN (base : Nat) (w : World) (L : List NeedV) : Prop := ∀ x ∈ L, OwnN base w x
theorem OwnN.carry {base : Nat} {w w' : World} {x : NeedV} (h : OwnN base w x) (hs : ∀ q, (Value.slice x.A x.d.values.length x.c).ownBlock = some q → w'.heap[q]? = w.heap[q]?) : OwnN base w' x :=
  ⟨h.1, h.2.1, h.2.2.1, h.2.2.2.carry hs⟩
theorem OwnN.below {base : Nat} {w w' : World} {x : NeedV} (h : OwnN base w x) (hb : Below w.heap.size w w') : OwnN base w' x := ⟨h.1, h.2.1, h.2.2.1, h.2.2.2.below hb⟩
theorem OwnN.less {base base' : Nat} {w : World} {x : NeedV} (h : OwnN base w x) (hb : base' ≤ base) : OwnN base' w x := ⟨h.1, h.2.1, h.2.2.1, h.2.2.2.less hb⟩
theorem AllN.below {base : Nat} {w w' : World} {L : List NeedV} (h : AllN base w L) (hb : Below w.heap.size w w') : AllN base w' L := fun x hx => (h x hx).below hb
theorem AllN.less {base base' : Nat} {w : World} {L : List NeedV} (h : AllN base w L) (hb : base' ≤ base) : AllN base' w L := fun x hx => (h x hx).less hb
/-- An append to the row itself leaves the members' own rows as they are. -/
theorem AllN.grown {base base' : Nat} {w w' : World} {L L' : List NeedV} {v : Value} (h : AllN base w L) (hr : RowE encN 3 84 base' w L' v) (hg : w.grownBy w' v.ownBlock) (ht : 9 ≠ 84) : AllN base w' L := fun x hx =>
  (h x hx).carry (fun q hq => hg.block q (World.ownsRow.lt (h x hx).2.2.2 q hq).2 (fun e => own_apart (h x hx).2.2.2 hr ht q hq e.symm))
theorem slOf_map {D E : Type} {C : D → List Value → Prop} {C' : E → List Value → Prop} {sz lo hi : Nat} {w : World} {l : List D} {v : Value} (f : D → E) (h : SlOf C sz lo hi w l v) (hC : ∀ x es, x ∈ l → C x es → C' (f x) es) : SlOf C' sz lo hi w (l.map f) v := by
  obtain ⟨A, c, rfl, h1, h2, h3⟩ := h
  refine ⟨A, c, by rw [List.length_map], by rw [List.length_map]; exact h1, h2, fun hp => ?_⟩
  rw [List.length_map] at hp
  obtain ⟨b, o, rfl, h4, h5, h6⟩ := h3 hp
  refine ⟨b, o, rfl, h4, h5, fun i d hd => ?_⟩
  rw [List.getElem?_map] at hd
  obtain ⟨x, hx, rfl⟩ := Option.map_eq_some_iff.1 hd
  obtain ⟨cs, e1, e2, e3⟩ := h6 i x hx
  exact ⟨cs, e1, e2, hC x cs (List.mem_of_getElem? hx) e3⟩
theorem sl_needs {lo hi : Nat} {w : World} {L : List NeedV} {v : Value} (h : SlOf C_E 3 lo hi w L v) (hg : ∀ x ∈ L, GoodN lo hi w x) : Sl_Need lo hi w (L.map (·.d)) v :=
  slOf_map (·.d) h (fun x es hx he => by
    obtain ⟨g1, g2, g3⟩ := hg x hx
    exact ⟨_, he, g1, g2, g3⟩)
theorem GoodN.now {lo : Nat} {w w' : World} {x : NeedV} (h : GoodN lo w.heap.size w x) (hb : Below w.heap.size w w') : GoodN lo w'.heap.size w' x := ⟨h.1, h.2.1, Sl_Str.now h.2.2 hb⟩
end Go.Proofs.YteecgklmdfockaaGreatDoor
namespace Go.Proofs.YteecgklmdfockaaGreatDoor
open Go.RowKit
/-- The block of a member's values. -/
def NeedV.blk (x : NeedV) : Option Nat := (Value.slice x.A x.d.values.length x.c).ownBlock
/-- No two members have their values in one block. -/
def ApartN (L : List NeedV) : Prop := L.Pairwise (fun x y => ∀ q, x.blk = some q → y.blk ≠ some q)
theorem apart_snoc {L : List NeedV} {x : NeedV} {B : Nat} (h : ApartN L) (hL : ∀ y ∈ L, ∀ q, y.blk = some q → q < B) (hx : ∀ q, x.blk = some q → B ≤ q) : ApartN (L ++ [x]) := by
  unfold ApartN
  rw [List.pairwise_append]
  refine ⟨h, List.pairwise_singleton _ _, fun a ha b hb q h1 h2 => ?_⟩
  rw [List.mem_singleton] at hb
  subst hb
  have := hL a ha q h1
  have := hx q h2
  omega
theorem apart_at {L : List NeedV} (h : ApartN L) {i j : Nat} {x y : NeedV} (hi : L[i]? = some x) (hj : L[j]? = some y) (hij : i ≠ j) {q : Nat} (hq : x.blk = some q) : y.blk ≠ some q := by
  unfold ApartN at h
  rw [List.pairwise_iff_getElem] at h
  obtain ⟨hi1, rfl⟩ := List.getElem?_eq_some_iff.1 hi
  obtain ⟨hj1, rfl⟩ := List.getElem?_eq_some_iff.1 hj
  rcases Nat.lt_or_gt_of_ne hij with hlt | hgt
  · exact h i j hi1 hj1 hlt q hq
  · exact fun h2 => h j i hj1 hi1 hgt q h2 hq
theorem apart_set {L : List NeedV} {k : Nat} {x y : NeedV} (h : ApartN L) (hx : L[k]? = some x) (hy : y.blk = x.blk) : ApartN (L.set k y) := by
  have hk : k < L.length := (List.getElem?_eq_some_iff.1 hx).1
  unfold ApartN
  rw [List.pairwise_iff_getElem]
  intro i j hi hj hij q h1 h2
  rw [List.length_set] at hi hj
  have gi := List.getElem?_eq_getElem (l := L) hi
  have gj := List.getElem?_eq_getElem (l := L) hj
  rw [List.getElem_set] at h1 h2
  by_cases e1 : k = i
  · rw [if_pos e1] at h1
    rw [if_neg (by omega)] at h2
    rw [hy] at h1
    exact apart_at h hx gj (by omega) h1 h2
  · rw [if_neg e1] at h1
    by_cases e2 : k = j
    · rw [if_pos e2] at h2
      rw [hy] at h2
      exact apart_at h gi hx (by omega) h1 h2
    · rw [if_neg e2] at h2
      exact apart_at h gi gj (by omega) h1 h2
end Go.Proofs.YteecgklmdfockaaGreatDoor
namespace Go.Proofs.YteecgklmdfockaaGreatDoor
open Go.RowKit
theorem c_laws_toStringSP (l : List ByteArray) (v : Value) (w : World) (lo : Nat) (hs : Sl_Str lo w.heap.size w l v) (hn : l.length ≤ 1048576) :
    Calls Tryz.prog 120 #[v] w fun e w' => ∃ A c, e = .returned (.slice A l.length c) ∧ OwnS (fun b => w.heap.size ≤ b ∧ b < w'.heap.size) w' l (.slice A l.length c) ∧ (∀ q, (Value.slice A l.length c).ownBlock = some q → w.heap.size ≤ q ∧ q < w'.heap.size) ∧ Below w.heap.size w w' := by
  obtain ⟨A, c, rfl, hlc, hc, hA⟩ := hs
  have hmk := run_make_slice (P := Tryz.prog) (z := .string ⟨#[]⟩) (size := 1) (bytes := 16) Tryz.underlying27 (by kernel_rfl) l.length (by omega) (by omega)
  go_enter Tryz.func120, Tryz.ntmps120
  go_wp2_with fail
  go_loopw [4] (fun i wr => ∃ (k : Nat) (cs : Array Value), k ≤ l.length ∧ i = .int .i64 k ∧ Below w.heap.size w wr ∧ wr.heap[w.heap.size]? = some (.cells cs 9 (0, 0)) ∧ Part C_Str 1 l k cs) (fun i _ => l.length - (intOf i).toNat)
  case atStart => exact ⟨0, _, Nat.zero_le _, rfl, bel, heap_alloc_new _ _, Part.zero (by simp [size_madeCells])⟩
  case round =>
    obtain ⟨k, cs, hk, rfl, hbr, hg, hp⟩ := hrel
    by_cases hlt : k < l.length
    · obtain ⟨b, o, rfl, -, hb2, hcell⟩ := hA (by omega)
      obtain ⟨d, hd⟩ := exists_at hlt
      obtain ⟨es, -, hcs, rfl, hk1⟩ := hcell k d hd
      have hc0 := (hbr.cell (p := ⟨b, o + k * 1 + 0, none⟩) (by simp; omega)).trans (hcs 0 (by omega))
      simp at hc0
      obtain ⟨x0, hx0⟩ := row_cell hg (o := k * 1 + 0) (by rw [hp.1]; omega)
      have hf0 := frozen_row hg (k * 1 + 0)
      simp at hx0 hf0
      clear hcs hcell hA
      go_wp2_with fail
      go_roundw
      case rel => exact ⟨k + 1, putAt cs k [.string d], by omega, by go_num, bel, heap_putCells [.string d] _ _ _ _ _ hg, by simpa using hp.store hd rfl ⟨rfl, hk1⟩⟩
      case measure => simp [intOf]; omega
    · obtain rfl : k = l.length := by omega
      clear hA
      go_wp2_with fail
      go_ret
      refine ⟨_, _, rfl, ⟨_, _, rfl, Nat.le_refl _, by omega, fun _ => ⟨w.heap.size, cs, rfl, ⟨Nat.le_refl _, row_lt hg⟩, hg, fun i s hi => ?_⟩⟩, fun q hq => by simp [Value.ownBlock] at hq; have := row_lt hg; omega, bel⟩
      obtain ⟨es, -, e2, rfl, e3⟩ := hp.2 i s (List.getElem?_eq_some_iff.1 hi).1 hi
      exact ⟨by simpa using e2 0 (by omega), e3⟩
set_option maxHeartbeats 1000000 in
theorem c_laws_toNeedP (d : Need) (cs : List Value) (w : World) (lo : Nat) (h : C_Need lo w.heap.size w d cs) (hn : nNeed d ≤ 1048576) :
    Calls Tryz.prog 96 #[.agg cs.toArray] w fun e w' => ∃ B b, e = .returned (.agg #[.string d.key, .int .i64 d.op, .slice B d.values.length b]) ∧ OwnS (fun q => w.heap.size ≤ q ∧ q < w'.heap.size) w' d.values (.slice B d.values.length b) ∧ (∀ q, (Value.slice B d.values.length b).ownBlock = some q → w.heap.size ≤ q ∧ q < w'.heap.size) ∧ Below w.heap.size w w' := by
  obtain ⟨v2, rfl, a0, a1, a2⟩ := h
  obtain ⟨A2, c2, rfl⟩ := a2.form
  unfold I64 at a1
  unfold nNeed at hn
  have m2 : d.values.length ≤ 1048576 := by have := nL_def ByteArray.size d.values; omega
  go_enter Tryz.func96, Tryz.ntmps96
  go_wp2_with fail
  refine (c_laws_toStringSP _ _ _ _ (Sl_Str.now (by assumption) bel) (by omega)).mono ?_
  rintro e w2 ⟨B2, b2, rfl, r2, rq, hb⟩
  have HR := Lib.hid r2
  have HQ := Lib.hid rq
  clear r2 rq
  (first | (have hcu2 := Cum.join hcu hb; (try clear hcu); (try clear hc); (try clear hfz); (try clear hsz); (try clear hs0); (try clear hs1); (try clear hs2); (try clear hs3); (try clear hs4); ) | have hcu2 := Cum.mk hb); have hcu := hcu2; clear hcu2; obtain ⟨hc, hfz⟩ := bcell hcu.h; have hsz := hcu.h.size; (try simp at hsz); (try have hs0 := lt_of_succ_le hsz); (try (have hs1 := lt_pred hsz; (try (have hs2 := lt_pred hs1; (try (have hs3 := lt_pred hs2; (try have hs4 := lt_pred hs3)))))))
  have st2 := hb.size
  (try simp at st2)
  go_wp2_with fail
  exact bodyPost_ret (v := .agg #[.string d.key, .int .i64 d.op, .slice B2 d.values.length b2]) (by simp only [results, Tryz.results96]; go_simp) rfl ⟨B2, b2, rfl, HR.out.carry (fun q hq => Aside.block (S := fun i => i = w.heap.size + 1 ∨ i = w.heap.size + 1 + 1) (w := w2) (by repeat (first | (with_reducible exact Aside.refl _ _) | ((with_reducible refine aside_set ?_ ?_); (focus (simp; done))) | (with_reducible refine aside_alloc ?_))) q hq.2 (by have := hq.1; simp at this; omega)) (fun q hq => by have h1 := hq.1; have h2 := hq.2; simp at h1 ⊢; omega), fun q hq => by have h1 := (HQ.out q hq).1; have h2 := (HQ.out q hq).2; simp at h1 ⊢; omega, bel⟩
def OwnM (S : Nat → Prop) (w : World) (x : NeedV) : Prop := x.d.key.size ≤ 9223372036854775807 ∧ I64 x.d.op ∧ OwnS (fun b => 0 < x.d.values.length ∧ x.blk = some b ∧ S b) w x.d.values (.slice x.A x.d.values.length x.c)
/-- A row of requirements in blocks of S: no two members have their values in one block. -/
def OwnL (S : Nat → Prop) (w : World) (L : List NeedV) (v : Value) : Prop := OwnR C_E 3 84 S w L v ∧ ApartN L ∧ ∀ x ∈ L, OwnM S w x
theorem OwnM.carry {S S' : Nat → Prop} {w w' : World} {x : NeedV} (h : OwnM S w x) (hs : ∀ b, S b → w'.heap[b]? = w.heap[b]?) (hS : ∀ b, S b → S' b) : OwnM S' w' x :=
  ⟨h.1, h.2.1, h.2.2.carry (fun b hb => hs b hb.2.2) (fun b hb => ⟨hb.1, hb.2.1, hS b hb.2.2⟩)⟩
theorem OwnL.carry {S S' : Nat → Prop} {w w' : World} {L : List NeedV} {v : Value} (h : OwnL S w L v) (hs : ∀ b, S b → w'.heap[b]? = w.heap[b]?) (hS : ∀ b, S b → S' b) : OwnL S' w' L v :=
  ⟨h.1.carry hs hS, h.2.1, fun x hx => (h.2.2 x hx).carry hs hS⟩
theorem OwnL.toC {lo hi : Nat} {S : Nat → Prop} {w : World} {L : List NeedV} {v : Value} (h : OwnL S w L v) (hS : ∀ b, S b → lo ≤ b ∧ b < hi) : Sl_Need lo hi w (L.map (·.d)) v :=
  sl_needs (h.1.toC hS) (fun x hx => ⟨(h.2.2 x hx).1, (h.2.2 x hx).2.1, (h.2.2 x hx).2.2.toC (fun b hb => hS b hb.2.2)⟩)
theorem RowAt.push {D : Type} {C : D → List Value → Prop} {sz : Nat} {cur : Array Value} {l : List D} (h : RowAt C sz cur l) {d : D} {es : List Value} (hl : es.length = sz) (hC : C d es) (hk : l.length * sz + sz ≤ cur.size) : RowAt C sz (putAt cur (l.length * sz) es) (l ++ [d]) := by
  intro i x hx
  by_cases hi : i < l.length
  · rw [List.getElem?_append_left hi] at hx
    obtain ⟨es', e1, e2, e3⟩ := h i x hx
    refine ⟨es', e1, fun j hj => ?_, e3⟩
    have : (i + 1) * sz ≤ l.length * sz := Nat.mul_le_mul_right _ hi
    rw [Nat.succ_mul] at this
    rw [get_putAt_lt _ _ _ _ (by omega)]
    exact e2 j hj
  · have he : i = l.length := by
      have := (List.getElem?_eq_some_iff.1 hx).1
      simp at this
      omega
    subst he
    rw [List.getElem?_append_right (Nat.le_refl _), Nat.sub_self] at hx
    obtain rfl := Option.some.inj hx
    exact ⟨es, hl, fun j hj => get_putAt es cur _ j (by omega) (by omega), hC⟩
def blkIn (lo hi : Nat) (x : NeedV) : Prop := ∀ q, x.blk = some q → lo ≤ q ∧ q < hi
set_option maxHeartbeats 2000000 in
set_option maxRecDepth 10000 in
theorem c_laws_toNeedSO (l : List Need) (v : Value) (w : World) (lo : Nat) (hs : Sl_Need lo w.heap.size w l v) (hn : nL nNeed l ≤ 1048576) :
    Calls Tryz.prog 51 #[v] w fun e w' => ∃ (L : List NeedV) (A : Option Addr) (c : Nat), e = .returned (.slice A l.length c) ∧ L.map (·.d) = l ∧ OwnL (fun b => w.heap.size ≤ b ∧ b < w'.heap.size) w' L (.slice A l.length c) ∧ Below w.heap.size w w' := by
  obtain ⟨A, c, rfl, hlc, hc, hA⟩ := hs
  have hlen : l.length ≤ 1048576 := by have := nL_def nNeed l; omega
  have hmk := run_make_slice (P := Tryz.prog) (z := .agg #[.string ⟨#[]⟩, .int .i64 0, .slice none 0 0]) (size := 3) (bytes := 48) Tryz.underlying48 (by kernel_rfl) l.length (by omega) (by omega)
  go_enter Tryz.func51, Tryz.ntmps51
  go_wp2_with fail
  go_loopw [4] (fun i wr => ∃ (k : Nat) (cs : Array Value) (L : List NeedV), k ≤ l.length ∧ L.length = k ∧ L.map (·.d) = l.take k ∧ i = .int .i64 k ∧ Below w.heap.size w wr ∧ wr.heap[w.heap.size]? = some (.cells cs 84 (0, 0)) ∧ cs.size = l.length * 3 ∧ RowAt C_E 3 cs L ∧ ApartN L ∧ (∀ x ∈ L, OwnM (fun b => w.heap.size + 1 ≤ b ∧ b < wr.heap.size) wr x ∧ blkIn (w.heap.size + 1) wr.heap.size x)) (fun i _ => l.length - (intOf i).toNat)
  case atStart => exact ⟨0, _, [], Nat.zero_le _, rfl, rfl, rfl, bel, heap_alloc_new _ _, by simp [size_madeCells], fun i d h => by simp at h, List.Pairwise.nil, fun x hx => by simp at hx⟩
  case round =>
    obtain ⟨k, cs, L, hk, hLk, hLm, rfl, hbr, hg, hcz, hrow, hap, hmem⟩ := hrel
    have HLm := Lib.hid hLm
    have HRow := Lib.hid hrow
    have HAp := Lib.hid hap
    have HMem := Lib.hid hmem
    have HCz := Lib.hid hcz
    have HLk := Lib.hid hLk
    clear hLm hrow hap hmem
    by_cases hlt : k < l.length
    · obtain ⟨b, o, rfl, -, hb2, hcell⟩ := hA (by omega)
      obtain ⟨d, hd⟩ := exists_at hlt
      obtain ⟨es, -, hcs, hC⟩ := hcell k d hd
      have hC' := hC
      obtain ⟨ev2, rfl, ea0, ea1, ea2⟩ := hC'
      obtain ⟨eA2, ec2, rfl⟩ := ea2.form
      have hc0 := (hbr.cell (p := ⟨b, o + k * 3 + 0, none⟩) (by simp; omega)).trans (hcs 0 (by omega))
      have hc1 := (hbr.cell (p := ⟨b, o + k * 3 + 1, none⟩) (by simp; omega)).trans (hcs 1 (by omega))
      have hc2 := (hbr.cell (p := ⟨b, o + k * 3 + 2, none⟩) (by simp; omega)).trans (hcs 2 (by omega))
      simp at hc0 hc1 hc2
      have hgl := row_lt hg
      have hbl : b < wr.heap.size := Nat.lt_of_lt_of_le hb2 hbr.size
      have hnd : nNeed d ≤ 1048576 := by have := nL_def nNeed l; have := szL_take_succ nNeed l k d hd; have := szL_take_le nNeed l (k+1); omega
      have hk0 : (0 : Int) ≤ k := by omega
      have hk1 : (k : Int) < l.length := by omega
      have Hd := Lib.hid hd
      have HC := Lib.hid (C_Need.now hC hbr)
      clear hcs hcell hA hd hC hcz hLk
      go_wp2_with fail
      refine (c_laws_toNeedP d [.string d.key, .int .i64 d.op, .slice eA2 d.values.length ec2] _ _ HC.out hnd).mono ?_
      rintro e w1 ⟨fA2, fc2, rfl, hO, hQ, hb⟩
      have hs1 := hb.size
      have hg1 := (hb.block _ hgl).trans hg
      obtain ⟨x0, hx0⟩ := row_cell hg1 (o := k * 3 + 0) (by rw [HCz.out]; omega)
      obtain ⟨x1, hx1⟩ := row_cell hg1 (o := k * 3 + 1) (by rw [HCz.out]; omega)
      obtain ⟨x2, hx2⟩ := row_cell hg1 (o := k * 3 + 2) (by rw [HCz.out]; omega)
      rw [Nat.add_zero] at hx0
      have hfz : ∀ o, w1.frozen? ⟨w.heap.size, o, none⟩ = false := fun o => frozen_row hg1 o
      have hgl1 := row_lt hg1
      have HO := Lib.hid hO
      have HQ := Lib.hid hQ
      have Hb := Lib.hid hb
      have Hbr := Lib.hid hbr
      have Hg1 := Lib.hid hg1
      clear hO hQ hb hg hg1 hbr
      go_wp2_with fail
      go_roundw
      case rel =>
        have hsz := size_putCells [.string d.key, .int .i64 d.op, .slice fA2 d.values.length fc2] w1 w.heap.size (k * 3)
        have hsame := same_putCells [.string d.key, .int .i64 d.op, .slice fA2 d.values.length fc2] w1 w.heap.size (k * 3)
        have hW : ∀ q, w.heap.size + 1 ≤ q → (putCells w1 w.heap.size (k * 3) [.string d.key, .int .i64 d.op, .slice fA2 d.values.length fc2]).heap[q]? = w1.heap[q]? := fun q hq => by
          show ((((w1.setCell ⟨w.heap.size, k * 3, none⟩ _).setCell ⟨w.heap.size, k * 3 + 1, none⟩ _).setCell ⟨w.heap.size, k * 3 + 1 + 1, none⟩ _)).heap[q]? = _
          rw [Below.heap_setCell _ ⟨w.heap.size, k * 3 + 1 + 1, none⟩ _ q (by simp; omega), Below.heap_setCell _ ⟨w.heap.size, k * 3 + 1, none⟩ _ q (by simp; omega), Below.heap_setCell _ ⟨w.heap.size, k * 3, none⟩ _ q (by simp; omega)]
        refine ⟨k + 1, putAt cs (k * 3) [.string d.key, .int .i64 d.op, .slice fA2 d.values.length fc2], L ++ [⟨d, fA2, fc2⟩], by omega, by simp [HLk.out], by rw [List.map_append, HLm.out, List.take_add_one, Hd.out]; rfl, by go_num, ?_, heap_putCells [.string d.key, .int .i64 d.op, .slice fA2 d.values.length fc2] _ _ _ _ _ Hg1.out, by rw [size_putAt]; exact HCz.out, ?_, ?_, ?_⟩
        · exact (Hbr.out.trans (Hb.out.mono Hbr.out.size)).trans (below_putCells [.string d.key, .int .i64 d.op, .slice fA2 d.values.length fc2] w1 w.heap.size (k * 3) w.heap.size (Nat.le_refl _))
        · have := HRow.out.push (d := (⟨d, fA2, fc2⟩ : NeedV)) (es := encN ⟨d, fA2, fc2⟩) rfl rfl (by rw [HLk.out, HCz.out]; omega)
          rw [HLk.out] at this
          exact this
        · exact apart_snoc (B := wr.heap.size) HAp.out (fun y hy q hq => ((HMem.out y hy).2 q hq).2) (fun q hq => (HQ.out q hq).1)
        · intro y hy
          show OwnM _ (putCells w1 w.heap.size (k * 3) [.string d.key, .int .i64 d.op, .slice fA2 d.values.length fc2]) y ∧ blkIn _ (putCells w1 w.heap.size (k * 3) [.string d.key, .int .i64 d.op, .slice fA2 d.values.length fc2]).heap.size y
          rw [hsz]
          rcases List.mem_append.1 hy with hy | hy
          · obtain ⟨m1, m2⟩ := HMem.out y hy
            refine ⟨m1.carry (fun q hq => (hW q hq.1).trans (Hb.out.block q hq.2)) (fun q hq => ⟨hq.1, by simp [World.setCell]; omega⟩), fun q hq => ?_⟩
            have := m2 q hq
            omega
          · rw [List.mem_singleton] at hy
            subst hy
            refine ⟨⟨ea0, ea1, ?_⟩, fun q hq => ?_⟩
            · obtain ⟨A9, c9, hv9, e1, e2, e3⟩ := HO.out
              refine ⟨A9, c9, hv9, e1, e2, fun hp => ?_⟩
              obtain ⟨g9, cur9, hA9, hg9, hh9, hr9⟩ := e3 hp
              refine ⟨g9, cur9, hA9, ⟨hp, ?_, by omega, by simp [World.setCell]; exact hg9.2⟩, ?_, hr9⟩
              · simp only [Value.slice.injEq] at hv9
                show (Value.slice fA2 d.values.length fc2).ownBlock = some g9
                rw [hv9.1, hA9]
                rfl
              · rw [hW g9 (by omega)]; exact hh9
            · have := HQ.out q hq
              omega
      case measure => simp [intOf]; omega
    · obtain rfl : k = l.length := by omega
      have HLf := Lib.hid (show L.map (·.d) = l by have := HLm.out; rw [List.take_length] at this; exact this)
      clear hA
      go_wp2_with fail
      go_ret
      refine ⟨L, _, _, rfl, HLf.out, ⟨⟨_, _, by rw [HLk.out], by rw [HLk.out]; exact Nat.le_refl _, by omega, fun _ => ⟨w.heap.size, cs, rfl, ⟨Nat.le_refl _, row_lt hg⟩, hg, HRow.out⟩⟩, HAp.out, fun x hx => (HMem.out x hx).1.carry (fun _ _ => rfl) (fun b hb => ⟨by omega, hb.2⟩)⟩, hbr⟩
/-- How many marks a row of requirements takes. -/
def cntN : List Need → Nat
  | [] => 0
  | d :: l => 2 + d.values.length + cntN l
def MkNeed (k : Int) (d : Need) : Prop := d.key = mkI k ∧ d.op = k + 1 ∧ MkSs (k + 1 + 1) d.values
def MkNs (x : Int) (l : List Need) : Prop := ∀ i d, l[i]? = some d → MkNeed (x + cntN (l.take i)) d
theorem cntN_snoc : ∀ (l : List Need) (k : Nat) (d : Need), l[k]? = some d → cntN (l.take (k + 1)) = cntN (l.take k) + (2 + d.values.length)
  | [], k, d, h => by simp at h
  | x :: l, 0, d, h => by simp at h; subst h; simp [cntN]
  | x :: l, k + 1, d, h => by
    have := cntN_snoc l k d (by simpa using h)
    rw [List.take_succ_cons, cntN, this, List.take_succ_cons, cntN]
    omega
theorem cntN_le : ∀ (l : List Need) (k : Nat), cntN (l.take k) ≤ cntN l
  | [], k => by simp [cntN]
  | x :: l, 0 => by simp [cntN]
  | x :: l, k + 1 => by
    have := cntN_le l k
    rw [List.take_succ_cons, cntN, cntN]
    omega
theorem cntN_same : ∀ (l m : List Need), l.map (fun d => d.values.length) = m.map (fun d => d.values.length) → cntN l = cntN m
  | [], [], _ => rfl
  | [], _ :: _, h => by simp at h
  | _ :: _, [], h => by simp at h
  | a :: l, b :: m, h => by
    simp at h
    rw [cntN, cntN, h.1, cntN_same l m (by simpa using h.2)]
theorem cntN_bound (n : Nat) : ∀ l : List Need, (∀ d ∈ l, d.values.length ≤ n) → cntN l ≤ l.length * (2 + n)
  | [], _ => by simp [cntN]
  | d :: l, h => by
    have h1 := cntN_bound n l (fun x hx => h x (List.mem_cons_of_mem _ hx))
    have h2 := h d (by simp)
    rw [cntN, List.length_cons, Nat.succ_mul]
    omega
theorem ownS_type {S : Nat → Prop} {w : World} {l : List ByteArray} {v : Value} {g : Nat} {cur : Array Value} (h : OwnS S w l v) (hp : 0 < l.length) (hg : w.heap[g]? = some (.cells cur 84 (0, 0))) : v.ownBlock ≠ some g := by
  obtain ⟨A, c, rfl, -, -, h3⟩ := h
  obtain ⟨g', cur', rfl, -, hh, -⟩ := h3 hp
  intro e
  have e2 : g' = g := by simpa [Value.ownBlock] using e
  subst e2
  rw [hh] at hg
  simp only [Option.some.injEq, Obj.cells.injEq] at hg
  exact absurd hg.2.1 (by decide)
set_option maxHeartbeats 4000000 in
set_option maxRecDepth 10000 in
theorem c_laws_markNeedS (L : List NeedV) (v : Value) (x : Int) (w : World) (S : Nat → Prop) (h : OwnL S w L v) (hSb : ∀ b, S b → b < w.heap.size) (h1 : 0 < x) (h2 : x + cntN (L.map (·.d)) ≤ 1152921504606846976) :
    Calls Tryz.prog 60 #[v, .int .i64 x] w fun e w' => ∃ L', e = .returned (.int .i64 (x + cntN (L.map (·.d)))) ∧ L'.map (fun z => z.d.values.length) = L.map (fun z => z.d.values.length) ∧ OwnL S w' L' v ∧ MkNs x (L'.map (·.d)) ∧ Aside S w w' := by
  obtain ⟨⟨A, c, rfl, hlc, hc63, hA⟩, hap, hmem⟩ := h
  by_cases hz : L.length = 0
  · obtain rfl : L = [] := List.eq_nil_of_length_eq_zero hz
    clear hA
    go_enter Tryz.func60, Tryz.ntmps60
    go_wp2_with fail
    go_loopw [1, 5] (fun y i wr => y = .int .i64 x ∧ i = .int .i64 0 ∧ wr = w) (fun _ _ _ => 0)
    case atStart => exact ⟨rfl, rfl, rfl⟩
    case round =>
      obtain ⟨rfl, rfl, rfl⟩ := hrel
      go_wp2_with fail
      go_ret
      exact ⟨[], ret_int (by simp [cntN]), rfl, ⟨⟨A, c, rfl, by simp, hc63, fun h => by simp at h⟩, List.Pairwise.nil, fun x hx => by simp at hx⟩, fun i s h => by simp at h, Aside.refl _ _⟩
  · obtain ⟨g, cur, rfl, hg, hr, hcur⟩ := hA (by omega)
    have hgl := hSb g hg
    have HSb := Lib.hid hSb
    have HG := Lib.hid hg
    have HAp := Lib.hid hap
    have HMem := Lib.hid hmem
    have HCur := Lib.hid hcur
    have hHr := Lib.hid hr
    clear hA hap hmem hcur hSb hg hr
    go_enter Tryz.func60, Tryz.ntmps60
    go_wp2_with fail
    go_loopw [1, 5] (fun y i wr => ∃ (k : Nat) (L' : List NeedV) (cur' : Array Value), k ≤ L.length ∧ L'.map (fun z => z.d.values.length) = L.map (fun z => z.d.values.length) ∧ i = .int .i64 k ∧ y = .int .i64 (x + (cntN ((L.map (·.d)).take k) : Nat)) ∧ wr.heap[g]? = some (.cells cur' 84 (0, 0)) ∧ RowAt C_E 3 cur' L' ∧ ApartN L' ∧ (∀ z ∈ L', OwnM S wr z) ∧ (∀ (j : Nat) (z : NeedV), j < k → L'[j]? = some z → MkNeed (x + (cntN ((L.map (·.d)).take j) : Nat)) z.d) ∧ Aside S w wr) (fun _ i _ => L.length - (intOf i).toNat)
    case atStart => exact ⟨0, L, cur, Nat.zero_le _, rfl, rfl, by simp [cntN], hHr.out, HCur.out, HAp.out, HMem.out, fun j s h => by omega, Aside.refl _ _⟩
    case round =>
      obtain ⟨k, L', cur', hk, hl', rfl, rfl, hr', hcur', hap', hmem', hmk, has⟩ := hrel
      have Hl := Lib.hid hl'
      have hLl : L'.length = L.length := by have := congrArg List.length hl'; simpa using this
      have HLl := Lib.hid hLl
      have Hm := Lib.hid hmk
      have Hc := Lib.hid hcur'
      have Ha := Lib.hid hap'
      have Hmm := Lib.hid hmem'
      have Has := Lib.hid has
      have hws := has.size
      clear hmk hl' hap' hmem' has
      by_cases hlt : k < L.length
      · obtain ⟨z, hz2⟩ := exists_at (l := L') (k := k) (by omega)
        have hsz := hcur'.size hz2 (by decide)
        obtain ⟨es, -, hes, hE⟩ := hcur' k z hz2
        obtain rfl := encN_C z es hE
        obtain ⟨z0, hz0⟩ := exists_at (l := L) (k := k) hlt
        have hzl : z.d.values.length = z0.d.values.length := by
          have h9 := congrArg (fun l => l[k]?) Hl.out
          simp only [List.getElem?_map, hz2, hz0, Option.map_some, Option.some.injEq] at h9
          exact h9
        have hsn := cntN_snoc (L.map (·.d)) k z0.d (by rw [List.getElem?_map, hz0]; rfl)
        have hle := cntN_le (L.map (·.d)) (k + 1)
        obtain ⟨y, hy⟩ : ∃ y : Int, y = x + (cntN ((L.map (·.d)).take k) : Nat) := ⟨_, rfl⟩
        have hy0 : 0 < y := by omega
        have hy1 : y + 2 + z.d.values.length ≤ 1152921504606846976 := by omega
        have Hy := Lib.hid (show x + (cntN ((L.map (·.d)).take (k + 1)) : Nat) = y + 1 + 1 + z.d.values.length by rw [hsn]; omega)
        have Hy0 := Lib.hid hy
        rw [← hy]
        have hgw := row_lt hr'
        have hk1 : (k : Int) < L.length := by omega
        have hk0 : (0 : Int) ≤ k := by omega
        have Hes := Lib.hid hes
        have Hz := Lib.hid hz2
        have HM0 := Lib.hid (Hmm.out z (List.mem_of_getElem? hz2))
        clear hy hcur' hes hz2 hz0 hsn hle hzl
        go_wp2_with fail
        refine (c_laws_markText _ _ (by omega) (by omega)).mono ?_
        rintro e w1 ⟨rfl, hb1⟩
        have r1 := (hb1.block g hgw).trans hr'
        have x0 : w1.cell? ⟨g, k * 3, none⟩ = some (.string z.d.key) := by rw [cell_of_row w1 g _ _ _ _ r1]; exact Hes.out 0 (by decide)
        have x1 : w1.cell? ⟨g, k * 3 + 1, none⟩ = some (.int .i64 z.d.op) := by rw [cell_of_row w1 g _ _ _ _ r1]; exact Hes.out 1 (by decide)
        have x2 : w1.cell? ⟨g, k * 3 + 2, none⟩ = some (.slice z.A z.d.values.length z.c) := by rw [cell_of_row w1 g _ _ _ _ r1]; exact Hes.out 2 (by decide)
        have ff : ∀ o, w1.frozen? ⟨g, o, none⟩ = false := fun o => frozen_row r1 o
        have hgw1 := row_lt r1
        have hs1 := hb1.size
        have r2 := heap_setCell_same _ g (k * 3 + 1) _ _ (.int .i64 (y + 1)) (heap_setCell_same _ g (k * 3) _ _ (.string (mkI y)) r1)
        have hW : ∀ q, q ≠ g → ((w1.setCell ⟨g, k * 3, none⟩ (.string (mkI y))).setCell ⟨g, k * 3 + 1, none⟩ (.int .i64 (y + 1))).heap[q]? = w1.heap[q]? := fun q hq => by
          rw [Below.heap_setCell _ ⟨g, k * 3 + 1, none⟩ _ q (by simpa using hq), Below.heap_setCell _ ⟨g, k * 3, none⟩ _ q (by simpa using hq)]
        have hzS : OwnS (fun b => 0 < z.d.values.length ∧ z.blk = some b ∧ S b) ((w1.setCell ⟨g, k * 3, none⟩ (.string (mkI y))).setCell ⟨g, k * 3 + 1, none⟩ (.int .i64 (y + 1))) z.d.values (.slice z.A z.d.values.length z.c) :=
          HM0.out.2.2.carry (fun b hb => by
            have hbg : b ≠ g := fun e => ownS_type HM0.out.2.2 hb.1 hr' (by rw [← e]; exact hb.2.1)
            rw [hW b hbg]
            exact hb1.block b (Nat.lt_of_lt_of_le (HSb.out b hb.2.2) hws)) (fun _ h => h)
        have HzS := Lib.hid hzS
        have HR2 := Lib.hid r2
        have HW := Lib.hid hW
        have HB1 := Lib.hid hb1
        have HR' := Lib.hid hr'
        have hsW : ((w1.setCell ⟨g, k * 3, none⟩ (.string (mkI y))).setCell ⟨g, k * 3 + 1, none⟩ (.int .i64 (y + 1))).heap.size = w1.heap.size := by simp [World.setCell]
        have HsW := Lib.hid hsW
        clear hzS r2 hW hr' hb1 hsW
        go_wp2_with fail
        refine (c_laws_markStringS z.d.values (.slice z.A z.d.values.length z.c) (y + 1 + 1) _ _ HzS.out (fun b hb => by rw [HsW.out]; have := HSb.out b hb.2.2; omega) (by omega) (by omega)).mono ?_
        rintro e w2 ⟨vs, rfl, hvl, hvO, hvM, has2⟩
        have Hvl := Lib.hid hvl
        have HvO := Lib.hid hvO
        have HvM := Lib.hid hvM
        have Has2 := Lib.hid has2
        clear hvl hvO hvM has2
        rw [← Hy.out]
        go_wp2_with fail
        go_roundw
        case rel =>
          have hbS : ∀ b, 0 < z.d.values.length ∧ z.blk = some b ∧ S b → b ≠ g := fun b hb e => ownS_type HM0.out.2.2 hb.1 HR'.out (by rw [← e]; exact hb.2.1)
          have r3 := (Has2.out.block g (by rw [HsW.out]; exact hgw1) (fun hb => hbS g hb rfl)).trans HR2.out
          have hnew : NeedV := ⟨⟨mkI y, y + 1, vs⟩, z.A, z.c⟩
          have hrow : RowAt C_E 3 ((cur'.setIfInBounds (k * 3) (.string (mkI y))).setIfInBounds (k * 3 + 1) (.int .i64 (y + 1))) (L'.set k ⟨⟨mkI y, y + 1, vs⟩, z.A, z.c⟩) := by
            have h9 := Hc.out.set (k := k) (d' := (⟨⟨mkI y, y + 1, vs⟩, z.A, z.c⟩ : NeedV)) (es' := encN ⟨⟨mkI y, y + 1, vs⟩, z.A, z.c⟩) rfl rfl hsz
            have h8 : putAt cur' (k * 3) (encN ⟨⟨mkI y, y + 1, vs⟩, z.A, z.c⟩) = ((cur'.setIfInBounds (k * 3) (.string (mkI y))).setIfInBounds (k * 3 + 1) (.int .i64 (y + 1))) := by
              show ((cur'.setIfInBounds (k * 3) (.string (mkI y))).setIfInBounds (k * 3 + 1) (.int .i64 (y + 1))).setIfInBounds (k * 3 + 1 + 1) (.slice z.A vs.length z.c) = _
              apply Array.ext_getElem?
              intro i
              rw [Array.getElem?_setIfInBounds]
              by_cases e : k * 3 + 1 + 1 = i
              · rw [if_pos e, if_pos (by simp; omega), ← e, Array.getElem?_setIfInBounds_ne (by omega), Array.getElem?_setIfInBounds_ne (by omega), Hvl.out]
                exact (Hes.out 2 (by decide)).symm
              · rw [if_neg e]
            rw [h8] at h9
            exact h9
          have hzk : k < L'.length := by omega
          refine ⟨k + 1, L'.set k ⟨⟨mkI y, y + 1, vs⟩, z.A, z.c⟩, _, by omega, ?_, by go_num, rfl, r3, hrow, apart_set Ha.out Hz.out ?_, fun u hu => ?_, fun j u hj hu => ?_, ?_⟩
          · rw [← Hl.out]
            apply List.ext_getElem?
            intro i
            rw [List.getElem?_map, List.getElem?_map]
            by_cases e : k = i
            · subst e; rw [List.getElem?_set_self hzk, Hz.out]; simp [Hvl.out]
            · rw [List.getElem?_set_ne e]
          · unfold NeedV.blk; cases z.A <;> rfl
          · obtain ⟨i, hi⟩ := List.getElem?_of_mem hu
            by_cases e : k = i
            · subst e
              rw [List.getElem?_set_self hzk] at hi
              obtain rfl := Option.some.inj hi
              refine ⟨mkI_size _ (by omega), ⟨(by show (-9223372036854775808 : Int) ≤ y + 1; omega), (by show y + 1 ≤ (9223372036854775807 : Int); omega)⟩, ?_⟩
              show OwnS _ w2 vs (.slice z.A vs.length z.c)
              have h9 := HvO.out
              rw [← Hvl.out] at h9
              refine h9.carry (fun _ _ => rfl) (fun b hb => ⟨hb.1, ?_, hb.2.2⟩)
              rw [← hb.2.1]
              unfold NeedV.blk
              cases z.A <;> rfl
            · rw [List.getElem?_set_ne e] at hi
              have hum := List.mem_of_getElem? hi
              have hu9 := Hmm.out u hum
              refine ⟨hu9.1, hu9.2.1, hu9.2.2.carry (fun b hb => ?_) (fun _ h => h)⟩
              have hbg : b ≠ g := fun e2 => ownS_type hu9.2.2 hb.1 HR'.out (by rw [← e2]; exact hb.2.1)
              have hbw : b < wr.heap.size := Nat.lt_of_lt_of_le (HSb.out b hb.2.2) hws
              rw [Has2.out.block b (by rw [HsW.out]; omega) (fun h9 => apart_at Ha.out Hz.out hi e h9.2.1 hb.2.1), HW.out b hbg]
              exact HB1.out.block b hbw
          · by_cases e : k = j
            · subst e
              rw [List.getElem?_set_self hzk] at hu
              obtain rfl := Option.some.inj hu
              rw [← Hy0.out]
              exact ⟨rfl, rfl, HvM.out⟩
            · rw [List.getElem?_set_ne e] at hu
              exact Hm.out j u (by omega) hu
          · refine Has.out.trans (Aside.trans (Aside.setCell (p := ⟨g, k * 3 + 1, none⟩) (Aside.setCell (p := ⟨g, k * 3, none⟩) (Aside.of_below HB1.out) HG.out) HG.out) (Has2.out.mono (fun b hb => hb.2.2)))
        case measure => simp [intOf]; omega
      · obtain rfl : k = L.length := by omega
        have HT := Lib.hid (show (L.map (·.d)).take L.length = L.map (·.d) by rw [← List.length_map (f := fun z : NeedV => z.d), List.take_length])
        go_wp2_with fail
        go_ret
        refine ⟨by rw [HT.out]; rfl, L', Hl.out, ⟨⟨_, c, by rw [HLl.out], by omega, hc63, fun _ => ⟨g, cur', rfl, HG.out, hr', Hc.out⟩⟩, Ha.out, Hmm.out⟩, fun i d hi => ?_, Has.out⟩
        rw [List.getElem?_map] at hi
        obtain ⟨z, hz3, rfl⟩ := Option.map_eq_some_iff.1 hi
        have h9 := Hm.out i z (by have := (List.getElem?_eq_some_iff.1 hz3).1; omega) hz3
        have h8 : cntN ((L'.map (·.d)).take i) = cntN ((L.map (·.d)).take i) := by
          apply cntN_same
          rw [List.map_take, List.map_take, List.map_map, List.map_map]
          exact congrArg (List.take i) Hl.out
        rw [h8]
        exact h9
end Go.Proofs.YteecgklmdfockaaGreatDoor
namespace Go.Proofs.YteecgklmdfockaaGreatDoor
open Go.RowKit
abbrev Own_Tolerance (S : Nat → Prop) (w : World) (l : List Tolerance) (v : Value) : Prop := OwnR C_Tolerance 4 87 S w l v
def mkTolerance (k : Int) : Tolerance := ⟨mkI (k), ((k + 1) % 3 == 0), mkI (k + 1 + 1), k + 1 + 1 + 1⟩
/-- The members of l bear the marks from k on. -/
def MkTolerances (k : Int) (l : List Tolerance) : Prop := ∀ (i : Nat) (d : Tolerance), l[i]? = some d → d = mkTolerance (k + 4 * i)
theorem c_laws_toToleranceSO (l : List Tolerance) (v : Value) (w : World) (lo : Nat) (hs : Sl_Tolerance lo w.heap.size w l v) (hn : l.length ≤ 1048576) :
    Calls Tryz.prog 52 #[v] w fun e w' => ∃ A c, e = .returned (.slice A l.length c) ∧ Own_Tolerance (fun b => w.heap.size ≤ b ∧ b < w'.heap.size) w' l (.slice A l.length c) ∧ Below w.heap.size w w' := by
  obtain ⟨A, c, rfl, hlc, hc, hA⟩ := hs
  have hmk := run_make_slice (P := Tryz.prog) (z := .agg #[.string ⟨#[]⟩, .bool false, .string ⟨#[]⟩, .int .i64 0]) (size := 4) (bytes := 48) Tryz.underlying49 (by kernel_rfl) l.length (by omega) (by omega)
  go_enter Tryz.func52, Tryz.ntmps52
  go_wp2_with fail
  go_loopw [4] (fun i wr => ∃ (k : Nat) (cs : Array Value), k ≤ l.length ∧ i = .int .i64 k ∧ Below w.heap.size w wr ∧ wr.heap[w.heap.size]? = some (.cells cs 87 (0, 0)) ∧ Part (C_Tolerance) 4 l k cs) (fun i _ => l.length - (intOf i).toNat)
  case atStart => exact ⟨0, _, Nat.zero_le _, rfl, bel, heap_alloc_new _ _, Part.zero (by simp [size_madeCells])⟩
  case round =>
    obtain ⟨k, cs, hk, rfl, hbr, hg, hp⟩ := hrel
    by_cases hlt : k < l.length
    · obtain ⟨b, o, rfl, -, hb2, hcell⟩ := hA (by omega)
      obtain ⟨d, hd⟩ := exists_at hlt
      obtain ⟨es, -, hcs, hC⟩ := hcell k d hd
      have hC' := hC
      obtain ⟨rfl, ea0, ea2, ea3⟩ := hC'
      have hc0 := (hbr.cell (p := ⟨b, o + k * 4 + 0, none⟩) (by simp; omega)).trans (hcs 0 (by omega))
      simp at hc0
      have hc1 := (hbr.cell (p := ⟨b, o + k * 4 + 1, none⟩) (by simp; omega)).trans (hcs 1 (by omega))
      simp at hc1
      have hc2 := (hbr.cell (p := ⟨b, o + k * 4 + 2, none⟩) (by simp; omega)).trans (hcs 2 (by omega))
      simp at hc2
      have hc3 := (hbr.cell (p := ⟨b, o + k * 4 + 3, none⟩) (by simp; omega)).trans (hcs 3 (by omega))
      simp at hc3
      obtain ⟨x0, hx0⟩ := row_cell hg (o := k * 4 + 0) (by rw [hp.1]; omega)
      have hf0 := frozen_row hg (k * 4 + 0)
      rw [Nat.add_zero] at hx0 hf0
      obtain ⟨x1, hx1⟩ := row_cell hg (o := k * 4 + 1) (by rw [hp.1]; omega)
      have hf1 := frozen_row hg (k * 4 + 1)
      obtain ⟨x2, hx2⟩ := row_cell hg (o := k * 4 + 2) (by rw [hp.1]; omega)
      have hf2 := frozen_row hg (k * 4 + 2)
      obtain ⟨x3, hx3⟩ := row_cell hg (o := k * 4 + 3) (by rw [hp.1]; omega)
      have hf3 := frozen_row hg (k * 4 + 3)
      have hgl := row_lt hg
      clear hcs hcell hA
      go_wp2_with (go_at_call 97; refine (c_laws_toTolerance d _ _ hC).mono ?_; rintro e w1 ⟨rfl, hb⟩; (first | (have hcu2 := Cum.join hcu hb; (try clear hcu); (try clear hc); (try clear hfz); (try clear hsz); (try clear hs0); (try clear hs1); (try clear hs2); (try clear hs3); (try clear hs4); ) | have hcu2 := Cum.mk hb); have hcu := hcu2; clear hcu2; obtain ⟨hc, hfz⟩ := bcell hcu.h; have hsz := hcu.h.size; (try simp at hsz); (try have hs0 := lt_of_succ_le hsz); (try (have hs1 := lt_pred hsz; (try (have hs2 := lt_pred hs1; (try (have hs3 := lt_pred hs2; (try have hs4 := lt_pred hs3))))))))
      go_roundw
      case rel => exact ⟨k + 1, putAt cs (k * 4) [.string d.key, .bool d.equal, .string d.value, .int .i64 d.effect], by omega, by go_num, bel, heap_putCells [.string d.key, .bool d.equal, .string d.value, .int .i64 d.effect] _ _ _ _ _ ((hb.block _ hgl).trans hg), hp.store hd rfl hC⟩
      case measure => simp [intOf]; omega
    · obtain rfl : k = l.length := by omega
      clear hA
      go_wp2_with fail
      go_ret
      exact ⟨_, _, rfl, OwnR.of_part hp hg ⟨Nat.le_refl _, row_lt hg⟩ (Nat.le_refl _) (by omega), bel⟩
set_option maxHeartbeats 1000000 in
theorem c_laws_markToleranceS (l : List Tolerance) (v : Value) (x : Int) (w : World) (S : Nat → Prop) (h : Own_Tolerance S w l v) (hSb : ∀ b, S b → b < w.heap.size) (h1 : 0 < x) (h2 : x + 4 * l.length ≤ 1152921504606846976) :
    Calls Tryz.prog 61 #[v, .int .i64 x] w fun e w' => ∃ l', e = .returned (.int .i64 (x + 4 * l.length)) ∧ l'.length = l.length ∧ Own_Tolerance S w' l' v ∧ MkTolerances x l' ∧ Aside S w w' := by
  obtain ⟨A, c, rfl, hlc, hc, hA⟩ := h
  by_cases hz : l.length = 0
  · obtain rfl : l = [] := List.eq_nil_of_length_eq_zero hz
    clear hA
    go_enter Tryz.func61, Tryz.ntmps61
    go_wp2_with fail
    go_loopw [1, 5] (fun y i wr => y = .int .i64 x ∧ i = .int .i64 0 ∧ wr = w) (fun _ _ _ => 0)
    case atStart => exact ⟨rfl, rfl, rfl⟩
    case round =>
      obtain ⟨rfl, rfl, rfl⟩ := hrel
      go_wp2_with fail
      go_ret
      exact ⟨[], ret_int (by simp), rfl, ⟨A, c, rfl, by simp, hc, fun h => by simp at h⟩, fun i s h => by simp at h, Aside.refl _ _⟩
  · obtain ⟨g, cur, rfl, hg, hr, hcur⟩ := hA (by omega)
    have hgl := hSb g hg
    go_enter Tryz.func61, Tryz.ntmps61
    go_wp2_with fail
    go_loopw [1, 5] (fun y i wr => ∃ (k : Nat) (l' : List Tolerance) (cur' : Array Value), k ≤ l.length ∧ l'.length = l.length ∧ i = .int .i64 k ∧ y = .int .i64 (x + 4 * k) ∧ wr.heap[g]? = some (.cells cur' 87 (0, 0)) ∧ RowAt C_Tolerance 4 cur' l' ∧ (∀ (j : Nat) (d : Tolerance), j < k → l'[j]? = some d → d = mkTolerance (x + 4 * j)) ∧ Aside S w wr) (fun _ i _ => l.length - (intOf i).toNat)
    case atStart => exact ⟨0, l, cur, Nat.zero_le _, rfl, rfl, by simp, hr, hcur, fun j s h => by omega, Aside.refl _ _⟩
    case round =>
      obtain ⟨k, l', cur', hk, hl', rfl, rfl, hr', hcur', hmk, has⟩ := hrel
      have Hm := Lib.hid hmk
      have Hc := Lib.hid hcur'
      clear hmk hcur hA
      by_cases hlt : k < l.length
      · obtain ⟨d, hd⟩ := exists_at (l := l') (k := k) (by omega)
        have hsz := hcur'.size hd (by decide)
        have hC0 := hcur' k d hd
        unfold C_Tolerance at hC0
        obtain ⟨es, -, hes, hC⟩ := hC0
        obtain ⟨rfl, -⟩ := hC
        obtain ⟨y, hy⟩ : ∃ y : Int, y = x + 4 * k := ⟨_, rfl⟩
        have hy0 : 0 < y := by omega
        have hy1 : y + 4 ≤ 1152921504606846976 := by omega
        have Hy := Lib.hid hy
        rw [← hy]
        have hgw := row_lt hr'
        have hk1 : (k : Int) < l.length := by omega
        have hk0 : (0 : Int) ≤ k := by omega
        have Hes := Lib.hid hes
        have Hd := Lib.hid hd
        clear hy hcur' hes hd
        go_wp2_with fail
        refine (c_laws_markText _ _ (by omega) (by omega)).mono ?_
        rintro e w1 ⟨rfl, hb1⟩
        have r1 := (hb1.block g (by first | exact hgw | (simp; omega))).trans (hr')
        have x0 : w1.cell? ⟨g, k * 4, none⟩ = some (.string d.key) := by rw [cell_of_row w1 g _ _ _ _ r1]; exact Hes.out 0 (by decide)
        have f0 := frozen_row r1 (k * 4)
        have x1 : w1.cell? ⟨g, k * 4 + 1, none⟩ = some (.bool d.equal) := by rw [cell_of_row w1 g _ _ _ _ r1]; exact Hes.out 1 (by decide)
        have f1 := frozen_row r1 (k * 4 + 1)
        have x2 : w1.cell? ⟨g, k * 4 + 2, none⟩ = some (.string d.value) := by rw [cell_of_row w1 g _ _ _ _ r1]; exact Hes.out 2 (by decide)
        have f2 := frozen_row r1 (k * 4 + 2)
        have x3 : w1.cell? ⟨g, k * 4 + 3, none⟩ = some (.int .i64 d.effect) := by rw [cell_of_row w1 g _ _ _ _ r1]; exact Hes.out 3 (by decide)
        have f3 := frozen_row r1 (k * 4 + 3)
        have hgw := row_lt r1
        have hs1 := hb1.size
        go_wp2_with fail
        refine (c_laws_markText _ _ (by omega) (by omega)).mono ?_
        rintro e w2 ⟨rfl, hb2⟩
        have r2 := (hb2.block g (by first | exact hgw | (simp; omega))).trans (heap_setCell_same _ g (k * 4 + 1) _ _ _ (heap_setCell_same _ g (k * 4) _ _ _ (r1)))
        clear x0 f0 x1 f1 x2 f2 x3 f3
        have x2 : w2.cell? ⟨g, k * 4 + 2, none⟩ = some (.string d.value) := by rw [cell_of_row w2 g _ _ _ _ r2, Array.getElem?_setIfInBounds_ne (by omega), Array.getElem?_setIfInBounds_ne (by omega)]; exact Hes.out 2 (by decide)
        have f2 := frozen_row r2 (k * 4 + 2)
        have x3 : w2.cell? ⟨g, k * 4 + 3, none⟩ = some (.int .i64 d.effect) := by rw [cell_of_row w2 g _ _ _ _ r2, Array.getElem?_setIfInBounds_ne (by omega), Array.getElem?_setIfInBounds_ne (by omega)]; exact Hes.out 3 (by decide)
        have f3 := frozen_row r2 (k * 4 + 3)
        have hgw := row_lt r2
        have hs2 := hb2.size
        go_wp2_with fail
        go_roundw
        case rel =>
          have hI : ∀ z : Int, 0 < z → z ≤ 4611686018427387904 → I64 z := fun z h h' => ⟨by omega, by omega⟩
          refine ⟨k + 1, l'.set k (mkTolerance y), putAt cur' (k * 4) [.string (mkI (y)), .bool ((y + 1) % 3 == 0), .string (mkI (y + 1 + 1)), .int .i64 (y + 1 + 1 + 1)], by omega, by simp [hl'], by go_num, ?_, heap_setCell_same _ g (k * 4 + 3) _ _ _ (heap_setCell_same _ g (k * 4 + 2) _ _ _ (r2)), Hc.out.set rfl ?_ hsz, fun j s hj h => ?_, ?_⟩
          · exact congrArg (Value.int .i64) (by have := Hy.out; omega)
          · exact ⟨rfl, mkI_size _ (by omega), mkI_size _ (by omega), (show I64 (y + 1 + 1 + 1) from hI _ (by omega) (by omega))⟩
          · rw [List.getElem?_set] at h
            by_cases he : k = j
            · subst he
              rw [if_pos rfl, if_pos (by omega)] at h
              obtain rfl := Option.some.inj h
              rw [← Hy.out]
            · rw [if_neg he] at h
              exact Hm.out j s (by omega) h
          · refine has.trans ?_
            exact Aside.setCell (Aside.setCell (Aside.trans (Aside.setCell (Aside.setCell (Aside.trans (Aside.refl _ _) (Aside.of_below hb1)) hg) hg) (Aside.of_below hb2)) hg) hg
        case measure => simp [intOf]; omega
      · obtain rfl : k = l.length := by omega
        go_wp2_with fail
        go_ret
        exact ⟨l', rfl, hl', ⟨_, c, by rw [hl'], by omega, hc, fun _ => ⟨g, cur', rfl, hg, hr', Hc.out⟩⟩, fun i s h => Hm.out i s (by have := (List.getElem?_eq_some_iff.1 h).1; omega) h, has⟩
end Go.Proofs.YteecgklmdfockaaGreatDoor
namespace Go.Proofs.YteecgklmdfockaaGreatDoor
open Go.RowKit
theorem row7x {w : World} {b : Nat} {a0 a1 a2 a3 a4 a5 a6 : Value} {e : TypeId} (hr : w.heap[b]? = some (.cells #[a0, a1, a2, a3, a4, a5, a6] e (0, 0))) :
    w.cell? ⟨b, 0, none⟩ = some a0 ∧ w.cell? ⟨b, 1, none⟩ = some a1 ∧ w.cell? ⟨b, 2, none⟩ = some a2 ∧ w.cell? ⟨b, 3, none⟩ = some a3 ∧ w.cell? ⟨b, 4, none⟩ = some a4 ∧ w.cell? ⟨b, 5, none⟩ = some a5 ∧ w.cell? ⟨b, 6, none⟩ = some a6 ∧ ∀ o, w.frozen? ⟨b, o, none⟩ = false :=
  ⟨by rw [cell_of_row _ _ _ _ _ _ hr]; rfl, by rw [cell_of_row _ _ _ _ _ _ hr]; rfl, by rw [cell_of_row _ _ _ _ _ _ hr]; rfl, by rw [cell_of_row _ _ _ _ _ _ hr]; rfl, by rw [cell_of_row _ _ _ _ _ _ hr]; rfl, by rw [cell_of_row _ _ _ _ _ _ hr]; rfl, by rw [cell_of_row _ _ _ _ _ _ hr]; rfl, fun o => frozen_row hr o⟩
theorem set7_0 {w : World} {b : Nat} {a0 a1 a2 a3 a4 a5 a6 v : Value} {e : TypeId} (h : w.heap[b]? = some (.cells #[a0, a1, a2, a3, a4, a5, a6] e (0, 0))) : (w.setCell ⟨b, 0, none⟩ v).heap[b]? = some (.cells #[v, a1, a2, a3, a4, a5, a6] e (0, 0)) := heap_setCell_same w b 0 _ _ v h
theorem set7_1 {w : World} {b : Nat} {a0 a1 a2 a3 a4 a5 a6 v : Value} {e : TypeId} (h : w.heap[b]? = some (.cells #[a0, a1, a2, a3, a4, a5, a6] e (0, 0))) : (w.setCell ⟨b, 1, none⟩ v).heap[b]? = some (.cells #[a0, v, a2, a3, a4, a5, a6] e (0, 0)) := heap_setCell_same w b 1 _ _ v h
theorem set7_2 {w : World} {b : Nat} {a0 a1 a2 a3 a4 a5 a6 v : Value} {e : TypeId} (h : w.heap[b]? = some (.cells #[a0, a1, a2, a3, a4, a5, a6] e (0, 0))) : (w.setCell ⟨b, 2, none⟩ v).heap[b]? = some (.cells #[a0, a1, v, a3, a4, a5, a6] e (0, 0)) := heap_setCell_same w b 2 _ _ v h
theorem set7_3 {w : World} {b : Nat} {a0 a1 a2 a3 a4 a5 a6 v : Value} {e : TypeId} (h : w.heap[b]? = some (.cells #[a0, a1, a2, a3, a4, a5, a6] e (0, 0))) : (w.setCell ⟨b, 3, none⟩ v).heap[b]? = some (.cells #[a0, a1, a2, v, a4, a5, a6] e (0, 0)) := heap_setCell_same w b 3 _ _ v h
theorem set7_4 {w : World} {b : Nat} {a0 a1 a2 a3 a4 a5 a6 v : Value} {e : TypeId} (h : w.heap[b]? = some (.cells #[a0, a1, a2, a3, a4, a5, a6] e (0, 0))) : (w.setCell ⟨b, 4, none⟩ v).heap[b]? = some (.cells #[a0, a1, a2, a3, v, a5, a6] e (0, 0)) := heap_setCell_same w b 4 _ _ v h
theorem set7_5 {w : World} {b : Nat} {a0 a1 a2 a3 a4 a5 a6 v : Value} {e : TypeId} (h : w.heap[b]? = some (.cells #[a0, a1, a2, a3, a4, a5, a6] e (0, 0))) : (w.setCell ⟨b, 5, none⟩ v).heap[b]? = some (.cells #[a0, a1, a2, a3, a4, v, a6] e (0, 0)) := heap_setCell_same w b 5 _ _ v h
theorem set7_6 {w : World} {b : Nat} {a0 a1 a2 a3 a4 a5 a6 v : Value} {e : TypeId} (h : w.heap[b]? = some (.cells #[a0, a1, a2, a3, a4, a5, a6] e (0, 0))) : (w.setCell ⟨b, 6, none⟩ v).heap[b]? = some (.cells #[a0, a1, a2, a3, a4, a5, v] e (0, 0)) := heap_setCell_same w b 6 _ _ v h
def Own_Need (S : Nat → Prop) (w : World) (l : List Need) (v : Value) : Prop := ∃ L : List NeedV, L.map (·.d) = l ∧ OwnL S w L v
theorem Own_Need.carry {S S' : Nat → Prop} {w w' : World} {l : List Need} {v : Value} (h : Own_Need S w l v) (hs : ∀ b, S b → w'.heap[b]? = w.heap[b]?) (hS : ∀ b, S b → S' b) : Own_Need S' w' l v := by
  obtain ⟨L, h1, h2⟩ := h
  exact ⟨L, h1, h2.carry hs hS⟩
theorem Own_Need.toC {lo hi : Nat} {S : Nat → Prop} {w : World} {l : List Need} {v : Value} (h : Own_Need S w l v) (hS : ∀ b, S b → lo ≤ b ∧ b < hi) : Sl_Need lo hi w l v := by
  obtain ⟨L, rfl, h2⟩ := h
  exact h2.toC hS
theorem Own_Need.form {S : Nat → Prop} {w : World} {l : List Need} {v : Value} (h : Own_Need S w l v) : ∃ A c, v = .slice A l.length c := by
  obtain ⟨L, rfl, h2⟩ := h
  obtain ⟨A, c, rfl⟩ := h2.1.form
  exact ⟨A, c, by rw [List.length_map]⟩
/-- cs are the cells of pod d, its rows lie in blocks of S, no two in one block. -/
def OwnPod (S : Nat → Prop) (w : World) (d : Pod) (cs : List Value) : Prop := ∃ (v1 v5 v6 : Value) (S1 S5 S6 : Nat → Prop), cs = [.string d.name, v1, .int .i64 d.cpu, .int .i64 d.mem, .int .i64 d.rank, v5, v6] ∧ d.name.size ≤ 9223372036854775807 ∧ Own_Label S1 w d.labels v1 ∧ I64 d.cpu ∧ I64 d.mem ∧ I64 d.rank ∧ Own_Need S5 w d.needs v5 ∧ Own_Tolerance S6 w d.tolerances v6 ∧ (∀ b, S1 b → S b ∧ ¬ S5 b ∧ ¬ S6 b) ∧ (∀ b, S5 b → S b ∧ ¬ S6 b) ∧ (∀ b, S6 b → S b)
theorem OwnPod.carry {S S' : Nat → Prop} {w w' : World} {d : Pod} {cs : List Value} (h : OwnPod S w d cs) (hs : ∀ b, S b → w'.heap[b]? = w.heap[b]?) (hS : ∀ b, S b → S' b) : OwnPod S' w' d cs := by
  obtain ⟨v1, v5, v6, S1, S5, S6, rfl, a0, a1, a2, a3, a4, a5, a6, s1, s5, s6⟩ := h
  exact ⟨_, _, _, S1, S5, S6, rfl, a0, a1.carry (fun b hb => hs b (s1 b hb).1) (fun _ h => h), a2, a3, a4, a5.carry (fun b hb => hs b (s5 b hb).1) (fun _ h => h), a6.carry (fun b hb => hs b (s6 b hb)) (fun _ h => h), fun b hb => ⟨hS b (s1 b hb).1, (s1 b hb).2⟩, fun b hb => ⟨hS b (s5 b hb).1, (s5 b hb).2⟩, fun b hb => hS b (s6 b hb)⟩
theorem OwnPod.toC {lo hi : Nat} {S : Nat → Prop} {w : World} {d : Pod} {cs : List Value} (h : OwnPod S w d cs) (hS : ∀ b, S b → lo ≤ b ∧ b < hi) : C_Pod lo hi w d cs := by
  obtain ⟨v1, v5, v6, S1, S5, S6, rfl, a0, a1, a2, a3, a4, a5, a6, s1, s5, s6⟩ := h
  exact ⟨_, _, _, rfl, a0, a1.toC (fun b hb => hS b (s1 b hb).1), a2, a3, a4, a5.toC (fun b hb => hS b (s5 b hb).1), a6.toC (fun b hb => hS b (s6 b hb))⟩
theorem OwnPod.open {S : Nat → Prop} {w : World} {d : Pod} {cs : List Value} (h : OwnPod S w d cs) : ∃ A1 c1 A5 c5 A6 c6, cs = [.string d.name, .slice A1 d.labels.length c1, .int .i64 d.cpu, .int .i64 d.mem, .int .i64 d.rank, .slice A5 d.needs.length c5, .slice A6 d.tolerances.length c6] := by
  obtain ⟨v1, v5, v6, S1, S5, S6, rfl, a0, a1, a2, a3, a4, a5, a6, s1, s5, s6⟩ := h
  obtain ⟨A1, c1, rfl⟩ := a1.form
  obtain ⟨A5, c5, rfl⟩ := a5.form
  obtain ⟨A6, c6, rfl⟩ := a6.form
  exact ⟨A1, c1, A5, c5, A6, c6, rfl⟩
end Go.Proofs.YteecgklmdfockaaGreatDoor
namespace Go.Proofs.YteecgklmdfockaaGreatDoor
open Go.RowKit
theorem C_Host.open {lo hi : Nat} {w : World} {d : Host} {cs : List Value} (h : C_Host lo hi w d cs) : ∃ A1 c1 A5 c5, cs = [.string d.name, .slice A1 d.labels.length c1, .int .i64 d.cpu, .int .i64 d.mem, .int .i64 d.slots, .slice A5 d.taints.length c5] := by
  obtain ⟨v1, v5, rfl, a0, a1, a2, a3, a4, a5⟩ := h
  obtain ⟨A1, c1, rfl⟩ := a1.form
  obtain ⟨A5, c5, rfl⟩ := a5.form
  exact ⟨A1, c1, A5, c5, rfl⟩
end Go.Proofs.YteecgklmdfockaaGreatDoor
namespace Go.Proofs.YteecgklmdfockaaGreatDoor
open Go.RowKit
abbrev Own_Taint (S : Nat → Prop) (w : World) (l : List Taint) (v : Value) : Prop := OwnR C_Taint 3 64 S w l v
end Go.Proofs.YteecgklmdfockaaGreatDoor
namespace Go.Proofs.YteecgklmdfockaaGreatDoor
open Go.RowKit
/-- cs are the cells of host d, its rows lie in blocks of S, no two in one block. -/
def OwnHost (S : Nat → Prop) (w : World) (d : Host) (cs : List Value) : Prop := ∃ (v1 v5 : Value) (S1 S5 : Nat → Prop), cs = [.string d.name, v1, .int .i64 d.cpu, .int .i64 d.mem, .int .i64 d.slots, v5] ∧ d.name.size ≤ 9223372036854775807 ∧ Own_Label S1 w d.labels v1 ∧ I64 d.cpu ∧ I64 d.mem ∧ I64 d.slots ∧ Own_Taint S5 w d.taints v5 ∧ (∀ b, S1 b → S b ∧ ¬ S5 b) ∧ (∀ b, S5 b → S b)
theorem OwnHost.carry {S S' : Nat → Prop} {w w' : World} {d : Host} {cs : List Value} (h : OwnHost S w d cs) (hs : ∀ b, S b → w'.heap[b]? = w.heap[b]?) (hS : ∀ b, S b → S' b) : OwnHost S' w' d cs := by
  obtain ⟨v1, v5, S1, S5, rfl, a0, a1, a2, a3, a4, a5, s1, s5⟩ := h
  exact ⟨_, _, S1, S5, rfl, a0, a1.carry (fun b hb => hs b (s1 b hb).1) (fun _ h => h), a2, a3, a4, a5.carry (fun b hb => hs b (s5 b hb)) (fun _ h => h), fun b hb => ⟨hS b (s1 b hb).1, (s1 b hb).2⟩, fun b hb => hS b (s5 b hb)⟩
theorem OwnHost.toC {lo hi : Nat} {S : Nat → Prop} {w : World} {d : Host} {cs : List Value} (h : OwnHost S w d cs) (hS : ∀ b, S b → lo ≤ b ∧ b < hi) : C_Host lo hi w d cs := by
  obtain ⟨v1, v5, S1, S5, rfl, a0, a1, a2, a3, a4, a5, s1, s5⟩ := h
  exact ⟨_, _, rfl, a0, a1.toC (fun b hb => hS b (s1 b hb).1), a2, a3, a4, a5.toC (fun b hb => hS b (s5 b hb))⟩
theorem OwnHost.open {S : Nat → Prop} {w : World} {d : Host} {cs : List Value} (h : OwnHost S w d cs) : ∃ A1 c1 A5 c5, cs = [.string d.name, .slice A1 d.labels.length c1, .int .i64 d.cpu, .int .i64 d.mem, .int .i64 d.slots, .slice A5 d.taints.length c5] := by
  obtain ⟨v1, v5, S1, S5, rfl, a0, a1, a2, a3, a4, a5, s1, s5⟩ := h
  obtain ⟨A1, c1, rfl⟩ := a1.form
  obtain ⟨A5, c5, rfl⟩ := a5.form
  exact ⟨A1, c1, A5, c5, rfl⟩
end Go.Proofs.YteecgklmdfockaaGreatDoor
