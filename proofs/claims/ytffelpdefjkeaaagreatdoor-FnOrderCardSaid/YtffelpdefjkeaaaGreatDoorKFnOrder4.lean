/- Written by wip/tools/pack.py: the texts that FnOrder needs, without what it does not need. No conditions. -/
import Derived.Test.YtffelpdefjkeaaaGreatDoorKFnOrder1
import Derived.Deep.AppendLies
import Derived.OwnWalk
import Derived.Test.YtffelpdefjkeaaaGreatDoorKFnOrder2
import Derived.Sort.Statements
import Derived.Lib.SliceRun
import Derived.Test.YtffelpdefjkeaaaGreatDoorKFnOrder3
import Derived.Lib.ValidLaws
namespace Go.Proofs.YtffelpdefjkeaaaGreatDoor
open Go.RowKit
/-- Blocks that are not in S are the same in both worlds. -/
structure Aside (S : Nat → Prop) (w w' : World) : Prop where
  os : w'.os = w.os
  tape : w'.tape = w.tape
  output : w'.output = w.output
  size : w.heap.size ≤ w'.heap.size
  block : ∀ b, b < w.heap.size → ¬ S b → w'.heap[b]? = w.heap[b]?
theorem Aside.refl (S : Nat → Prop) (w : World) : Aside S w w := ⟨rfl, rfl, rfl, Nat.le_refl _, fun _ _ _ => rfl⟩
theorem Aside.trans {S : Nat → Prop} {a b c : World} (h : Aside S a b) (k : Aside S b c) : Aside S a c :=
  ⟨k.os.trans h.os, k.tape.trans h.tape, k.output.trans h.output, Nat.le_trans h.size k.size, fun i hi hs => (k.block i (Nat.lt_of_lt_of_le hi h.size) hs).trans (h.block i hi hs)⟩
theorem Aside.mono {S S' : Nat → Prop} {a b : World} (h : Aside S a b) (hs : ∀ i, S i → S' i) : Aside S' a b := ⟨h.os, h.tape, h.output, h.size, fun i hi hn => h.block i hi (fun x => hn (hs i x))⟩
theorem Aside.of_below {S : Nat → Prop} {a b : World} (h : Below a.heap.size a b) : Aside S a b := ⟨h.os, h.tape, h.output, h.size, fun i hi _ => h.block i hi⟩
theorem Aside.below {S : Nat → Prop} {B : Nat} {a b : World} (h : Aside S a b) (hB : B ≤ a.heap.size) (hs : ∀ i, S i → B ≤ i) : Below B a b :=
  ⟨h.os, h.tape, h.output, h.size, fun i hi => h.block i (Nat.lt_of_lt_of_le hi hB) (fun x => absurd (hs i x) (by omega))⟩
theorem Aside.setCell {S : Nat → Prop} {a b : World} {p : Addr} {u : Value} (h : Aside S a b) (hp : S p.block) : Aside S a (b.setCell p u) :=
  h.trans ⟨rfl, rfl, rfl, by simp [World.setCell], fun i _ hn => Below.heap_setCell b p u i (fun e => hn (e ▸ hp))⟩
/-- v is a slice of the strings l, in a row of a block of S. -/
def OwnS (S : Nat → Prop) (w : World) (l : List ByteArray) (v : Value) : Prop :=
  ∃ A c, v = .slice A l.length c ∧ l.length ≤ c ∧ c ≤ 9223372036854775807 ∧ (0 < l.length → ∃ g cur, A = some ⟨g, 0, none⟩ ∧ S g ∧ w.heap[g]? = some (.cells cur 9 (0, 0)) ∧ ∀ (i : Nat) (s : ByteArray), l[i]? = some s → cur[i]? = some (Value.string s) ∧ s.size ≤ 9223372036854775807)
theorem OwnS.form {S : Nat → Prop} {w : World} {l : List ByteArray} {v : Value} (h : OwnS S w l v) : ∃ A c, v = .slice A l.length c := by
  obtain ⟨A, c, hv, _⟩ := h
  exact ⟨A, c, hv⟩
theorem OwnS.carry {S S' : Nat → Prop} {w w' : World} {l : List ByteArray} {v : Value} (h : OwnS S w l v) (hs : ∀ b, S b → w'.heap[b]? = w.heap[b]?) (hS : ∀ b, S b → S' b) : OwnS S' w' l v := by
  obtain ⟨A, c, hv, h1, h2, h3⟩ := h
  refine ⟨A, c, hv, h1, h2, fun hp => ?_⟩
  obtain ⟨g, cur, hA, hg, hr, hc⟩ := h3 hp
  exact ⟨g, cur, hA, hS g hg, (hs g hg).trans hr, hc⟩
theorem OwnS.toC {S : Nat → Prop} {lo hi : Nat} {w : World} {l : List ByteArray} {v : Value} (h : OwnS S w l v) (hS : ∀ b, S b → lo ≤ b ∧ b < hi) : Sl_Str lo hi w l v := by
  obtain ⟨A, c, rfl, h1, h2, h3⟩ := h
  refine ⟨A, c, rfl, h1, h2, fun hp => ?_⟩
  obtain ⟨g, cur, rfl, hg, hr, hc⟩ := h3 hp
  refine ⟨g, 0, rfl, (hS g hg).1, (hS g hg).2, fun i s hs => ⟨[.string s], rfl, fun j hj => ?_, rfl, (hc i s hs).2⟩⟩
  obtain rfl : j = 0 := by omega
  rw [cell_of_row w g _ cur _ _ hr]
  simpa using (hc i s hs).1
def digit (k : Nat) : ByteArray := ⟨#[UInt8.ofNat (48 + k % 10)]⟩
def mkL (k : Nat) (out : ByteArray) : ByteArray := if k = 0 then out else mkL (k / 10) (digit k ++ out)
  termination_by k
  decreasing_by omega
theorem mkL_zero (out : ByteArray) : mkL 0 out = out := by rw [mkL]; rfl
theorem mkL_pos (k : Nat) (out : ByteArray) (h : 0 < k) : mkL k out = mkL (k / 10) (digit k ++ out) := by rw [mkL, if_neg (by omega)]
/-- The mark's text. -/
def mkS (k : Nat) : ByteArray := ⟨#[109]⟩ ++ mkL k ⟨#[]⟩
def mkI (k : Int) : ByteArray := mkS k.toNat
/-- The strings l bear the marks from k on. -/
def MkSs (k : Int) (l : List ByteArray) : Prop := ∀ (i : Nat) (s : ByteArray), l[i]? = some s → s = mkI (k + i)
theorem add_at (b o j : Nat) : (⟨b, o, none⟩ : Addr).add j = ⟨b, o + j, none⟩ := by
  unfold Addr.add
  split
  · simp_all
  · rfl
theorem aside_set {S : Nat → Prop} {a b : World} {p : Addr} {u : Value} (hp : S p.block) (h : Aside S a b) : Aside S a (b.setCell p u) := h.setCell hp
theorem aside_alloc {S : Nat → Prop} {a b : World} {o : Obj} (h : Aside S a b) : Aside S a (b.alloc o) :=
  h.trans ⟨rfl, rfl, rfl, by simp, fun i hi _ => Below.heap_alloc b o i hi⟩
theorem heap_at {w : World} {o : Obj} {b : Nat} (h : b = w.heap.size) : (w.alloc o).heap[b]? = some o := by subst h; exact heap_alloc_new w o
theorem row6 {w : World} {b : Nat} {a0 a1 a2 a3 a4 a5 : Value} {e : TypeId} (hr : w.heap[b]? = some (.cells #[a0, a1, a2, a3, a4, a5] e (0, 0))) :
    w.cell? ⟨b, 0, none⟩ = some a0 ∧ w.cell? ⟨b, 1, none⟩ = some a1 ∧ w.cell? ⟨b, 2, none⟩ = some a2 ∧ w.cell? ⟨b, 3, none⟩ = some a3 ∧ w.cell? ⟨b, 4, none⟩ = some a4 ∧ w.cell? ⟨b, 5, none⟩ = some a5 ∧ ∀ o, w.frozen? ⟨b, o, none⟩ = false :=
  ⟨by rw [cell_of_row _ _ _ _ _ _ hr]; rfl, by rw [cell_of_row _ _ _ _ _ _ hr]; rfl, by rw [cell_of_row _ _ _ _ _ _ hr]; rfl, by rw [cell_of_row _ _ _ _ _ _ hr]; rfl, by rw [cell_of_row _ _ _ _ _ _ hr]; rfl, by rw [cell_of_row _ _ _ _ _ _ hr]; rfl, fun o => frozen_row hr o⟩
theorem ownsRow_carry {w w' : World} {base : Nat} {e : TypeId} {size : Nat} {v : Value} {n : Nat} {xs : List Value} (h : w.ownsRow base e size v n xs) (hb : ∀ g, v.ownBlock = some g → w'.heap[g]? = w.heap[g]?) : w'.ownsRow base e size v n xs := by
  refine ⟨h.1, ?_⟩
  rcases h.2 with h0 | ⟨g, cap, cur, rfl, h1, h2, h3⟩
  · exact .inl h0
  · exact .inr ⟨g, cap, cur, rfl, h1, (hb g rfl).trans h2, h3⟩
theorem news_strs {w : World} {lo hi : Nat} {l : List ByteArray} {A : Addr} {c : Nat} (h : Sl_Str lo hi w l (.slice (some A) l.length c)) (hp : 0 < l.length) : ∀ j u, (l.map Value.string)[j]? = some u → w.cell? (A.add j) = some u := by
  intro j u hu
  obtain ⟨A', c', hv, h1, h2, h3⟩ := h
  obtain ⟨b, o, rfl, -, -, hcell⟩ := h3 hp
  simp only [Value.slice.injEq, Option.some.injEq] at hv
  obtain ⟨rfl, -, -⟩ := hv
  rw [List.getElem?_map] at hu
  rcases hs : l[j]? with _ | s
  · rw [hs] at hu; cases hu
  · rw [hs] at hu
    simp at hu
    subst hu
    obtain ⟨cs, -, hcs, rfl, -⟩ := hcell j s hs
    have := hcs 0 (by omega)
    rw [add_at]
    simpa using this
theorem one_strs (l : List ByteArray) : ∀ u ∈ l.map Value.string, u.oneCell' = true := by
  intro u hu
  obtain ⟨s, -, rfl⟩ := List.mem_map.1 hu
  rfl
theorem size_strs {w : World} {lo hi : Nat} {l : List ByteArray} {v : Value} (h : Sl_Str lo hi w l v) : ∀ s ∈ l, s.size ≤ 9223372036854775807 := by
  intro s hs
  obtain ⟨i, hi⟩ := List.getElem?_of_mem hs
  obtain ⟨A, c, rfl, -, -, h3⟩ := h
  obtain ⟨b, o, -, -, -, hcell⟩ := h3 (Nat.lt_of_le_of_lt (Nat.zero_le i) (List.getElem?_eq_some_iff.1 hi).1)
  obtain ⟨cs, -, -, -, h4⟩ := hcell i s hi
  exact h4
theorem run_append_none {P : Program} (w : World) (t ty : TypeId) (base : Nat) (e : TypeId) (i : TypeInfo) (size : Nat) (ht : P.underlying t = some (.slice e)) (hi : P.info? e = some i)
    (v : Value) (n : Nat) (xs : List Value) (hown : w.ownsRow base e size v n xs) (c : Nat) :
    (Builtin.append_ #[t, t] ty #[v, .slice none 0 c]).run P w = .ok v w := by
  rcases hown.2 with ⟨rfl, rfl⟩ | ⟨g, cap, cur, rfl, hb, hg, hnc, _⟩
  · simp [Builtin.append_, run_underlying ht, sizeOf, typeInfo, hi, Builtin.lenOf, Builtin.firstCells]
  · simp [Builtin.append_, run_underlying ht, sizeOf, typeInfo, hi, Builtin.lenOf, Builtin.firstCells, loadCells, storeCells, hnc]
theorem wpList_append_of {P : Program} {w : World} {ops : Array Oper} {rest : List Oper} {o : Oper} {a : Act} {Q : Exit → Act → World → Prop} (hgd : o.guard = none) (s x : Operand) (t : TypeId)
    (ho : o.op = .call { callee := .builtin .append, args := #[s, x], argTypes := #[t, t] }) (v u v' : Value) (w' : World) (hs : a.eval s = v) (hx : a.eval x = u)
    (hr : (Builtin.append_ #[t, t] o.type #[v, u]).run P w = .ok v' w') (h : wpList P ops Q rest (a.put o.dst v') w') : wpList P ops Q (o :: rest) a w :=
  wpList_plain hgd fun K hK => by
    unfold Oper.wp execOp
    simp only [ho, resolve, invoke, builtin, Sem.run_bind, Sem.run_pure, Result.andThen_ok, List.map_toArray, List.map_cons, List.map_nil, hs, hx, hr]
    exact hK _ _ h
/-- Appending a slice of strings, whatever it is. -/
theorem wpList_append_strs {P : Program} {w : World} {ops : Array Oper} {rest : List Oper} {o : Oper} {a : Act} {Q : Exit → Act → World → Prop} (hgd : o.guard = none) (s x : Operand) (t : TypeId)
    (ho : o.op = .call { callee := .builtin .append, args := #[s, x], argTypes := #[t, t] }) (base : Nat) (e : TypeId) (i : TypeInfo) (z : Value) (bytes : Nat) (ht : P.underlying t = some (.slice e)) (hi : P.info? e = some i) (hz : i.zero = some z)
    (hsize : i.size = 1) (hby : i.bytes = bytes) (hzs : z.cells.size = 1) (v : Value) (n : Nat) (xs : List Value) (hs : a.eval s = v) (hown : w.ownsRow base e 1 v n xs)
    (l : List ByteArray) (A : Option Addr) (c lo hi' : Nat) (hx : a.eval x = .slice A l.length c) (hl : Sl_Str lo hi' w l (.slice A l.length c)) (h63 : n + l.length ≤ 9223372036854775807) (hbytes : (n + l.length) * bytes ≤ 140737488355328) (hbase : base ≤ w.heap.size)
    (h : ∀ v' w', w'.ownsRow base e 1 v' (n + l.length) (xs ++ l.map Value.string) → w.grownBy w' v.ownBlock → (v'.ownBlock = v.ownBlock ∨ v'.ownBlock = some w.heap.size) → wpList P ops Q rest (a.put o.dst v') w') : wpList P ops Q (o :: rest) a w := by
  by_cases hp : 0 < l.length
  · have hl2 := hl
    obtain ⟨A', c', hv, -, -, hA⟩ := hl
    obtain ⟨b, off, rfl, -⟩ := hA hp
    simp only [Value.slice.injEq] at hv
    obtain ⟨rfl, -, rfl⟩ := hv
    exact wpList_append_own_at w hgd s x t ho base e i z 1 bytes ht hi hz hsize hby hzs (by decide) v n xs hs hown ⟨b, off, none⟩ l.length c (l.map Value.string) hx (by simp) (news_strs hl2 hp) (one_strs l) (by unfold maxLen; omega) hbytes hbase (fun v' w' h1 h2 _ h4 => h v' w' h1 h2 h4)
  · obtain rfl : l = [] := List.eq_nil_of_length_eq_zero (by omega)
    rcases A with _ | ad
    · refine wpList_append_of hgd s x t ho v _ v w hs hx (run_append_none w t _ base e i 1 ht hi v n xs hown c) (h v w (by simpa using hown) (World.grownBy.refl _ _) (.inl rfl))
    · exact wpList_append_own_at w hgd s x t ho base e i z 1 bytes ht hi hz hsize hby hzs (by decide) v n xs hs hown ad 0 c [] hx rfl (fun j u h => by simp at h) (fun u h => by simp at h) (by unfold maxLen; omega) hbytes hbase (fun v' w' h1 h2 _ h4 => h v' w' h1 h2 h4)
theorem own_empty {w : World} {e : TypeId} {size base B : Nat} (hB : B = w.heap.size) (hb : base ≤ w.heap.size) : (w.alloc (.cells #[] e)).ownsRow base e size (.slice (some ⟨B, 0, none⟩) 0 0) 0 [] := by
  subst hB
  exact World.ownsRow_made w #[] 0 hb (by decide) (by simp)
theorem own_form {w : World} {base : Nat} {e : TypeId} {size : Nat} {v : Value} {n : Nat} {xs : List Value} (h : w.ownsRow base e size v n xs) : ∃ A c, v = .slice A n c := by
  rcases h.2 with ⟨rfl, rfl⟩ | ⟨g, cap, cur, rfl, _⟩
  · exact ⟨_, _, rfl⟩
  · exact ⟨_, _, rfl⟩
/-- Rows of different kinds are different blocks. -/
theorem own_apart {w : World} {base base' : Nat} {e e' : TypeId} {size size' : Nat} {v v' : Value} {n n' : Nat} {xs xs' : List Value} (h : w.ownsRow base e size v n xs) (h' : w.ownsRow base' e' size' v' n' xs') (he : e ≠ e') : ∀ g, v.ownBlock = some g → v'.ownBlock ≠ some g := by
  intro g h1 h2
  rcases h.2 with ⟨rfl, -⟩ | ⟨g1, cap, cur, rfl, -, hg, -⟩
  · cases h1
  · rcases h'.2 with ⟨rfl, -⟩ | ⟨g2, cap', cur', rfl, -, hg', -⟩
    · cases h2
    · simp [Value.ownBlock] at h1 h2
      subst h1 h2
      rw [hg] at hg'
      simp at hg'
      exact he hg'.2
theorem own_row {w : World} {base : Nat} {e : TypeId} {size : Nat} {g n cap : Nat} {xs : List Value} (h : w.ownsRow base e size (.slice (some ⟨g, 0, none⟩) n cap) n xs) : ∃ cur, w.heap[g]? = some (.cells cur e (0, 0)) ∧ n ≤ cap ∧ cap ≤ maxLen ∧ cur.size = cap * size ∧ cur.toList.take (n * size) = xs ∧ base ≤ g := by
  rcases h.2 with ⟨h1, -⟩ | ⟨g1, cap1, cur, h1, h2, h3, h4, h5, h6, h7⟩
  · cases h1
  · simp only [Value.slice.injEq, Option.some.injEq, Addr.mk.injEq, true_and] at h1
    obtain ⟨⟨rfl, -⟩, rfl⟩ := h1
    exact ⟨cur, h3, h4, h5, h6, h7, h2⟩
theorem own_strs {w : World} {base : Nat} {ks : List ByteArray} {v : Value} (h : w.ownsRow base 9 1 v ks.length (ks.map Value.string)) (hs : ∀ k ∈ ks, k.size ≤ 9223372036854775807) : Sl_Str base w.heap.size w ks v := by
  rcases h.2 with ⟨rfl, h0⟩ | ⟨g, cap, cur, rfl, hb, hg, hn, hcm, hcs, ht⟩
  · exact ⟨none, 0, by rw [h0], by omega, by omega, fun hp => by omega⟩
  · refine ⟨_, _, rfl, hn, hcm, fun hp => ⟨g, 0, rfl, hb, row_lt hg, ?_⟩⟩
    intro i s hi
    have hil := List.getElem?_eq_some_iff.1 hi
    refine ⟨[.string s], rfl, ?_, ?_⟩
    · intro j hj
      obtain rfl : j = 0 := by omega
      have : (cur.toList.take (ks.length * 1))[i]? = (ks.map Value.string)[i]? := by rw [ht]
      rw [List.getElem?_take, if_pos (by have := hil.1; omega), Array.getElem?_toList, List.getElem?_map, hi] at this
      rw [cell_of_row w g _ cur _ _ hg]
      simpa using this
    · exact ⟨rfl, hs s (List.mem_of_getElem? hi)⟩
/-- A row that is owned, read as cells to be appended. -/
theorem own_news {w : World} {base : Nat} {e : TypeId} {size : Nat} {g m cap : Nat} {news : List Value} (h : w.ownsRow base e size (.slice (some ⟨g, 0, none⟩) m cap) m news) : ∀ j u, news[j]? = some u → w.cell? ((⟨g, 0, none⟩ : Addr).add j) = some u := by
  obtain ⟨cur, hg, hn, hcm, hcs, ht, hb⟩ := own_row h
  intro j u hu
  have hadd : (⟨g, 0, none⟩ : Addr).add j = ⟨g, j, none⟩ := by unfold Addr.add; split <;> simp_all
  rw [hadd, cell_of_row w g j cur _ _ hg]
  rw [← ht, List.getElem?_take] at hu
  split at hu
  · simpa using hu
  · cases hu
/-- Appending a row that is owned, empty or not. -/
theorem run_append_row {P : Program} (w : World) (t ty : TypeId) (base : Nat) (e : TypeId) (i : TypeInfo) (z : Value) (size bytes : Nat) (ht : P.underlying t = some (.slice e)) (hi : P.info? e = some i) (hz : i.zero = some z)
    (hsize : i.size = size) (hby : i.bytes = bytes) (hzs : z.cells.size = size) (hsz : 0 < size) (v : Value) (n : Nat) (xs : List Value) (hown : w.ownsRow base e size v n xs)
    (base' m : Nat) (news : List Value) (u : Value) (hu : w.ownsRow base' e size u m news) (h1 : ∀ x ∈ news, x.oneCell' = true) (h63 : n + m ≤ maxLen) (hbytes : (n + m) * bytes ≤ 140737488355328) (hbase : base ≤ w.heap.size) :
    ∃ v' w', (Builtin.append_ #[t, t] ty #[v, u]).run P w = .ok v' w' ∧ w'.ownsRow base e size v' (n + m) (xs ++ news) ∧ w.grownBy w' v.ownBlock ∧ (v'.ownBlock = v.ownBlock ∨ v'.ownBlock = some w.heap.size) := by
  rcases hu.2 with ⟨rfl, rfl⟩ | ⟨g, cap, cur, rfl, -⟩
  · have hx : news = [] := List.eq_nil_of_length_eq_zero (by have := hu.1; omega)
    subst hx
    exact ⟨v, w, run_append_none w t ty base e i size ht hi v n xs hown 0, by simpa using hown, World.grownBy.refl _ _, .inl rfl⟩
  · obtain ⟨v', w', hr, h2, h3, _, h5⟩ := run_append_own_at (P := P) w base t ty e i z size bytes ht hi hz hsize hby hzs hsz v n xs hown ⟨g, 0, none⟩ m cap news hu.1 (own_news hu) h1 h63 hbytes hbase
    exact ⟨v', w', hr, h2, h3, h5⟩
theorem step_append_of {P : Program} {w : World} {ops : Array Oper} {o : Oper} {a : Act} {K : Act → World → Prop} {Q : Exit → Act → World → Prop} {E : Prop} (hgd : o.guard = none) (s x : Operand) (t : TypeId)
    (ho : o.op = .call { callee := .builtin .append, args := #[s, x], argTypes := #[t, t] }) (v u v' : Value) (w' : World) (hs : a.eval s = v) (hx : a.eval x = u)
    (hr : (Builtin.append_ #[t, t] o.type #[v, u]).run P w = .ok v' w') (h : K (a.put o.dst v') w') : if Region.wanted o (yielded ops a.tmps) = true then Oper.wp P o a w K Q else E := by
  have hw : Region.wanted o (yielded ops a.tmps) = true := by simp [Region.wanted, hgd]
  rw [if_pos hw]
  unfold Oper.wp execOp
  simp only [ho, resolve, invoke, builtin, Sem.run_bind, Sem.run_pure, Result.andThen_ok, List.map_toArray, List.map_cons, List.map_nil, hs, hx, hr]
  exact h
theorem own_cap {w : World} {base : Nat} {e : TypeId} {size n c : Nat} {A : Option Addr} {xs : List Value} (h : w.ownsRow base e size (.slice A n c) n xs) : n ≤ c := by
  rcases h.2 with ⟨h1, rfl⟩ | ⟨g, cap, cur, h1, hb, hg, hn, hcm, hcs, ht⟩
  · omega
  · simp only [Value.slice.injEq] at h1
    obtain ⟨-, -, rfl⟩ := h1
    exact hn
theorem own_less {w : World} {base base' : Nat} {e : TypeId} {size : Nat} {v : Value} {n : Nat} {xs : List Value} (h : w.ownsRow base e size v n xs) (hb : base' ≤ base) : w.ownsRow base' e size v n xs := by
  refine ⟨h.1, ?_⟩
  rcases h.2 with h0 | ⟨g, cap, cur, h1, h2, h3⟩
  · exact .inl h0
  · exact .inr ⟨g, cap, cur, h1, Nat.le_trans hb h2, h3⟩
theorem row3 {w : World} {b : Nat} {a0 a1 a2 : Value} {e : TypeId} (hr : w.heap[b]? = some (.cells #[a0, a1, a2] e (0, 0))) :
    w.cell? ⟨b, 0, none⟩ = some a0 ∧ w.cell? ⟨b, 1, none⟩ = some a1 ∧ w.cell? ⟨b, 2, none⟩ = some a2 ∧ ∀ o, w.frozen? ⟨b, o, none⟩ = false :=
  ⟨by rw [cell_of_row _ _ _ _ _ _ hr]; rfl, by rw [cell_of_row _ _ _ _ _ _ hr]; rfl, by rw [cell_of_row _ _ _ _ _ _ hr]; rfl, fun o => frozen_row hr o⟩
theorem row4 {w : World} {b : Nat} {a0 a1 a2 a3 : Value} {e : TypeId} (hr : w.heap[b]? = some (.cells #[a0, a1, a2, a3] e (0, 0))) :
    w.cell? ⟨b, 0, none⟩ = some a0 ∧ w.cell? ⟨b, 1, none⟩ = some a1 ∧ w.cell? ⟨b, 2, none⟩ = some a2 ∧ w.cell? ⟨b, 3, none⟩ = some a3 ∧ ∀ o, w.frozen? ⟨b, o, none⟩ = false :=
  ⟨by rw [cell_of_row _ _ _ _ _ _ hr]; rfl, by rw [cell_of_row _ _ _ _ _ _ hr]; rfl, by rw [cell_of_row _ _ _ _ _ _ hr]; rfl, by rw [cell_of_row _ _ _ _ _ _ hr]; rfl, fun o => frozen_row hr o⟩
end Go.Proofs.YtffelpdefjkeaaaGreatDoor
namespace Go.Proofs.YtffelpdefjkeaaaGreatDoor
open Go.RowKit
def RowAt {D : Type} (C : D → List Value → Prop) (sz : Nat) (cur : Array Value) (l : List D) : Prop := ∀ i d, l[i]? = some d → ∃ es, es.length = sz ∧ (∀ j, j < sz → cur[i * sz + j]? = es[j]?) ∧ C d es
/-- v is a slice of the structs l, in one row of a block of S. -/
def OwnR {D : Type} (C : D → List Value → Prop) (sz ty : Nat) (S : Nat → Prop) (w : World) (l : List D) (v : Value) : Prop :=
  ∃ A c, v = .slice A l.length c ∧ l.length ≤ c ∧ c ≤ 9223372036854775807 ∧ (0 < l.length → ∃ g cur, A = some ⟨g, 0, none⟩ ∧ S g ∧ w.heap[g]? = some (.cells cur ty (0, 0)) ∧ RowAt C sz cur l)
theorem OwnR.form {D : Type} {C : D → List Value → Prop} {sz ty : Nat} {S : Nat → Prop} {w : World} {l : List D} {v : Value} (h : OwnR C sz ty S w l v) : ∃ A c, v = .slice A l.length c := by
  obtain ⟨A, c, hv, _⟩ := h
  exact ⟨A, c, hv⟩
theorem OwnR.carry {D : Type} {C : D → List Value → Prop} {sz ty : Nat} {S S' : Nat → Prop} {w w' : World} {l : List D} {v : Value} (h : OwnR C sz ty S w l v) (hs : ∀ b, S b → w'.heap[b]? = w.heap[b]?) (hS : ∀ b, S b → S' b) : OwnR C sz ty S' w' l v := by
  obtain ⟨A, c, hv, h1, h2, h3⟩ := h
  refine ⟨A, c, hv, h1, h2, fun hp => ?_⟩
  obtain ⟨g, cur, hA, hg, hr, hc⟩ := h3 hp
  exact ⟨g, cur, hA, hS g hg, (hs g hg).trans hr, hc⟩
theorem OwnR.toC {D : Type} {C : D → List Value → Prop} {sz ty lo hi : Nat} {S : Nat → Prop} {w : World} {l : List D} {v : Value} (h : OwnR C sz ty S w l v) (hS : ∀ b, S b → lo ≤ b ∧ b < hi) : SlOf C sz lo hi w l v := by
  obtain ⟨A, c, rfl, h1, h2, h3⟩ := h
  refine ⟨A, c, rfl, h1, h2, fun hp => ?_⟩
  obtain ⟨g, cur, rfl, hg, hr, hc⟩ := h3 hp
  refine ⟨g, 0, rfl, (hS g hg).1, (hS g hg).2, fun i d hd => ?_⟩
  obtain ⟨es, e1, e2, e3⟩ := hc i d hd
  refine ⟨es, e1, fun j hj => ?_, e3⟩
  rw [cell_of_row w g _ cur _ _ hr, Nat.zero_add]
  exact e2 j hj
theorem RowAt.set {D : Type} {C : D → List Value → Prop} {sz : Nat} {cur : Array Value} {l : List D} (h : RowAt C sz cur l) {k : Nat} {d' : D} {es' : List Value} (hl : es'.length = sz) (hC : C d' es') (hk : k * sz + sz ≤ cur.size) : RowAt C sz (putAt cur (k * sz) es') (l.set k d') := by
  intro i d hd
  rw [List.getElem?_set] at hd
  by_cases he : k = i
  · subst he
    rw [if_pos rfl] at hd
    by_cases hkl : k < l.length
    · rw [if_pos hkl] at hd
      obtain rfl := Option.some.inj hd
      exact ⟨es', hl, fun j hj => get_putAt _ _ _ j (by omega) (by omega), hC⟩
    · rw [if_neg hkl] at hd; cases hd
  · rw [if_neg he] at hd
    obtain ⟨es, e1, e2, e3⟩ := h i d hd
    refine ⟨es, e1, fun j hj => ?_, e3⟩
    rw [← e2 j hj]
    rcases Nat.lt_or_ge i k with h1 | h1
    · have := Nat.mul_le_mul_right sz h1
      rw [Nat.succ_mul] at this
      rw [get_putAt_lt _ _ _ _ (by omega)]
    · have h2 : k < i := by omega
      have := Nat.mul_le_mul_right sz h2
      rw [Nat.succ_mul] at this
      rw [get_putAt_ge _ _ _ _ (by omega)]
theorem RowAt.size {D : Type} {C : D → List Value → Prop} {sz : Nat} {cur : Array Value} {l : List D} (h : RowAt C sz cur l) {k : Nat} {d : D} (hd : l[k]? = some d) (hz : 0 < sz) : k * sz + sz ≤ cur.size := by
  obtain ⟨es, e1, e2, -⟩ := h k d hd
  have h3 := e2 (sz - 1) (by omega)
  rw [List.getElem?_eq_getElem (by omega)] at h3
  have := (Array.getElem?_eq_some_iff.1 h3).1
  omega
end Go.Proofs.YtffelpdefjkeaaaGreatDoor
namespace Go.Proofs.YtffelpdefjkeaaaGreatDoor
open Go.RowKit
def flatE {D : Type} (enc : D → List Value) (l : List D) : List Value := (l.map enc).flatten
/-- v is a row of the call's own, behind block base, that holds the members l. -/
def RowE {D : Type} (enc : D → List Value) (sz : Nat) (ty : TypeId) (base : Nat) (w : World) (l : List D) (v : Value) : Prop := w.ownsRow base ty sz v l.length (flatE enc l)
theorem enc_six {D : Type} {enc : D → List Value} {sz : Nat} (hk : ∀ d, (enc d).length = sz) (l : List D) : ∀ es ∈ l.map enc, es.length = sz := by
  intro es h
  obtain ⟨d, -, rfl⟩ := List.mem_map.1 h
  exact hk d
theorem flat_getN {sz : Nat} : ∀ (css : List (List Value)) (i : Nat) (es : List Value) (j : Nat), (∀ es ∈ css, es.length = sz) → css[i]? = some es → j < sz → css.flatten[i * sz + j]? = es[j]?
  | [], i, es, j, _, h, _ => by cases h
  | c :: css, 0, es, j, h6, h, hj => by
    simp at h
    subst h
    have := h6 c (by simp)
    rw [List.flatten_cons, Nat.zero_mul, Nat.zero_add, List.getElem?_append_left (by omega)]
  | c :: css, i + 1, es, j, h6, h, hj => by
    have hc := h6 c (by simp)
    have ih := flat_getN css i es j (fun es h => h6 es (by simp [h])) (by simpa using h) hj
    rw [List.flatten_cons, List.getElem?_append_right (by rw [hc, Nat.succ_mul]; omega), ← ih]
    congr 1
    rw [hc, Nat.succ_mul]
    omega
theorem flat_lenN {sz : Nat} : ∀ (css : List (List Value)), (∀ es ∈ css, es.length = sz) → css.flatten.length = css.length * sz
  | [], _ => by simp
  | c :: css, h => by
    rw [List.flatten_cons, List.length_append, flat_lenN css (fun es he => h es (by simp [he])), h c (by simp), List.length_cons, Nat.succ_mul]
    omega
theorem flatE_len {D : Type} {enc : D → List Value} {sz : Nat} (hk : ∀ d, (enc d).length = sz) (l : List D) : (flatE enc l).length = l.length * sz := by
  unfold flatE
  rw [flat_lenN (l.map enc) (enc_six hk l), List.length_map]
theorem flatE_at {D : Type} {enc : D → List Value} {sz : Nat} (hk : ∀ d, (enc d).length = sz) {l : List D} {i : Nat} {d : D} (h : l[i]? = some d) {j : Nat} (hj : j < sz) : (flatE enc l)[i * sz + j]? = (enc d)[j]? :=
  flat_getN (l.map enc) i (enc d) j (enc_six hk l) (by rw [List.getElem?_map, h]; rfl) hj
theorem flatE_app {D : Type} (enc : D → List Value) (l m : List D) : flatE enc (l ++ m) = flatE enc l ++ flatE enc m := by simp [flatE]
theorem RowE.form {D : Type} {enc : D → List Value} {sz ty base : Nat} {w : World} {l : List D} {v : Value} (h : RowE enc sz ty base w l v) : ∃ A c, v = .slice A l.length c := own_form h
theorem RowE.carry {D : Type} {enc : D → List Value} {sz ty base : Nat} {w w' : World} {l : List D} {v : Value} (h : RowE enc sz ty base w l v) (hs : ∀ q, v.ownBlock = some q → w'.heap[q]? = w.heap[q]?) : RowE enc sz ty base w' l v := ownsRow_carry h hs
theorem RowE.less {D : Type} {enc : D → List Value} {sz ty base base' : Nat} {w : World} {l : List D} {v : Value} (h : RowE enc sz ty base w l v) (hb : base' ≤ base) : RowE enc sz ty base' w l v := own_less h hb
theorem RowE.below {D : Type} {enc : D → List Value} {sz ty base : Nat} {w w' : World} {l : List D} {v : Value} (h : RowE enc sz ty base w l v) (hb : Below w.heap.size w w') : RowE enc sz ty base w' l v := h.carry (fun q hq => hb.block q (World.ownsRow.lt h q hq).2)
/-- The row of a member that is there. -/
theorem RowE.row {D : Type} {enc : D → List Value} {sz ty base : Nat} {w : World} {l : List D} {v : Value} (hk : ∀ d, (enc d).length = sz) (h : RowE enc sz ty base w l v) (hp : 0 < l.length) : ∃ g cap cur, v = .slice (some ⟨g, 0, none⟩) l.length cap ∧ base ≤ g ∧ w.heap[g]? = some (.cells cur ty (0, 0)) ∧ l.length ≤ cap ∧ cap ≤ 9223372036854775807 ∧ l.length * sz ≤ cur.size ∧ ∀ i d, l[i]? = some d → ∀ j, j < sz → cur[i * sz + j]? = (enc d)[j]? := by
  obtain ⟨hl, h1⟩ := h
  rcases h1 with ⟨rfl, h0⟩ | ⟨g, cap, cur, rfl, hb, hg, hn, hcm, hcs, ht⟩
  · omega
  · refine ⟨g, cap, cur, rfl, hb, hg, hn, by unfold maxLen at hcm; omega, by rw [hcs]; exact Nat.mul_le_mul_right _ hn, fun i d hd j hj => ?_⟩
    have hi : i < l.length := (List.getElem?_eq_some_iff.1 hd).1
    have h2 := Nat.mul_le_mul_right sz hi
    rw [Nat.succ_mul] at h2
    have : (cur.toList.take (l.length * sz))[i * sz + j]? = (flatE enc l)[i * sz + j]? := by rw [ht]
    rw [List.getElem?_take, if_pos (by omega), Array.getElem?_toList, flatE_at hk hd hj] at this
    exact this
theorem RowE.own {D : Type} {enc : D → List Value} {sz ty base : Nat} {w : World} {l : List D} {v : Value} {C : D → List Value → Prop} (hk : ∀ d, (enc d).length = sz) (h : RowE enc sz ty base w l v) (hC : ∀ d ∈ l, C d (enc d)) : OwnR C sz ty (fun b => v.ownBlock = some b) w l v := by
  by_cases hp : 0 < l.length
  · obtain ⟨g, cap, cur, rfl, -, hg, h1, h2, -, h4⟩ := h.row hk hp
    exact ⟨_, cap, rfl, h1, h2, fun _ => ⟨g, cur, rfl, rfl, hg, fun i d hd => ⟨enc d, hk d, h4 i d hd, hC d (List.mem_of_getElem? hd)⟩⟩⟩
  · rcases h.2 with ⟨rfl, h0⟩ | ⟨g, cap, cur, rfl, hb, hg, hn, hcm, hcs, ht⟩
    · exact ⟨none, 0, by rw [h0], by omega, by decide, fun h => absurd h hp⟩
    · exact ⟨_, cap, rfl, hn, by unfold maxLen at hcm; omega, fun h => absurd h hp⟩
theorem RowE.sl {D : Type} {enc : D → List Value} {sz ty base : Nat} {w : World} {l : List D} {v : Value} {C : D → List Value → Prop} (hk : ∀ d, (enc d).length = sz) (h : RowE enc sz ty base w l v) (hC : ∀ d ∈ l, C d (enc d)) : SlOf C sz base w.heap.size w l v :=
  (h.own hk hC).toC (fun b hb => World.ownsRow.lt h b hb)
theorem RowE.nil {D : Type} {enc : D → List Value} {sz ty base : Nat} {w : World} : RowE enc sz ty base w [] (.slice none 0 0) := ⟨by simp [flatE], .inl ⟨rfl, rfl⟩⟩
theorem one_flat {D : Type} {enc : D → List Value} (h1 : ∀ d, ∀ v ∈ enc d, v.oneCell' = true) (l : List D) : ∀ u ∈ flatE enc l, u.oneCell' = true := by
  intro u hu
  unfold flatE at hu
  obtain ⟨es, h2, h3⟩ := List.mem_flatten.1 hu
  obtain ⟨d, -, rfl⟩ := List.mem_map.1 h2
  exact h1 d u h3
/-- The cells of a slice that came in, read as cells to be appended. -/
theorem news_of {D : Type} {enc : D → List Value} {sz lo hi : Nat} {w : World} {l : List D} {b o c : Nat} {C : D → List Value → Prop} (hk : ∀ d, (enc d).length = sz) (hs : 0 < sz) (h : SlOf C sz lo hi w l (.slice (some ⟨b, o, none⟩) l.length c)) (hC : ∀ d es, C d es → es = enc d) (hp : 0 < l.length) : ∀ j u, (flatE enc l)[j]? = some u → w.cell? ((⟨b, o, none⟩ : Addr).add j) = some u := by
  obtain ⟨A, c', hv, -, -, hA⟩ := h
  obtain ⟨b', o', rfl, -, -, hc⟩ := hA hp
  simp only [Value.slice.injEq, Option.some.injEq, Addr.mk.injEq, and_true] at hv
  obtain ⟨⟨rfl, rfl⟩, -⟩ := hv
  intro j u hu
  have hadd : (⟨b, o, none⟩ : Addr).add j = ⟨b, o + j, none⟩ := by unfold Addr.add; split <;> simp_all
  have hjl : j < l.length * sz := by
    have := (List.getElem?_eq_some_iff.1 hu).1
    rwa [flatE_len hk] at this
  have hi : j / sz < l.length := by rwa [Nat.div_lt_iff_lt_mul hs]
  obtain ⟨d, hd⟩ := exists_at hi
  obtain ⟨es, -, h2, h3⟩ := hc (j / sz) d hd
  obtain rfl := hC d es h3
  have hj : j = j / sz * sz + j % sz := by rw [Nat.mul_comm]; exact (Nat.div_add_mod j sz).symm
  have h4 := h2 (j % sz) (Nat.mod_lt _ hs)
  have h5 := flatE_at hk hd (Nat.mod_lt j hs)
  rw [← hj] at h5
  rw [hadd]
  rw [Nat.add_assoc, ← hj] at h4
  rw [h4, ← h5, hu]
/-- Appending a slice that came in to a row of the call's own. -/
theorem run_append_rows {P : Program} {D : Type} {enc : D → List Value} {C : D → List Value → Prop} (w : World) (t ty : TypeId) (base : Nat) (e : TypeId) (i : TypeInfo) (z : Value) (sz bytes : Nat) (ht : P.underlying t = some (.slice e)) (hi : P.info? e = some i) (hz : i.zero = some z)
    (hsize : i.size = sz) (hby : i.bytes = bytes) (hzs : z.cells.size = sz) (hsz : 0 < sz) (hk : ∀ d, (enc d).length = sz) (h1 : ∀ d, ∀ v ∈ enc d, v.oneCell' = true) (hC : ∀ d es, C d es → es = enc d) (v : Value) (n : Nat) (xs : List D) (hn : xs.length = n) (hown : RowE enc sz e base w xs v)
    (l : List D) (A : Option Addr) (m c lo hi' : Nat) (hm : l.length = m) (hl : SlOf C sz lo hi' w l (.slice A m c)) (h63 : n + m ≤ maxLen) (hbytes : (n + m) * bytes ≤ 140737488355328) (hbase : base ≤ w.heap.size) :
    ∃ v' w', (Builtin.append_ #[t, t] ty #[v, .slice A m c]).run P w = .ok v' w' ∧ RowE enc sz e base w' (xs ++ l) v' ∧ w.grownBy w' v.ownBlock ∧ (v'.ownBlock = v.ownBlock ∨ v'.ownBlock = some w.heap.size) := by
  subst hn hm
  have fin : ∀ v' w', w'.ownsRow base e sz v' (xs.length + l.length) (flatE enc xs ++ flatE enc l) → RowE enc sz e base w' (xs ++ l) v' := fun v' w' h => by
    unfold RowE
    rw [flatE_app, List.length_append]
    exact h
  by_cases hp : 0 < l.length
  · have hl2 := hl
    obtain ⟨A', c', hv, -, -, hA⟩ := hl
    obtain ⟨b, off, rfl, -⟩ := hA hp
    simp only [Value.slice.injEq] at hv
    obtain ⟨rfl, -, rfl⟩ := hv
    obtain ⟨v', w', hr, h2, h3, _, h5⟩ := run_append_own_at (P := P) w base t ty e i z sz bytes ht hi hz hsize hby hzs hsz v xs.length (flatE enc xs) hown ⟨b, off, none⟩ l.length c (flatE enc l) (flatE_len hk l) (news_of hk hsz hl2 hC hp) (one_flat h1 l) h63 hbytes hbase
    exact ⟨v', w', hr, fin v' w' h2, h3, h5⟩
  · obtain rfl : l = [] := List.eq_nil_of_length_eq_zero (by omega)
    rcases A with _ | ad
    · exact ⟨v, w, run_append_none w t ty base e i sz ht hi v xs.length (flatE enc xs) hown c, by simpa using hown, World.grownBy.refl _ _, .inl rfl⟩
    · obtain ⟨v', w', hr, h2, h3, _, h5⟩ := run_append_own_at (P := P) w base t ty e i z sz bytes ht hi hz hsize hby hzs hsz v xs.length (flatE enc xs) hown ad 0 c [] (by simp) (fun j u h => by simp at h) (fun u h => by simp at h) h63 hbytes hbase
      exact ⟨v', w', hr, fin v' w' (by simpa [flatE] using h2), h3, h5⟩
theorem SlOf.take {D : Type} {C : D → List Value → Prop} {sz lo hi : Nat} {w : World} {l : List D} {A : Option Addr} {n c : Nat} (h : SlOf C sz lo hi w l (.slice A n c)) {k : Nat} (hk : k ≤ l.length) : SlOf C sz lo hi w (l.take k) (.slice A k c) := by
  obtain ⟨A', c', hv, h1, h2, hA⟩ := h
  simp only [Value.slice.injEq] at hv
  obtain ⟨rfl, rfl, rfl⟩ := hv
  refine ⟨A, c, by rw [List.length_take]; congr 1; omega, by rw [List.length_take]; omega, h2, fun hp => ?_⟩
  rw [List.length_take] at hp
  obtain ⟨b, o, rfl, h3, h4, hc⟩ := hA (by omega)
  refine ⟨b, o, rfl, h3, h4, fun i d hd => ?_⟩
  rw [List.getElem?_take] at hd
  split at hd
  · exact hc i d hd
  · cases hd
theorem SlOf.drop {D : Type} {C : D → List Value → Prop} {sz lo hi : Nat} {w : World} {l : List D} {b o n c : Nat} (h : SlOf C sz lo hi w l (.slice (some ⟨b, o, none⟩) n c)) {k : Nat} (hk : k ≤ l.length) : SlOf C sz lo hi w (l.drop k) (.slice (some ⟨b, o + k * sz, none⟩) (n - k) (c - k)) := by
  obtain ⟨A', c', hv, h1, h2, hA⟩ := h
  simp only [Value.slice.injEq] at hv
  obtain ⟨rfl, rfl, rfl⟩ := hv
  refine ⟨_, c - k, by rw [List.length_drop], by rw [List.length_drop]; omega, by omega, fun hp => ?_⟩
  rw [List.length_drop] at hp
  obtain ⟨b', o', hbo, h3, h4, hc⟩ := hA (by omega)
  simp only [Option.some.injEq, Addr.mk.injEq, and_true] at hbo
  obtain ⟨rfl, rfl⟩ := hbo
  refine ⟨b, o + k * sz, rfl, h3, h4, fun i d hd => ?_⟩
  rw [List.getElem?_drop] at hd
  obtain ⟨cs, e1, e2, e3⟩ := hc (k + i) d hd
  refine ⟨cs, e1, fun j hj => ?_, e3⟩
  rw [← e2 j hj, Nat.add_mul]
  congr 2
  omega
end Go.Proofs.YtffelpdefjkeaaaGreatDoor
namespace Go.Proofs.YtffelpdefjkeaaaGreatDoor
open Go.RowKit
def lessS (a b : ByteArray) : Bool := Op.bytesLess a.toList b.toList
def C_Int (n : Int) (cs : List Value) : Prop := cs = [.int .i64 n]
end Go.Proofs.YtffelpdefjkeaaaGreatDoor
namespace Go.Proofs.YtffelpdefjkeaaaGreatDoor
open Go.RowKit
/-- Neighbours that are alike are dropped. -/
def compB {D : Type} (eq : D → D → Bool) : List D → List D
  | [] => []
  | [a] => [a]
  | a :: b :: l => if eq b a then compB eq (b :: l) else a :: compB eq (b :: l)
end Go.Proofs.YtffelpdefjkeaaaGreatDoor
namespace Go.Proofs.YtffelpdefjkeaaaGreatDoor
open Go.RowKit
theorem RowE.at {D : Type} {enc : D → List Value} {sz ty base g n c : Nat} {w : World} {l : List D} (hk : ∀ d, (enc d).length = sz) (h : RowE enc sz ty base w l (.slice (some ⟨g, 0, none⟩) n c)) :
    n = l.length ∧ base ≤ g ∧ l.length ≤ c ∧ c ≤ 9223372036854775807 ∧ ∃ cur, w.heap[g]? = some (.cells cur ty (0, 0)) ∧ cur.size = c * sz ∧ ∀ i d, l[i]? = some d → ∀ j, j < sz → cur[i * sz + j]? = (enc d)[j]? := by
  have h0 := h
  obtain ⟨hl, h1⟩ := h
  rcases h1 with ⟨h2, -⟩ | ⟨g', cap, cur, hv, hb, hg, hn, hcm, hcs, ht⟩
  · cases h2
  · simp only [Value.slice.injEq, Option.some.injEq, Addr.mk.injEq, and_true] at hv
    obtain ⟨rfl, rfl, rfl⟩ := hv
    refine ⟨rfl, hb, hn, by unfold maxLen at hcm; omega, cur, hg, hcs, fun i d hd j hj => ?_⟩
    have hi : i < l.length := (List.getElem?_eq_some_iff.1 hd).1
    have h2 := Nat.mul_le_mul_right sz hi
    rw [Nat.succ_mul] at h2
    have : (cur.toList.take (l.length * sz))[i * sz + j]? = (flatE enc l)[i * sz + j]? := by rw [ht]
    rw [List.getElem?_take, if_pos (by omega), Array.getElem?_toList, flatE_at hk hd hj] at this
    exact this
end Go.Proofs.YtffelpdefjkeaaaGreatDoor
namespace Go.Proofs.YtffelpdefjkeaaaGreatDoor
open Go.RowKit
theorem compB_two {D : Type} (eq : D → D → Bool) (a b : D) (l : List D) : compB eq (a :: b :: l) = if eq b a then compB eq (b :: l) else a :: compB eq (b :: l) := rfl
theorem put_is_set (g : Nat) : ∀ (vs : List Value) (w : World) (o : Nat), putCells w g o vs = w.setCells g o vs
  | [], _, _ => rfl
  | v :: vs, w, o => put_is_set g vs (w.setCell ⟨g, o, none⟩ v) (o + 1)
theorem compB_snoc {D : Type} {eq : D → D → Bool} (he : ∀ a b, eq a b = true ↔ a = b) (a x : D) : ∀ l : List D, compB eq (l ++ [a, x]) = if eq x a then compB eq (l ++ [a]) else compB eq (l ++ [a]) ++ [x]
  | [] => by
    show compB eq [a, x] = if eq x a then compB eq [a] else compB eq [a] ++ [x]
    unfold compB
    by_cases h : eq x a = true
    · rw [if_pos h, if_pos h]
      have := (he x a).1 h
      subst this
      rfl
    · rw [if_neg h, if_neg h]
      rfl
  | [b] => by
    have ih := compB_snoc he a x []
    simp only [List.nil_append] at ih
    show compB eq (b :: a :: [x]) = if eq x a then compB eq (b :: a :: []) else compB eq (b :: a :: []) ++ [x]
    rw [compB_two eq b a [x], compB_two eq b a [], ih]
    by_cases h : eq x a = true <;> by_cases h2 : eq a b = true <;> simp [h, h2]
  | b :: c :: l => by
    have ih := compB_snoc he a x (c :: l)
    simp only [List.cons_append] at ih
    show compB eq (b :: c :: (l ++ [a, x])) = if eq x a then compB eq (b :: c :: (l ++ [a])) else compB eq (b :: c :: (l ++ [a])) ++ [x]
    rw [compB_two eq b c (l ++ [a, x]), compB_two eq b c (l ++ [a]), ih]
    by_cases h : eq x a = true <;> by_cases h2 : eq c b = true <;> simp [h, h2]
theorem take_last {D : Type} {l : List D} {m : Nat} {a : D} (hm : 0 < m) (ha : l[m - 1]? = some a) : l.take m = l.take (m - 1) ++ [a] := by
  have h := List.take_add_one (l := l) (i := m - 1)
  rw [show m - 1 + 1 = m by omega, ha] at h
  exact h
theorem compB_take {D : Type} {eq : D → D → Bool} (he : ∀ a b, eq a b = true ↔ a = b) {l : List D} {m : Nat} {a x : D} (hm : 0 < m) (ha : l[m - 1]? = some a) (hx : l[m]? = some x) :
    compB eq (l.take (m + 1)) = if eq x a then compB eq (l.take m) else compB eq (l.take m) ++ [x] := by
  have h := compB_snoc he a x (l.take (m - 1))
  rw [← take_last hm ha] at h
  rw [← h]
  congr 1
  rw [List.take_add_one, hx, take_last hm ha]
  simp
structure CompL {D : Type} (eq : D → D → Bool) (l : List D) (m kk : Nat) (L : List D) : Prop where
  size : L.length = l.length
  low : L.take kk = compB eq (l.take m)
  lt : kk < m
  high : ∀ j, kk ≤ j → L[j]? = l[j]?
theorem CompL.skip {D : Type} {eq : D → D → Bool} (he : ∀ a b, eq a b = true ↔ a = b) {l L : List D} {m kk : Nat} {a x : D} (h : CompL eq l m kk L) (ha : l[m - 1]? = some a) (hx : l[m]? = some x) (hd : eq x a = true) : CompL eq l (m + 1) kk L :=
  ⟨h.size, by rw [compB_take he (Nat.zero_lt_of_lt h.lt) ha hx, if_pos hd, h.low], Nat.lt_succ_of_lt h.lt, h.high⟩
theorem CompL.keep {D : Type} {eq : D → D → Bool} (he : ∀ a b, eq a b = true ↔ a = b) {l L : List D} {m kk : Nat} {a x : D} (h : CompL eq l m kk L) (ha : l[m - 1]? = some a) (hx : l[m]? = some x) (hd : eq x a = false) : CompL eq l (m + 1) (kk + 1) (L.set kk x) := by
  have hml := (List.getElem?_eq_some_iff.1 hx).1
  have hlt := h.lt
  have hsz := h.size
  refine ⟨by rw [List.length_set, h.size], ?_, by omega, fun j hj => ?_⟩
  · rw [compB_take he (by omega) ha hx, hd]
    simp only [Bool.false_eq_true, if_false]
    rw [← h.low, List.take_add_one, List.getElem?_set_self (by omega)]
    congr 1
    apply List.ext_getElem?
    intro i
    rw [List.getElem?_take, List.getElem?_take]
    split
    · rw [List.getElem?_set_ne (by omega)]
    · rfl
  · rw [List.getElem?_set_ne (by omega)]
    exact h.high j (by omega)
theorem CompL.len {D : Type} {eq : D → D → Bool} {l L : List D} {m kk : Nat} (h : CompL eq l m kk L) (hm : m ≤ l.length) : (compB eq (l.take m)).length = kk := by
  rw [← h.low, List.length_take, h.size]
  have := h.lt
  omega
theorem flatE_take {D : Type} {enc : D → List Value} {sz : Nat} (hk : ∀ d, (enc d).length = sz) (l : List D) (k : Nat) (h : k ≤ l.length) : flatE enc (l.take k) = (flatE enc l).take (k * sz) := by
  have h1 : flatE enc l = flatE enc (l.take k) ++ flatE enc (l.drop k) := by rw [← flatE_app, List.take_append_drop]
  have h2 : (flatE enc (l.take k)).length = k * sz := by rw [flatE_len hk, List.length_take]; congr 1; omega
  rw [h1, ← h2, List.take_left']
  rfl
/-- The row cut, whatever has been stored behind. -/
theorem RowE.cut {D : Type} {enc : D → List Value} {sz ty base g n c k : Nat} {w : World} {l : List D} {zs : List Value} (hk : ∀ d, (enc d).length = sz) (h : RowE enc sz ty base w l (.slice (some ⟨g, 0, none⟩) n c)) (hkl : k ≤ l.length) :
    RowE enc sz ty base (w.setCells g (k * sz) zs) (l.take k) (.slice (some ⟨g, 0, none⟩) k c) := by
  have hlt : (l.take k).length = k := by rw [List.length_take]; omega
  have h0 := h
  obtain ⟨rfl, hb, h1, h2, cur, hg, hcs, -⟩ := h.at hk
  have hput : (w.setCells g (k * sz) zs).heap[g]? = some (.cells (putAt cur (k * sz) zs) ty (0, 0)) := by rw [← put_is_set]; exact heap_putCells zs w g (k * sz) cur ty hg
  refine ⟨by rw [flatE_len hk], .inr ⟨g, c, _, by rw [hlt], hb, hput, by rw [hlt]; omega, by unfold maxLen; omega, by rw [size_putAt, hcs], ?_⟩⟩
  rw [hlt, flatE_take hk l k hkl]
  obtain ⟨cur2, hg2, -, -, -, ht, -⟩ := own_row h0
  rw [hg] at hg2
  simp only [Option.some.injEq, Obj.cells.injEq, and_true] at hg2
  subst hg2
  have hks : k * sz ≤ l.length * sz := Nat.mul_le_mul_right _ hkl
  rw [← ht, List.take_take, Nat.min_eq_left hks]
  apply List.ext_getElem?
  intro i
  rw [List.getElem?_take, List.getElem?_take]
  split
  · rw [Array.getElem?_toList, Array.getElem?_toList]
    exact get_putAt_lt _ _ _ _ (by assumption)
  · rfl
/-- One member in a row of its own. -/
theorem sl_one {D : Type} {C : D → List Value → Prop} {enc : D → List Value} {sz : Nat} (hk : ∀ d, (enc d).length = sz) (w : World) (d : D) (hC : C d (enc d)) (ty : TypeId) (cs : Array Value) (hc : cs = (enc d).toArray) :
    SlOf C sz w.heap.size (w.alloc (.cells cs ty)).heap.size (w.alloc (.cells cs ty)) [d] (.slice (some ⟨w.heap.size, 0, none⟩) 1 1) := by
  subst hc
  refine ⟨_, _, rfl, Nat.le_refl _, by decide, fun _ => ⟨w.heap.size, 0, rfl, Nat.le_refl _, by simp, fun i d' hd => ⟨enc d, hk d, fun j hj => ?_, ?_⟩⟩⟩
  · have hi : i = 0 := by
      have := (List.getElem?_eq_some_iff.1 hd).1
      simp at this
      exact this
    subst hi
    rw [cell_of_row _ _ _ _ _ _ (heap_alloc_new w _)]
    simp
  · have hi : i = 0 := by
      have := (List.getElem?_eq_some_iff.1 hd).1
      simp at this
      exact this
    subst hi
    simp at hd
    subst hd
    exact hC
end Go.Proofs.YtffelpdefjkeaaaGreatDoor
namespace Go.Proofs.YtffelpdefjkeaaaGreatDoor
open Go.RowKit
def rf (s : ByteArray) : Nat → Nat → Option (List Nat)
  | 0, _ => some []
  | f + 1, i => if i < s.size then (if Utf8.decode s i = (65533, 1) then none else (rf s f (i + (Utf8.decode s i).2)).map ((Utf8.decode s i).1 :: ·)) else some []
theorem rf_succ (s : ByteArray) (f i : Nat) : rf s (f + 1) i = if i < s.size then (if Utf8.decode s i = (65533, 1) then none else (rf s f (i + (Utf8.decode s i).2)).map ((Utf8.decode s i).1 :: ·)) else some [] := rfl
theorem rf_fuel (s : ByteArray) : ∀ (f g i : Nat), s.size - i ≤ f → s.size - i ≤ g → rf s f i = rf s g i
  | 0, 0, _, _, _ => rfl
  | 0, g + 1, i, h, _ => by
    have : ¬ i < s.size := by omega
    simp [rf, this]
  | f + 1, 0, i, _, h => by
    have : ¬ i < s.size := by omega
    simp [rf, this]
  | f + 1, g + 1, i, h1, h2 => by
    unfold rf
    by_cases hi : i < s.size
    · rw [if_pos hi, if_pos hi]
      obtain ⟨-, d2, d3⟩ := decode_fits s i hi
      rw [rf_fuel s f g (i + (Utf8.decode s i).2) (by omega) (by omega)]
    · rw [if_neg hi, if_neg hi]
/-- The runes of s from place i on; none: it is no UTF-8. -/
def runesAt (s : ByteArray) (i : Nat) : Option (List Nat) := rf s (s.size - i) i
theorem runesAt_end {s : ByteArray} {i : Nat} (h : ¬ i < s.size) : runesAt s i = some [] := by
  unfold runesAt
  rw [show s.size - i = 0 by omega]
  rfl
theorem runesAt_bad {s : ByteArray} {i : Nat} (h : i < s.size) (hd : Utf8.decode s i = (65533, 1)) : runesAt s i = none := by
  unfold runesAt
  obtain ⟨f, hf⟩ : ∃ f, s.size - i = f + 1 := ⟨s.size - i - 1, by omega⟩
  rw [hf]
  unfold rf
  rw [if_pos h, if_pos hd]
theorem runesAt_step {s : ByteArray} {i : Nat} (h : i < s.size) (hd : Utf8.decode s i ≠ (65533, 1)) : runesAt s i = (runesAt s (i + (Utf8.decode s i).2)).map ((Utf8.decode s i).1 :: ·) := by
  obtain ⟨-, d2, d3⟩ := decode_fits s i h
  unfold runesAt
  obtain ⟨f, hf⟩ : ∃ f, s.size - i = f + 1 := ⟨s.size - i - 1, by omega⟩
  rw [hf, rf_succ, if_pos h, if_neg hd, rf_fuel s f (s.size - (i + (Utf8.decode s i).2)) _ (by omega) (by omega)]
def utf8B (s : ByteArray) : Bool := (runesAt s 0).isSome
/-- The first place at which there is no rune, from i on; -1: there is none. -/
def bf (s : ByteArray) : Nat → Nat → Int
  | 0, _ => -1
  | f + 1, i => if i < s.size then (if Utf8.decode s i = (65533, 1) then (i : Int) else bf s f (i + (Utf8.decode s i).2)) else -1
theorem bf_succ (s : ByteArray) (f i : Nat) : bf s (f + 1) i = if i < s.size then (if Utf8.decode s i = (65533, 1) then (i : Int) else bf s f (i + (Utf8.decode s i).2)) else -1 := rfl
theorem bf_fuel (s : ByteArray) : ∀ (f g i : Nat), s.size - i ≤ f → s.size - i ≤ g → bf s f i = bf s g i
  | 0, 0, _, _, _ => rfl
  | 0, g + 1, i, h, _ => by
    have : ¬ i < s.size := by omega
    simp [bf, this]
  | f + 1, 0, i, _, h => by
    have : ¬ i < s.size := by omega
    simp [bf, this]
  | f + 1, g + 1, i, h1, h2 => by
    unfold bf
    by_cases hi : i < s.size
    · rw [if_pos hi, if_pos hi]
      obtain ⟨-, d2, d3⟩ := decode_fits s i hi
      rw [bf_fuel s f g (i + (Utf8.decode s i).2) (by omega) (by omega)]
    · rw [if_neg hi, if_neg hi]
def badAt (s : ByteArray) (i : Nat) : Int := bf s (s.size - i) i
theorem badAt_end {s : ByteArray} {i : Nat} (h : ¬ i < s.size) : badAt s i = -1 := by
  unfold badAt
  rw [show s.size - i = 0 by omega]
  rfl
theorem badAt_bad {s : ByteArray} {i : Nat} (h : i < s.size) (hd : Utf8.decode s i = (65533, 1)) : badAt s i = i := by
  unfold badAt
  obtain ⟨f, hf⟩ : ∃ f, s.size - i = f + 1 := ⟨s.size - i - 1, by omega⟩
  rw [hf]
  unfold bf
  rw [if_pos h, if_pos hd]
theorem badAt_step {s : ByteArray} {i : Nat} (h : i < s.size) (hd : Utf8.decode s i ≠ (65533, 1)) : badAt s i = badAt s (i + (Utf8.decode s i).2) := by
  obtain ⟨-, d2, d3⟩ := decode_fits s i h
  unfold badAt
  obtain ⟨f, hf⟩ : ∃ f, s.size - i = f + 1 := ⟨s.size - i - 1, by omega⟩
  rw [hf, bf_succ, if_pos h, if_neg hd, bf_fuel s f (s.size - (i + (Utf8.decode s i).2)) _ (by omega) (by omega)]
/-- What RuneAt says, in the words of the decoder. -/
theorem runeB_bad {s : ByteArray} {i : Nat} (h : i < s.size) (hd : Utf8.decode s i = (65533, 1)) : runeB s i = (0, -1) := runeB_no s i h hd
theorem runeB_good {s : ByteArray} {i : Nat} (h : i < s.size) (hd : Utf8.decode s i ≠ (65533, 1)) : runeB s i = (((Utf8.decode s i).1 : Int), ((i + (Utf8.decode s i).2 : Nat) : Int)) := by
  unfold runeB
  rw [if_pos h, if_neg hd]
theorem decodeL_drop (s : ByteArray) (i : Nat) (hi : i < s.size) : Lib.decodeL (s.data.toList.drop i) = Utf8.decode s i := by
  have he : (⟨(s.data.toList.drop i).toArray⟩ : ByteArray) = s.extract i s.size := by
    apply ByteArray.ext
    rw [ByteArray.data_extract]
    apply Array.toList_inj.1
    rw [Array.toList_extract, List.extract_eq_take_drop]
    show s.data.toList.drop i = _
    rw [List.take_of_length_le (by rw [List.length_drop, Array.length_toList]; exact Nat.le_refl _)]
  unfold Lib.decodeL
  rw [he]
  have hz : (s.extract i s.size).size = s.size - i := by simp
  rw [Lib.decode_at, Lib.decode_at, hz]
  simp only [get_extract s i _ (Nat.le_of_lt hi), Nat.zero_add, Nat.sub_zero, Nat.add_zero]
theorem valid_at (s : ByteArray) : ∀ (n i : Nat), s.size - i ≤ n → Lib.validD (s.data.toList.drop i) = (runesAt s i).isSome
  | 0, i, h => by
    rw [List.drop_eq_nil_of_le (by rw [Array.length_toList]; show s.size ≤ i; omega), Lib.validD_nil, runesAt_end (by omega)]
    rfl
  | n + 1, i, h => by
    by_cases hi : i < s.size
    · have hne : s.data.toList.drop i ≠ [] := by
        intro e
        have := congrArg List.length e
        rw [List.length_drop, Array.length_toList] at this
        have h2 : s.data.size = s.size := rfl
        simp at this
        omega
      rw [Lib.validD_step _ hne, decodeL_drop s i hi]
      by_cases hd : Utf8.decode s i = (65533, 1)
      · rw [if_pos (by rw [hd]; exact ⟨rfl, rfl⟩), runesAt_bad hi hd]
        rfl
      · obtain ⟨-, d2, d3⟩ := decode_fits s i hi
        rw [if_neg (fun e => hd (Prod.ext e.1 e.2)), runesAt_step hi hd, List.drop_drop, valid_at s n (i + (Utf8.decode s i).2) (by omega)]
        cases runesAt s (i + (Utf8.decode s i).2) <;> rfl
    · rw [List.drop_eq_nil_of_le (by rw [Array.length_toList]; show s.size ≤ i; omega), Lib.validD_nil, runesAt_end hi]
      rfl
theorem c_impl_Utf8Ok (s : ByteArray) (w : World) (hs : s.size ≤ 9223372036854775807) (hT : Tabs w) :
    Calls Tryz.prog 117 #[.string s] w fun e w' => e = .returned (.bool (utf8B s)) ∧ Below w.heap.size w w' := by
  have hv := valid_at s s.size 0 (by omega)
  rw [List.drop_zero] at hv
  have h : Calls Tryz.prog 140 #[.string s] w fun e w' => e = .returned (.bool (Lib.validD s.data.toList)) ∧ Below w.heap.size w w' := Any.utf8_ValidString laysVal s w hs hT
  rw [hv] at h
  have H := Lib.hid h
  clear h hv hT
  go_enter Tryz.func117, Tryz.ntmps117
  go_wp2_with fail
  refine H.out.mono ?_
  rintro e w1 ⟨rfl, hb⟩
  go_wp2_with fail
  go_ret
  exact ⟨rfl, hb⟩
def encZ (n : Int) : List Value := [.int .i64 n]
theorem encZ_len (n : Int) : (encZ n).length = 1 := rfl
theorem encZ_one (n : Int) : ∀ v ∈ encZ n, v.oneCell' = true := by intro u hu; simp [encZ] at hu; subst hu; rfl
def C_Z (n : Int) (es : List Value) : Prop := es = encZ n
theorem encZ_C (n : Int) (es : List Value) (h : C_Z n es) : es = encZ n := h
end Go.Proofs.YtffelpdefjkeaaaGreatDoor
namespace Go.Proofs.YtffelpdefjkeaaaGreatDoor
open Go.RowKit
def zs (M : List Nat) : List Int := M.map fun n : Nat => (n : Int)
theorem zs_len (M : List Nat) : (zs M).length = M.length := List.length_map _
theorem map_nil_app (o : Option (List Nat)) : o = o.map ([] ++ ·) := by cases o <;> rfl
theorem map_app (o : Option (List Nat)) (M : List Nat) (r : Nat) : (o.map (r :: ·)).map (M ++ ·) = o.map ((M ++ [r]) ++ ·) := by
  cases o with
  | none => rfl
  | some l => show some (M ++ (r :: l)) = some ((M ++ [r]) ++ l); rw [List.append_assoc]; rfl
set_option maxHeartbeats 1000000 in
set_option maxRecDepth 10000 in
theorem c_spec_RunesOf (s : ByteArray) (w : World) (hs : s.size ≤ 1048576) :
    Calls Tryz.prog 120 #[.string s] w fun e w' => ∃ (M : List Nat) (A : Option Addr) (c : Nat), e = .returned (.tuple #[.slice A M.length c, .bool (utf8B s)]) ∧ (∀ l, runesAt s 0 = some l → M = l) ∧ RowE encZ 1 3 w.heap.size w' (zs M) (.slice A M.length c) ∧ Below w.heap.size w w' := by
  obtain ⟨i0, hi, hz0, hz1, hz2⟩ := info_parts (show (Tryz.prog.info? 3).map (fun i => (i.zero, i.size, i.bytes)) = some (some (.int .i64 0), 1, 8) from by kernel_rfl)
  go_enter Tryz.func120, Tryz.ntmps120
  go_wp2_with fail
  go_loopw [4, 5] (fun s4 s5 wr => ∃ (i : Nat) (M : List Nat) (A : Option Addr) (c : Nat), i ≤ s.size ∧ s5 = .int .i64 i ∧ s4 = .slice A M.length c ∧ RowE encZ 1 3 w.heap.size wr (zs M) (.slice A M.length c) ∧ M.length ≤ i ∧ runesAt s 0 = (runesAt s i).map (M ++ ·) ∧ Below w.heap.size w wr) (fun _ s5 _ => s.size - (Lib.intOf s5).toNat)
  case atStart => exact ⟨0, [], some ⟨w.heap.size, 0, none⟩, 0, by omega, rfl, rfl, own_empty rfl (Nat.le_refl _), by simp, map_nil_app _, bel⟩
  case round =>
    obtain ⟨i, M, A, c, hil, rfl, rfl, hR, hMi, hrun, hbr⟩ := hrel
    have HR := Lib.hid hR
    have HRun := Lib.hid hrun
    clear hR hrun
    by_cases hlt : (i : Int) < s.size
    · have h0 : (0 : Int) ≤ i := by omega
      go_wp2_with fail
      refine (c_spec_RuneAt s i _ (by omega) (by omega)).mono ?_
      rintro e w1 ⟨rfl, hb⟩
      have hsz := hb.size
      have B1 : Below w.heap.size w w1 := hbr.trans (hb.mono hbr.size)
      by_cases hd : Utf8.decode s i = (65533, 1)
      · have Hf := Lib.hid (show utf8B s = false by unfold utf8B; rw [HRun.out, runesAt_bad (by omega) hd]; rfl)
        have Hn := Lib.hid (show ∀ l, runesAt s 0 = some l → ([] : List Nat) = l from fun l h => by rw [HRun.out, runesAt_bad (by omega) hd] at h; cases h)
        rw [runeB_bad (by omega) hd]
        clear hd
        go_wp2_with fail
        go_ret2
        exact ⟨[], some ⟨w1.heap.size, 0, none⟩, 0, by rw [Hf.out]; rfl, Hn.out, own_empty rfl B1.size, bel⟩
      · obtain ⟨d1, d2, d3⟩ := decode_fits s i (by omega)
        have hst := runesAt_step (show i < s.size by omega) hd
        rw [runeB_good (by omega) hd]
        obtain ⟨r, hr⟩ : ∃ r, r = (Utf8.decode s i).1 := ⟨_, rfl⟩
        obtain ⟨q, hq⟩ : ∃ q, q = i + (Utf8.decode s i).2 := ⟨_, rfl⟩
        rw [← hr, ← hq] at hst
        rw [← hr, ← hq]
        have hqs : q ≤ s.size := by omega
        have hqi : i < q := by omega
        have Hrun := Lib.hid (show runesAt s 0 = (runesAt s q).map ((M ++ [r]) ++ ·) by rw [HRun.out, hst, map_app])
        have hq0 : decide ((q : Int) < 0) = false := decide_eq_false (by omega)
        clear hr hq hst hd d1 d2 d3 HRun
        have hR1 := HR.out.below hb
        have hb0 : Below w1.heap.size w1 (w1.alloc (.cells #[.int .i64 (r : Int)] 3)) := bel
        obtain ⟨v5, w5, hr5, hR5, hg5, -⟩ := run_append_rows (P := Tryz.prog) (enc := encZ) (C := C_Z) (w1.alloc (.cells #[.int .i64 (r : Int)] 3)) 88 88 w.heap.size 3 i0 (.int .i64 0) 1 8 Tryz.underlying88 hi hz0 hz1 hz2 rfl (by decide) encZ_len encZ_one encZ_C _ M.length (zs M) (zs_len M) (hR1.below hb0) [(r : Int)] (some ⟨w1.heap.size, 0, none⟩) 1 1 _ _ rfl (sl_one (C := C_Z) encZ_len w1 (r : Int) rfl 3 _ rfl) (by unfold maxLen; omega) (by omega) (by have := B1.size; simp; omega)
        have hE : zs M ++ [(r : Int)] = zs (M ++ [r]) := by unfold zs; rw [List.map_append]; rfl
        rw [hE] at hR5
        obtain ⟨A5, c5, rfl⟩ := hR5.form
        have HR5 := Lib.hid hR5
        have HB5 := Lib.hid (show Below w.heap.size w w5 from Below.grown (B1.trans (hb0.mono B1.size)) hg5 (by have := B1.size; simp; omega) (fun q hq => (World.ownsRow.lt hR1 q hq).1))
        have HL := Lib.hid (show (zs (M ++ [r])).length = M.length + 1 by rw [zs_len]; simp)
        clear hR5 hg5 hb0 hR1 hE hb
        go_wp2_with (at_builtin; refine wpList_append_of rfl (.tmp 22) (.tmp 24) 88 rfl _ _ _ w5 rfl rfl hr5 ?_)
        clear hr5
        go_roundw
        case rel => exact ⟨q, M ++ [r], A5, c5, hqs, rfl, by rw [zs_len], by have h9 := HR5.out; rw [zs_len] at h9; exact h9, by simp; omega, Hrun.out, HB5.out⟩
        case measure => simp [Lib.intOf]; omega
    · have he : runesAt s i = some [] := runesAt_end (by omega)
      have Hf := Lib.hid (show utf8B s = true by unfold utf8B; rw [HRun.out, he]; rfl)
      have Hn := Lib.hid (show ∀ l, runesAt s 0 = some l → M = l from fun l h => by rw [HRun.out, he] at h; simpa using h)
      go_wp2_with fail
      go_ret2
      exact ⟨M, A, c, by rw [Hf.out]; rfl, Hn.out, HR.out, hbr⟩
theorem c_spec_Utf8Ok (s : ByteArray) (w : World) (hs : s.size ≤ 1048576) :
    Calls Tryz.prog 118 #[.string s] w fun e w' => e = .returned (.bool (utf8B s)) ∧ Below w.heap.size w w' := by
  go_enter Tryz.func118, Tryz.ntmps118
  go_wp2_with fail
  refine (c_spec_RunesOf s _ hs).mono ?_
  rintro e w1 ⟨M, A, c, rfl, -, -, hb⟩
  go_wp2_with fail
  go_ret
  exact ⟨rfl, hb⟩
end Go.Proofs.YtffelpdefjkeaaaGreatDoor
namespace Go.Proofs.YtffelpdefjkeaaaGreatDoor
open Go.RowKit
structure Flt where
  code : Int
  at' : Int
  path : ByteArray
def fltC (f : Flt) : Array Value := #[.int .i64 f.code, .int .i64 f.at', .string f.path]
def flt0 : Flt := ⟨0, 0, ⟨#[]⟩⟩
/-- The fault of a text as such. -/
def textF (s : ByteArray) : Flt := if 20000 < s.size then ⟨1, 0, ⟨#[]⟩⟩ else if 0 ≤ badAt s 0 then ⟨2, badAt s 0, ⟨#[]⟩⟩ else flt0
set_option maxHeartbeats 1000000 in
set_option maxRecDepth 10000 in
theorem c_impl_textFault (s : ByteArray) (w : World) (hs : s.size ≤ 1048576) (hT : Tabs w) :
    Calls Tryz.prog 64 #[.string s] w fun e w' => e = .returned (.agg (fltC (textF s))) ∧ Below w.heap.size w w' := by
  have HT := Lib.hid hT
  clear hT
  by_cases hl : (20000 : Int) < s.size
  · have Hf := Lib.hid (show textF s = ⟨1, 0, ⟨#[]⟩⟩ by unfold textF; rw [if_pos (by omega)])
    go_enter Tryz.func64, Tryz.ntmps64
    go_wp2_with fail
    exact bodyPost_ret (v := .agg #[.int .i64 1, .int .i64 0, .string ⟨#[]⟩]) (by simp only [results, Tryz.results64]; go_simp) rfl ⟨by rw [Hf.out]; rfl, bel⟩
  · have hl2 : s.size ≤ 20000 := by omega
    have hl3 : decide ((20000 : Int) < s.size) = false := decide_eq_false hl
    clear hl
    go_enter Tryz.func64, Tryz.ntmps64
    go_wp2_with fail
    go_loopw [3] (fun s3 wr => ∃ i : Nat, i ≤ s.size ∧ s3 = .int .i64 i ∧ badAt s 0 = badAt s i ∧ wr.heap[w.heap.size]? = some (.cells #[.int .i64 0, .int .i64 0, .string ⟨#[]⟩] 29 (0, 0)) ∧ Below w.heap.size w wr) (fun s3 _ => s.size - (Lib.intOf s3).toNat)
    case atStart => exact ⟨0, by omega, rfl, rfl, heap_at (by simp), bel⟩
    case round =>
      obtain ⟨i, hil, rfl, hrun, hbox, hbr⟩ := hrel
      have HRun := Lib.hid hrun
      have HBox := Lib.hid hbox
      have hlb := row_lt hbox
      clear hrun hbox
      by_cases hlt : (i : Int) < s.size
      · have h0 : (0 : Int) ≤ i := by omega
        go_wp2_with fail
        refine (c_impl_RuneAt s i _ (by omega) (by omega) (HT.out.below hbr)).mono ?_
        rintro e w1 ⟨rfl, hb⟩
        have B1 : Below w.heap.size w w1 := hbr.trans (hb.mono hbr.size)
        have hbox := (hb.block _ hlb).trans HBox.out
        obtain ⟨a0, a1, a2, af⟩ := row3 hbox
        have hlc := row_lt hbox
        have HBo := Lib.hid hbox
        clear hbox
        by_cases hd : Utf8.decode s i = (65533, 1)
        · have Hf := Lib.hid (show textF s = ⟨2, i, ⟨#[]⟩⟩ by unfold textF; rw [if_neg (by omega), HRun.out, badAt_bad (by omega) hd, if_pos (by omega)])
          rw [runeB_bad (by omega) hd]
          clear hd
          go_wp2_with fail
          exact bodyPost_ret (v := .agg #[.int .i64 2, .int .i64 i, .string ⟨#[]⟩]) (by simp only [results, Tryz.results64]; go_simp) rfl ⟨by rw [Hf.out]; rfl, bel⟩
        · obtain ⟨d1, d2, d3⟩ := decode_fits s i (by omega)
          have hst := badAt_step (show i < s.size by omega) hd
          rw [runeB_good (by omega) hd]
          obtain ⟨r, hr⟩ : ∃ r, r = (Utf8.decode s i).1 := ⟨_, rfl⟩
          obtain ⟨q, hq⟩ : ∃ q, q = i + (Utf8.decode s i).2 := ⟨_, rfl⟩
          rw [← hq] at hst
          rw [← hr, ← hq]
          have hqs : q ≤ s.size := by omega
          have hqi : i < q := by omega
          have Hrun := Lib.hid (show badAt s 0 = badAt s q by rw [HRun.out, hst])
          have hq0 : decide ((q : Int) < 0) = false := decide_eq_false (by omega)
          clear hr hq hst hd d1 d2 d3 HRun
          go_wp2_with fail
          go_roundw
          case rel => exact ⟨q, hqs, rfl, Hrun.out, HBo.out, B1⟩
          case measure => simp [Lib.intOf]; omega
      · have Hf := Lib.hid (show textF s = flt0 by unfold textF; rw [if_neg (by omega), HRun.out, badAt_end (by omega), if_neg (by omega)])
        obtain ⟨a0, a1, a2, af⟩ := row3 HBox.out
        go_wp2_with fail
        exact bodyPost_ret (v := .agg #[.int .i64 0, .int .i64 0, .string ⟨#[]⟩]) (by simp only [results, Tryz.results64]; go_simp) rfl ⟨by rw [Hf.out]; rfl, bel⟩
end Go.Proofs.YtffelpdefjkeaaaGreatDoor
namespace Go.Proofs.YtffelpdefjkeaaaGreatDoor
open Go.RowKit
def byteI (s : ByteArray) (j : Nat) : Int := ((s.get! j).toNat : Int)
theorem byteI_range (s : ByteArray) (j : Nat) : 0 ≤ byteI s j ∧ byteI s j < 256 := by
  have := (s.get! j).toNat_lt
  unfold byteI
  omega
end Go.Proofs.YtffelpdefjkeaaaGreatDoor
