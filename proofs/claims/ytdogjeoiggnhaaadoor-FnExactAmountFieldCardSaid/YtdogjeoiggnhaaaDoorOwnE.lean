/- What the call itself has made: blocks apart, rows of strings, rows that grow, the marks' texts. No conditions. -/
import Derived.Test.YtdogjeoiggnhaaaDoorStrs
import Derived.Deep.AppendLies
import Derived.OwnWalk
namespace Go.Proofs.YtdogjeoiggnhaaaDoor
open Go.RowKit

/-- Blocks that are not in S are the same in both worlds. -/
structure Aside (S : Nat → Prop) (w w' : World) : Prop where
  os : w'.os = w.os
  tape : w'.tape = w.tape
  output : w'.output = w.output
  size : w.heap.size ≤ w'.heap.size
  block : ∀ b, b < w.heap.size → ¬ S b → w'.heap[b]? = w.heap[b]?
theorem Aside.refl (S : Nat → Prop) (w : World) : Aside S w w := ⟨rfl, rfl, rfl, Nat.le_refl _, fun _ _ _ => rfl⟩
theorem Aside.trans {S : Nat → Prop} {a b c : World} (h : Aside S a b) (k : Aside S b c) : Aside S a c :=
  ⟨k.os.trans h.os, k.tape.trans h.tape, k.output.trans h.output, Nat.le_trans h.size k.size, fun i hi hs => (k.block i (Nat.lt_of_lt_of_le hi h.size) hs).trans (h.block i hi hs)⟩
theorem Aside.mono {S S' : Nat → Prop} {a b : World} (h : Aside S a b) (hs : ∀ i, S i → S' i) : Aside S' a b := ⟨h.os, h.tape, h.output, h.size, fun i hi hn => h.block i hi (fun x => hn (hs i x))⟩
theorem Aside.of_below {S : Nat → Prop} {a b : World} (h : Below a.heap.size a b) : Aside S a b := ⟨h.os, h.tape, h.output, h.size, fun i hi _ => h.block i hi⟩
theorem Aside.below {S : Nat → Prop} {B : Nat} {a b : World} (h : Aside S a b) (hB : B ≤ a.heap.size) (hs : ∀ i, S i → B ≤ i) : Below B a b :=
  ⟨h.os, h.tape, h.output, h.size, fun i hi => h.block i (Nat.lt_of_lt_of_le hi hB) (fun x => absurd (hs i x) (by omega))⟩
theorem Aside.setCell {S : Nat → Prop} {a b : World} {p : Addr} {u : Value} (h : Aside S a b) (hp : S p.block) : Aside S a (b.setCell p u) :=
  h.trans ⟨rfl, rfl, rfl, by simp [World.setCell], fun i _ hn => Below.heap_setCell b p u i (fun e => hn (e ▸ hp))⟩
/-- v is a slice of the strings l, in a row of a block of S. -/
def OwnS (S : Nat → Prop) (w : World) (l : List ByteArray) (v : Value) : Prop :=
  ∃ A c, v = .slice A l.length c ∧ l.length ≤ c ∧ c ≤ 9223372036854775807 ∧ (0 < l.length → ∃ g cur, A = some ⟨g, 0, none⟩ ∧ S g ∧ w.heap[g]? = some (.cells cur 9 (0, 0)) ∧ ∀ (i : Nat) (s : ByteArray), l[i]? = some s → cur[i]? = some (Value.string s) ∧ s.size ≤ 9223372036854775807)
theorem OwnS.form {S : Nat → Prop} {w : World} {l : List ByteArray} {v : Value} (h : OwnS S w l v) : ∃ A c, v = .slice A l.length c := by
  obtain ⟨A, c, hv, _⟩ := h
  exact ⟨A, c, hv⟩
theorem OwnS.carry {S S' : Nat → Prop} {w w' : World} {l : List ByteArray} {v : Value} (h : OwnS S w l v) (hs : ∀ b, S b → w'.heap[b]? = w.heap[b]?) (hS : ∀ b, S b → S' b) : OwnS S' w' l v := by
  obtain ⟨A, c, hv, h1, h2, h3⟩ := h
  refine ⟨A, c, hv, h1, h2, fun hp => ?_⟩
  obtain ⟨g, cur, hA, hg, hr, hc⟩ := h3 hp
  exact ⟨g, cur, hA, hS g hg, (hs g hg).trans hr, hc⟩
theorem OwnS.toC {S : Nat → Prop} {lo hi : Nat} {w : World} {l : List ByteArray} {v : Value} (h : OwnS S w l v) (hS : ∀ b, S b → lo ≤ b ∧ b < hi) : Sl_Str lo hi w l v := by
  obtain ⟨A, c, rfl, h1, h2, h3⟩ := h
  refine ⟨A, c, rfl, h1, h2, fun hp => ?_⟩
  obtain ⟨g, cur, rfl, hg, hr, hc⟩ := h3 hp
  refine ⟨g, 0, rfl, (hS g hg).1, (hS g hg).2, fun i s hs => ⟨[.string s], rfl, fun j hj => ?_, rfl, (hc i s hs).2⟩⟩
  obtain rfl : j = 0 := by omega
  rw [cell_of_row w g _ cur _ _ hr]
  simpa using (hc i s hs).1
def digit (k : Nat) : ByteArray := ⟨#[UInt8.ofNat (48 + k % 10)]⟩
def mkL (k : Nat) (out : ByteArray) : ByteArray := if k = 0 then out else mkL (k / 10) (digit k ++ out)
  termination_by k
  decreasing_by omega
theorem mkL_zero (out : ByteArray) : mkL 0 out = out := by rw [mkL]; rfl
theorem mkL_pos (k : Nat) (out : ByteArray) (h : 0 < k) : mkL k out = mkL (k / 10) (digit k ++ out) := by rw [mkL, if_neg (by omega)]
/-- The mark's text. -/
def mkS (k : Nat) : ByteArray := ⟨#[109]⟩ ++ mkL k ⟨#[]⟩
theorem mkL_size (k : Nat) (out : ByteArray) : (mkL k out).size ≤ out.size + k := by
  induction k using Nat.strongRecOn generalizing out with
  | ind k ih =>
    rcases Nat.eq_zero_or_pos k with rfl | h
    · rw [mkL_zero]; omega
    · rw [mkL_pos k out h]
      have h1 := ih (k / 10) (by omega) (digit k ++ out)
      have h2 : (digit k ++ out).size = 1 + out.size := by rw [ByteArray.size_append]; rfl
      omega
def mkI (k : Int) : ByteArray := mkS k.toNat
theorem mkI_size (k : Int) (h : k ≤ 4611686018427387904) : (mkI k).size ≤ 9223372036854775807 := by
  unfold mkI mkS
  have h1 := mkL_size k.toNat ⟨#[]⟩
  rw [ByteArray.size_append]
  have h2 : (⟨#[109]⟩ : ByteArray).size = 1 := rfl
  have h3 : (⟨#[]⟩ : ByteArray).size = 0 := rfl
  omega
/-- The strings l bear the marks from k on. -/
def MkSs (k : Int) (l : List ByteArray) : Prop := ∀ (i : Nat) (s : ByteArray), l[i]? = some s → s = mkI (k + i)
theorem add_at (b o j : Nat) : (⟨b, o, none⟩ : Addr).add j = ⟨b, o + j, none⟩ := by
  unfold Addr.add
  split
  · simp_all
  · rfl
theorem aside_set {S : Nat → Prop} {a b : World} {p : Addr} {u : Value} (hp : S p.block) (h : Aside S a b) : Aside S a (b.setCell p u) := h.setCell hp
theorem aside_alloc {S : Nat → Prop} {a b : World} {o : Obj} (h : Aside S a b) : Aside S a (b.alloc o) :=
  h.trans ⟨rfl, rfl, rfl, by simp, fun i hi _ => Below.heap_alloc b o i hi⟩
theorem heap_at {w : World} {o : Obj} {b : Nat} (h : b = w.heap.size) : (w.alloc o).heap[b]? = some o := by subst h; exact heap_alloc_new w o
theorem row6 {w : World} {b : Nat} {a0 a1 a2 a3 a4 a5 : Value} {e : TypeId} (hr : w.heap[b]? = some (.cells #[a0, a1, a2, a3, a4, a5] e (0, 0))) :
    w.cell? ⟨b, 0, none⟩ = some a0 ∧ w.cell? ⟨b, 1, none⟩ = some a1 ∧ w.cell? ⟨b, 2, none⟩ = some a2 ∧ w.cell? ⟨b, 3, none⟩ = some a3 ∧ w.cell? ⟨b, 4, none⟩ = some a4 ∧ w.cell? ⟨b, 5, none⟩ = some a5 ∧ ∀ o, w.frozen? ⟨b, o, none⟩ = false :=
  ⟨by rw [cell_of_row _ _ _ _ _ _ hr]; rfl, by rw [cell_of_row _ _ _ _ _ _ hr]; rfl, by rw [cell_of_row _ _ _ _ _ _ hr]; rfl, by rw [cell_of_row _ _ _ _ _ _ hr]; rfl, by rw [cell_of_row _ _ _ _ _ _ hr]; rfl, by rw [cell_of_row _ _ _ _ _ _ hr]; rfl, fun o => frozen_row hr o⟩
theorem ownsRow_carry {w w' : World} {base : Nat} {e : TypeId} {size : Nat} {v : Value} {n : Nat} {xs : List Value} (h : w.ownsRow base e size v n xs) (hb : ∀ g, v.ownBlock = some g → w'.heap[g]? = w.heap[g]?) : w'.ownsRow base e size v n xs := by
  refine ⟨h.1, ?_⟩
  rcases h.2 with h0 | ⟨g, cap, cur, rfl, h1, h2, h3⟩
  · exact .inl h0
  · exact .inr ⟨g, cap, cur, rfl, h1, (hb g rfl).trans h2, h3⟩
theorem news_strs {w : World} {lo hi : Nat} {l : List ByteArray} {A : Addr} {c : Nat} (h : Sl_Str lo hi w l (.slice (some A) l.length c)) (hp : 0 < l.length) : ∀ j u, (l.map Value.string)[j]? = some u → w.cell? (A.add j) = some u := by
  intro j u hu
  obtain ⟨A', c', hv, h1, h2, h3⟩ := h
  obtain ⟨b, o, rfl, -, -, hcell⟩ := h3 hp
  simp only [Value.slice.injEq, Option.some.injEq] at hv
  obtain ⟨rfl, -, -⟩ := hv
  rw [List.getElem?_map] at hu
  rcases hs : l[j]? with _ | s
  · rw [hs] at hu; cases hu
  · rw [hs] at hu
    simp at hu
    subst hu
    obtain ⟨cs, -, hcs, rfl, -⟩ := hcell j s hs
    have := hcs 0 (by omega)
    rw [add_at]
    simpa using this
theorem one_strs (l : List ByteArray) : ∀ u ∈ l.map Value.string, u.oneCell' = true := by
  intro u hu
  obtain ⟨s, -, rfl⟩ := List.mem_map.1 hu
  rfl
theorem size_strs {w : World} {lo hi : Nat} {l : List ByteArray} {v : Value} (h : Sl_Str lo hi w l v) : ∀ s ∈ l, s.size ≤ 9223372036854775807 := by
  intro s hs
  obtain ⟨i, hi⟩ := List.getElem?_of_mem hs
  obtain ⟨A, c, rfl, -, -, h3⟩ := h
  obtain ⟨b, o, -, -, -, hcell⟩ := h3 (Nat.lt_of_le_of_lt (Nat.zero_le i) (List.getElem?_eq_some_iff.1 hi).1)
  obtain ⟨cs, -, -, -, h4⟩ := hcell i s hi
  exact h4
theorem run_append_none {P : Program} (w : World) (t ty : TypeId) (base : Nat) (e : TypeId) (i : TypeInfo) (size : Nat) (ht : P.underlying t = some (.slice e)) (hi : P.info? e = some i)
    (v : Value) (n : Nat) (xs : List Value) (hown : w.ownsRow base e size v n xs) (c : Nat) :
    (Builtin.append_ #[t, t] ty #[v, .slice none 0 c]).run P w = .ok v w := by
  rcases hown.2 with ⟨rfl, rfl⟩ | ⟨g, cap, cur, rfl, hb, hg, hnc, _⟩
  · simp [Builtin.append_, run_underlying ht, sizeOf, typeInfo, hi, Builtin.lenOf, Builtin.firstCells]
  · simp [Builtin.append_, run_underlying ht, sizeOf, typeInfo, hi, Builtin.lenOf, Builtin.firstCells, loadCells, storeCells, hnc]
theorem wpList_append_of {P : Program} {w : World} {ops : Array Oper} {rest : List Oper} {o : Oper} {a : Act} {Q : Exit → Act → World → Prop} (hgd : o.guard = none) (s x : Operand) (t : TypeId)
    (ho : o.op = .call { callee := .builtin .append, args := #[s, x], argTypes := #[t, t] }) (v u v' : Value) (w' : World) (hs : a.eval s = v) (hx : a.eval x = u)
    (hr : (Builtin.append_ #[t, t] o.type #[v, u]).run P w = .ok v' w') (h : wpList P ops Q rest (a.put o.dst v') w') : wpList P ops Q (o :: rest) a w :=
  wpList_plain hgd fun K hK => by
    unfold Oper.wp execOp
    simp only [ho, resolve, invoke, builtin, Sem.run_bind, Sem.run_pure, Result.andThen_ok, List.map_toArray, List.map_cons, List.map_nil, hs, hx, hr]
    exact hK _ _ h
/-- Appending a slice of strings, whatever it is. -/
theorem wpList_append_strs {P : Program} {w : World} {ops : Array Oper} {rest : List Oper} {o : Oper} {a : Act} {Q : Exit → Act → World → Prop} (hgd : o.guard = none) (s x : Operand) (t : TypeId)
    (ho : o.op = .call { callee := .builtin .append, args := #[s, x], argTypes := #[t, t] }) (base : Nat) (e : TypeId) (i : TypeInfo) (z : Value) (bytes : Nat) (ht : P.underlying t = some (.slice e)) (hi : P.info? e = some i) (hz : i.zero = some z)
    (hsize : i.size = 1) (hby : i.bytes = bytes) (hzs : z.cells.size = 1) (v : Value) (n : Nat) (xs : List Value) (hs : a.eval s = v) (hown : w.ownsRow base e 1 v n xs)
    (l : List ByteArray) (A : Option Addr) (c lo hi' : Nat) (hx : a.eval x = .slice A l.length c) (hl : Sl_Str lo hi' w l (.slice A l.length c)) (h63 : n + l.length ≤ 9223372036854775807) (hbytes : (n + l.length) * bytes ≤ 140737488355328) (hbase : base ≤ w.heap.size)
    (h : ∀ v' w', w'.ownsRow base e 1 v' (n + l.length) (xs ++ l.map Value.string) → w.grownBy w' v.ownBlock → (v'.ownBlock = v.ownBlock ∨ v'.ownBlock = some w.heap.size) → wpList P ops Q rest (a.put o.dst v') w') : wpList P ops Q (o :: rest) a w := by
  by_cases hp : 0 < l.length
  · have hl2 := hl
    obtain ⟨A', c', hv, -, -, hA⟩ := hl
    obtain ⟨b, off, rfl, -⟩ := hA hp
    simp only [Value.slice.injEq] at hv
    obtain ⟨rfl, -, rfl⟩ := hv
    exact wpList_append_own_at w hgd s x t ho base e i z 1 bytes ht hi hz hsize hby hzs (by decide) v n xs hs hown ⟨b, off, none⟩ l.length c (l.map Value.string) hx (by simp) (news_strs hl2 hp) (one_strs l) (by unfold maxLen; omega) hbytes hbase (fun v' w' h1 h2 _ h4 => h v' w' h1 h2 h4)
  · obtain rfl : l = [] := List.eq_nil_of_length_eq_zero (by omega)
    rcases A with _ | ad
    · refine wpList_append_of hgd s x t ho v _ v w hs hx (run_append_none w t _ base e i 1 ht hi v n xs hown c) (h v w (by simpa using hown) (World.grownBy.refl _ _) (.inl rfl))
    · exact wpList_append_own_at w hgd s x t ho base e i z 1 bytes ht hi hz hsize hby hzs (by decide) v n xs hs hown ad 0 c [] hx rfl (fun j u h => by simp at h) (fun u h => by simp at h) (by unfold maxLen; omega) hbytes hbase (fun v' w' h1 h2 _ h4 => h v' w' h1 h2 h4)
theorem own_empty {w : World} {e : TypeId} {size base B : Nat} (hB : B = w.heap.size) (hb : base ≤ w.heap.size) : (w.alloc (.cells #[] e)).ownsRow base e size (.slice (some ⟨B, 0, none⟩) 0 0) 0 [] := by
  subst hB
  exact World.ownsRow_made w #[] 0 hb (by decide) (by simp)
theorem own_form {w : World} {base : Nat} {e : TypeId} {size : Nat} {v : Value} {n : Nat} {xs : List Value} (h : w.ownsRow base e size v n xs) : ∃ A c, v = .slice A n c := by
  rcases h.2 with ⟨rfl, rfl⟩ | ⟨g, cap, cur, rfl, _⟩
  · exact ⟨_, _, rfl⟩
  · exact ⟨_, _, rfl⟩
/-- Rows of different kinds are different blocks. -/
theorem own_apart {w : World} {base base' : Nat} {e e' : TypeId} {size size' : Nat} {v v' : Value} {n n' : Nat} {xs xs' : List Value} (h : w.ownsRow base e size v n xs) (h' : w.ownsRow base' e' size' v' n' xs') (he : e ≠ e') : ∀ g, v.ownBlock = some g → v'.ownBlock ≠ some g := by
  intro g h1 h2
  rcases h.2 with ⟨rfl, -⟩ | ⟨g1, cap, cur, rfl, -, hg, -⟩
  · cases h1
  · rcases h'.2 with ⟨rfl, -⟩ | ⟨g2, cap', cur', rfl, -, hg', -⟩
    · cases h2
    · simp [Value.ownBlock] at h1 h2
      subst h1 h2
      rw [hg] at hg'
      simp at hg'
      exact he hg'.2
theorem own_row {w : World} {base : Nat} {e : TypeId} {size : Nat} {g n cap : Nat} {xs : List Value} (h : w.ownsRow base e size (.slice (some ⟨g, 0, none⟩) n cap) n xs) : ∃ cur, w.heap[g]? = some (.cells cur e (0, 0)) ∧ n ≤ cap ∧ cap ≤ maxLen ∧ cur.size = cap * size ∧ cur.toList.take (n * size) = xs ∧ base ≤ g := by
  rcases h.2 with ⟨h1, -⟩ | ⟨g1, cap1, cur, h1, h2, h3, h4, h5, h6, h7⟩
  · cases h1
  · simp only [Value.slice.injEq, Option.some.injEq, Addr.mk.injEq, true_and] at h1
    obtain ⟨⟨rfl, -⟩, rfl⟩ := h1
    exact ⟨cur, h3, h4, h5, h6, h7, h2⟩
theorem own_strs {w : World} {base : Nat} {ks : List ByteArray} {v : Value} (h : w.ownsRow base 9 1 v ks.length (ks.map Value.string)) (hs : ∀ k ∈ ks, k.size ≤ 9223372036854775807) : Sl_Str base w.heap.size w ks v := by
  rcases h.2 with ⟨rfl, h0⟩ | ⟨g, cap, cur, rfl, hb, hg, hn, hcm, hcs, ht⟩
  · exact ⟨none, 0, by rw [h0], by omega, by omega, fun hp => by omega⟩
  · refine ⟨_, _, rfl, hn, hcm, fun hp => ⟨g, 0, rfl, hb, row_lt hg, ?_⟩⟩
    intro i s hi
    have hil := List.getElem?_eq_some_iff.1 hi
    refine ⟨[.string s], rfl, ?_, ?_⟩
    · intro j hj
      obtain rfl : j = 0 := by omega
      have : (cur.toList.take (ks.length * 1))[i]? = (ks.map Value.string)[i]? := by rw [ht]
      rw [List.getElem?_take, if_pos (by have := hil.1; omega), Array.getElem?_toList, List.getElem?_map, hi] at this
      rw [cell_of_row w g _ cur _ _ hg]
      simpa using this
    · exact ⟨rfl, hs s (List.mem_of_getElem? hi)⟩
/-- A row that is owned, read as cells to be appended. -/
theorem own_news {w : World} {base : Nat} {e : TypeId} {size : Nat} {g m cap : Nat} {news : List Value} (h : w.ownsRow base e size (.slice (some ⟨g, 0, none⟩) m cap) m news) : ∀ j u, news[j]? = some u → w.cell? ((⟨g, 0, none⟩ : Addr).add j) = some u := by
  obtain ⟨cur, hg, hn, hcm, hcs, ht, hb⟩ := own_row h
  intro j u hu
  have hadd : (⟨g, 0, none⟩ : Addr).add j = ⟨g, j, none⟩ := by unfold Addr.add; split <;> simp_all
  rw [hadd, cell_of_row w g j cur _ _ hg]
  rw [← ht, List.getElem?_take] at hu
  split at hu
  · simpa using hu
  · cases hu
/-- Appending a row that is owned, empty or not. -/
theorem run_append_row {P : Program} (w : World) (t ty : TypeId) (base : Nat) (e : TypeId) (i : TypeInfo) (z : Value) (size bytes : Nat) (ht : P.underlying t = some (.slice e)) (hi : P.info? e = some i) (hz : i.zero = some z)
    (hsize : i.size = size) (hby : i.bytes = bytes) (hzs : z.cells.size = size) (hsz : 0 < size) (v : Value) (n : Nat) (xs : List Value) (hown : w.ownsRow base e size v n xs)
    (base' m : Nat) (news : List Value) (u : Value) (hu : w.ownsRow base' e size u m news) (h1 : ∀ x ∈ news, x.oneCell' = true) (h63 : n + m ≤ maxLen) (hbytes : (n + m) * bytes ≤ 140737488355328) (hbase : base ≤ w.heap.size) :
    ∃ v' w', (Builtin.append_ #[t, t] ty #[v, u]).run P w = .ok v' w' ∧ w'.ownsRow base e size v' (n + m) (xs ++ news) ∧ w.grownBy w' v.ownBlock ∧ (v'.ownBlock = v.ownBlock ∨ v'.ownBlock = some w.heap.size) := by
  rcases hu.2 with ⟨rfl, rfl⟩ | ⟨g, cap, cur, rfl, -⟩
  · have hx : news = [] := List.eq_nil_of_length_eq_zero (by have := hu.1; omega)
    subst hx
    exact ⟨v, w, run_append_none w t ty base e i size ht hi v n xs hown 0, by simpa using hown, World.grownBy.refl _ _, .inl rfl⟩
  · obtain ⟨v', w', hr, h2, h3, _, h5⟩ := run_append_own_at (P := P) w base t ty e i z size bytes ht hi hz hsize hby hzs hsz v n xs hown ⟨g, 0, none⟩ m cap news hu.1 (own_news hu) h1 h63 hbytes hbase
    exact ⟨v', w', hr, h2, h3, h5⟩
/-- Appending nothing. -/
theorem run_append_zero {P : Program} (w : World) (t ty : TypeId) (e : TypeId) (i : TypeInfo) (ht : P.underlying t = some (.slice e)) (hi : P.info? e = some i) (ad : Addr) (n cap : Nat) (hn : n ≤ cap) (A : Option Addr) (c : Nat) :
    (Builtin.append_ #[t, t] ty #[.slice (some ad) n cap, .slice A 0 c]).run P w = .ok (.slice (some ad) n cap) w := by
  rcases A with _ | a
  · simp [Builtin.append_, run_underlying ht, sizeOf, typeInfo, hi, Builtin.lenOf, Builtin.firstCells, loadCells, storeCells, hn]
  · simp [Builtin.append_, run_underlying ht, sizeOf, typeInfo, hi, Builtin.lenOf, Builtin.firstCells, loadCells, loadCellsFrom, storeCells, hn]
theorem step_append_of {P : Program} {w : World} {ops : Array Oper} {o : Oper} {a : Act} {K : Act → World → Prop} {Q : Exit → Act → World → Prop} {E : Prop} (hgd : o.guard = none) (s x : Operand) (t : TypeId)
    (ho : o.op = .call { callee := .builtin .append, args := #[s, x], argTypes := #[t, t] }) (v u v' : Value) (w' : World) (hs : a.eval s = v) (hx : a.eval x = u)
    (hr : (Builtin.append_ #[t, t] o.type #[v, u]).run P w = .ok v' w') (h : K (a.put o.dst v') w') : if Region.wanted o (yielded ops a.tmps) = true then Oper.wp P o a w K Q else E := by
  have hw : Region.wanted o (yielded ops a.tmps) = true := by simp [Region.wanted, hgd]
  rw [if_pos hw]
  unfold Oper.wp execOp
  simp only [ho, resolve, invoke, builtin, Sem.run_bind, Sem.run_pure, Result.andThen_ok, List.map_toArray, List.map_cons, List.map_nil, hs, hx, hr]
  exact h
theorem own_eq {w w' : World} {base : Nat} {e : TypeId} {size : Nat} {v : Value} {n : Nat} {xs : List Value} (h : w.ownsRow base e size v n xs) (he : w'.heap = w.heap) : w'.ownsRow base e size v n xs := ownsRow_carry h (fun q _ => by rw [he])
theorem own_cap {w : World} {base : Nat} {e : TypeId} {size n c : Nat} {A : Option Addr} {xs : List Value} (h : w.ownsRow base e size (.slice A n c) n xs) : n ≤ c := by
  rcases h.2 with ⟨h1, rfl⟩ | ⟨g, cap, cur, h1, hb, hg, hn, hcm, hcs, ht⟩
  · omega
  · simp only [Value.slice.injEq] at h1
    obtain ⟨-, -, rfl⟩ := h1
    exact hn
theorem step_append_row {P : Program} {w : World} {ops : Array Oper} {o : Oper} {a : Act} {K : Act → World → Prop} {Q : Exit → Act → World → Prop} {E : Prop} (hgd : o.guard = none) (s x : Operand) (t : TypeId)
    (ho : o.op = .call { callee := .builtin .append, args := #[s, x], argTypes := #[t, t] }) (base : Nat) (e : TypeId) (i : TypeInfo) (z : Value) (size bytes : Nat) (ht : P.underlying t = some (.slice e)) (hi : P.info? e = some i) (hz : i.zero = some z)
    (hsize : i.size = size) (hby : i.bytes = bytes) (hzs : z.cells.size = size) (hsz : 0 < size) (v : Value) (n : Nat) (xs : List Value) (hs : a.eval s = v) (hown : w.ownsRow base e size v n xs)
    (base' m : Nat) (news : List Value) (u : Value) (hx : a.eval x = u) (hu : w.ownsRow base' e size u m news) (h1 : ∀ x ∈ news, x.oneCell' = true) (h63 : n + m ≤ maxLen) (hbytes : (n + m) * bytes ≤ 140737488355328) (hbase : base ≤ w.heap.size)
    (h : ∀ v' w', w'.ownsRow base e size v' (n + m) (xs ++ news) → w.grownBy w' v.ownBlock → (v'.ownBlock = v.ownBlock ∨ v'.ownBlock = some w.heap.size) → K (a.put o.dst v') w') :
    if Region.wanted o (yielded ops a.tmps) = true then Oper.wp P o a w K Q else E := by
  obtain ⟨v', w', hr, h2, h3, h4⟩ := run_append_row (P := P) w t o.type base e i z size bytes ht hi hz hsize hby hzs hsz v n xs hown base' m news u hu h1 h63 hbytes hbase
  exact step_append_of hgd s x t ho v u v' w' hs hx hr (h v' w' h2 h3 h4)
theorem own_less {w : World} {base base' : Nat} {e : TypeId} {size : Nat} {v : Value} {n : Nat} {xs : List Value} (h : w.ownsRow base e size v n xs) (hb : base' ≤ base) : w.ownsRow base' e size v n xs := by
  refine ⟨h.1, ?_⟩
  rcases h.2 with h0 | ⟨g, cap, cur, h1, h2, h3⟩
  · exact .inl h0
  · exact .inr ⟨g, cap, cur, h1, Nat.le_trans hb h2, h3⟩
theorem row3 {w : World} {b : Nat} {a0 a1 a2 : Value} {e : TypeId} (hr : w.heap[b]? = some (.cells #[a0, a1, a2] e (0, 0))) :
    w.cell? ⟨b, 0, none⟩ = some a0 ∧ w.cell? ⟨b, 1, none⟩ = some a1 ∧ w.cell? ⟨b, 2, none⟩ = some a2 ∧ ∀ o, w.frozen? ⟨b, o, none⟩ = false :=
  ⟨by rw [cell_of_row _ _ _ _ _ _ hr]; rfl, by rw [cell_of_row _ _ _ _ _ _ hr]; rfl, by rw [cell_of_row _ _ _ _ _ _ hr]; rfl, fun o => frozen_row hr o⟩
theorem row4 {w : World} {b : Nat} {a0 a1 a2 a3 : Value} {e : TypeId} (hr : w.heap[b]? = some (.cells #[a0, a1, a2, a3] e (0, 0))) :
    w.cell? ⟨b, 0, none⟩ = some a0 ∧ w.cell? ⟨b, 1, none⟩ = some a1 ∧ w.cell? ⟨b, 2, none⟩ = some a2 ∧ w.cell? ⟨b, 3, none⟩ = some a3 ∧ ∀ o, w.frozen? ⟨b, o, none⟩ = false :=
  ⟨by rw [cell_of_row _ _ _ _ _ _ hr]; rfl, by rw [cell_of_row _ _ _ _ _ _ hr]; rfl, by rw [cell_of_row _ _ _ _ _ _ hr]; rfl, by rw [cell_of_row _ _ _ _ _ _ hr]; rfl, fun o => frozen_row hr o⟩
theorem row2 {w : World} {b : Nat} {a0 a1 : Value} {e : TypeId} (hr : w.heap[b]? = some (.cells #[a0, a1] e (0, 0))) :
    w.cell? ⟨b, 0, none⟩ = some a0 ∧ w.cell? ⟨b, 1, none⟩ = some a1 ∧ ∀ o, w.frozen? ⟨b, o, none⟩ = false :=
  ⟨by rw [cell_of_row _ _ _ _ _ _ hr]; rfl, by rw [cell_of_row _ _ _ _ _ _ hr]; rfl, fun o => frozen_row hr o⟩
structure Kept (P : Prop) : Prop where
  out : P
theorem comb {P G : Prop} (f : Kept P → G) (p : P) : G := f ⟨p⟩
end Go.Proofs.YtdogjeoiggnhaaaDoor
