/- Rows of flat structs that the call has made, as lists of encoded members: reading, appending, ownership. No conditions. -/
import Derived.Test.YtmhlnbihppojmaaRow
import Derived.Test.YtmhlnbihppojmaaOwnE
namespace Go.Proofs.Ytmhlnbihppojmaa
open Go.RowKit

def flatE {D : Type} (enc : D → List Value) (l : List D) : List Value := (l.map enc).flatten
/-- v is a row of the call's own, behind block base, that holds the members l. -/
def RowE {D : Type} (enc : D → List Value) (sz : Nat) (ty : TypeId) (base : Nat) (w : World) (l : List D) (v : Value) : Prop := w.ownsRow base ty sz v l.length (flatE enc l)
theorem enc_six {D : Type} {enc : D → List Value} {sz : Nat} (hk : ∀ d, (enc d).length = sz) (l : List D) : ∀ es ∈ l.map enc, es.length = sz := by
  intro es h
  obtain ⟨d, -, rfl⟩ := List.mem_map.1 h
  exact hk d
theorem flat_getN {sz : Nat} : ∀ (css : List (List Value)) (i : Nat) (es : List Value) (j : Nat), (∀ es ∈ css, es.length = sz) → css[i]? = some es → j < sz → css.flatten[i * sz + j]? = es[j]?
  | [], i, es, j, _, h, _ => by cases h
  | c :: css, 0, es, j, h6, h, hj => by
    simp at h
    subst h
    have := h6 c (by simp)
    rw [List.flatten_cons, Nat.zero_mul, Nat.zero_add, List.getElem?_append_left (by omega)]
  | c :: css, i + 1, es, j, h6, h, hj => by
    have hc := h6 c (by simp)
    have ih := flat_getN css i es j (fun es h => h6 es (by simp [h])) (by simpa using h) hj
    rw [List.flatten_cons, List.getElem?_append_right (by rw [hc, Nat.succ_mul]; omega), ← ih]
    congr 1
    rw [hc, Nat.succ_mul]
    omega
theorem flat_lenN {sz : Nat} : ∀ (css : List (List Value)), (∀ es ∈ css, es.length = sz) → css.flatten.length = css.length * sz
  | [], _ => by simp
  | c :: css, h => by
    rw [List.flatten_cons, List.length_append, flat_lenN css (fun es he => h es (by simp [he])), h c (by simp), List.length_cons, Nat.succ_mul]
    omega
theorem flatE_len {D : Type} {enc : D → List Value} {sz : Nat} (hk : ∀ d, (enc d).length = sz) (l : List D) : (flatE enc l).length = l.length * sz := by
  unfold flatE
  rw [flat_lenN (l.map enc) (enc_six hk l), List.length_map]
theorem flatE_at {D : Type} {enc : D → List Value} {sz : Nat} (hk : ∀ d, (enc d).length = sz) {l : List D} {i : Nat} {d : D} (h : l[i]? = some d) {j : Nat} (hj : j < sz) : (flatE enc l)[i * sz + j]? = (enc d)[j]? :=
  flat_getN (l.map enc) i (enc d) j (enc_six hk l) (by rw [List.getElem?_map, h]; rfl) hj
theorem flatE_app {D : Type} (enc : D → List Value) (l m : List D) : flatE enc (l ++ m) = flatE enc l ++ flatE enc m := by simp [flatE]
theorem RowE.form {D : Type} {enc : D → List Value} {sz ty base : Nat} {w : World} {l : List D} {v : Value} (h : RowE enc sz ty base w l v) : ∃ A c, v = .slice A l.length c := own_form h
theorem RowE.carry {D : Type} {enc : D → List Value} {sz ty base : Nat} {w w' : World} {l : List D} {v : Value} (h : RowE enc sz ty base w l v) (hs : ∀ q, v.ownBlock = some q → w'.heap[q]? = w.heap[q]?) : RowE enc sz ty base w' l v := ownsRow_carry h hs
theorem RowE.less {D : Type} {enc : D → List Value} {sz ty base base' : Nat} {w : World} {l : List D} {v : Value} (h : RowE enc sz ty base w l v) (hb : base' ≤ base) : RowE enc sz ty base' w l v := own_less h hb
theorem RowE.below {D : Type} {enc : D → List Value} {sz ty base : Nat} {w w' : World} {l : List D} {v : Value} (h : RowE enc sz ty base w l v) (hb : Below w.heap.size w w') : RowE enc sz ty base w' l v := h.carry (fun q hq => hb.block q (World.ownsRow.lt h q hq).2)
/-- The row of a member that is there. -/
theorem RowE.row {D : Type} {enc : D → List Value} {sz ty base : Nat} {w : World} {l : List D} {v : Value} (hk : ∀ d, (enc d).length = sz) (h : RowE enc sz ty base w l v) (hp : 0 < l.length) : ∃ g cap cur, v = .slice (some ⟨g, 0, none⟩) l.length cap ∧ base ≤ g ∧ w.heap[g]? = some (.cells cur ty (0, 0)) ∧ l.length ≤ cap ∧ cap ≤ 9223372036854775807 ∧ l.length * sz ≤ cur.size ∧ ∀ i d, l[i]? = some d → ∀ j, j < sz → cur[i * sz + j]? = (enc d)[j]? := by
  obtain ⟨hl, h1⟩ := h
  rcases h1 with ⟨rfl, h0⟩ | ⟨g, cap, cur, rfl, hb, hg, hn, hcm, hcs, ht⟩
  · omega
  · refine ⟨g, cap, cur, rfl, hb, hg, hn, by unfold maxLen at hcm; omega, by rw [hcs]; exact Nat.mul_le_mul_right _ hn, fun i d hd j hj => ?_⟩
    have hi : i < l.length := (List.getElem?_eq_some_iff.1 hd).1
    have h2 := Nat.mul_le_mul_right sz hi
    rw [Nat.succ_mul] at h2
    have : (cur.toList.take (l.length * sz))[i * sz + j]? = (flatE enc l)[i * sz + j]? := by rw [ht]
    rw [List.getElem?_take, if_pos (by omega), Array.getElem?_toList, flatE_at hk hd hj] at this
    exact this
theorem RowE.own {D : Type} {enc : D → List Value} {sz ty base : Nat} {w : World} {l : List D} {v : Value} {C : D → List Value → Prop} (hk : ∀ d, (enc d).length = sz) (h : RowE enc sz ty base w l v) (hC : ∀ d ∈ l, C d (enc d)) : OwnR C sz ty (fun b => v.ownBlock = some b) w l v := by
  by_cases hp : 0 < l.length
  · obtain ⟨g, cap, cur, rfl, -, hg, h1, h2, -, h4⟩ := h.row hk hp
    exact ⟨_, cap, rfl, h1, h2, fun _ => ⟨g, cur, rfl, rfl, hg, fun i d hd => ⟨enc d, hk d, h4 i d hd, hC d (List.mem_of_getElem? hd)⟩⟩⟩
  · rcases h.2 with ⟨rfl, h0⟩ | ⟨g, cap, cur, rfl, hb, hg, hn, hcm, hcs, ht⟩
    · exact ⟨none, 0, by rw [h0], by omega, by decide, fun h => absurd h hp⟩
    · exact ⟨_, cap, rfl, hn, by unfold maxLen at hcm; omega, fun h => absurd h hp⟩
theorem RowE.sl {D : Type} {enc : D → List Value} {sz ty base : Nat} {w : World} {l : List D} {v : Value} {C : D → List Value → Prop} (hk : ∀ d, (enc d).length = sz) (h : RowE enc sz ty base w l v) (hC : ∀ d ∈ l, C d (enc d)) : SlOf C sz base w.heap.size w l v :=
  (h.own hk hC).toC (fun b hb => World.ownsRow.lt h b hb)
theorem RowE.nil {D : Type} {enc : D → List Value} {sz ty base : Nat} {w : World} : RowE enc sz ty base w [] (.slice none 0 0) := ⟨by simp [flatE], .inl ⟨rfl, rfl⟩⟩
theorem one_flat {D : Type} {enc : D → List Value} (h1 : ∀ d, ∀ v ∈ enc d, v.oneCell' = true) (l : List D) : ∀ u ∈ flatE enc l, u.oneCell' = true := by
  intro u hu
  unfold flatE at hu
  obtain ⟨es, h2, h3⟩ := List.mem_flatten.1 hu
  obtain ⟨d, -, rfl⟩ := List.mem_map.1 h2
  exact h1 d u h3
/-- The cells of a slice that came in, read as cells to be appended. -/
theorem news_of {D : Type} {enc : D → List Value} {sz lo hi : Nat} {w : World} {l : List D} {b o c : Nat} {C : D → List Value → Prop} (hk : ∀ d, (enc d).length = sz) (hs : 0 < sz) (h : SlOf C sz lo hi w l (.slice (some ⟨b, o, none⟩) l.length c)) (hC : ∀ d es, C d es → es = enc d) (hp : 0 < l.length) : ∀ j u, (flatE enc l)[j]? = some u → w.cell? ((⟨b, o, none⟩ : Addr).add j) = some u := by
  obtain ⟨A, c', hv, -, -, hA⟩ := h
  obtain ⟨b', o', rfl, -, -, hc⟩ := hA hp
  simp only [Value.slice.injEq, Option.some.injEq, Addr.mk.injEq, and_true] at hv
  obtain ⟨⟨rfl, rfl⟩, -⟩ := hv
  intro j u hu
  have hadd : (⟨b, o, none⟩ : Addr).add j = ⟨b, o + j, none⟩ := by unfold Addr.add; split <;> simp_all
  have hjl : j < l.length * sz := by
    have := (List.getElem?_eq_some_iff.1 hu).1
    rwa [flatE_len hk] at this
  have hi : j / sz < l.length := by rwa [Nat.div_lt_iff_lt_mul hs]
  obtain ⟨d, hd⟩ := exists_at hi
  obtain ⟨es, -, h2, h3⟩ := hc (j / sz) d hd
  obtain rfl := hC d es h3
  have hj : j = j / sz * sz + j % sz := by rw [Nat.mul_comm]; exact (Nat.div_add_mod j sz).symm
  have h4 := h2 (j % sz) (Nat.mod_lt _ hs)
  have h5 := flatE_at hk hd (Nat.mod_lt j hs)
  rw [← hj] at h5
  rw [hadd]
  rw [Nat.add_assoc, ← hj] at h4
  rw [h4, ← h5, hu]
/-- Appending a slice that came in to a row of the call's own. -/
theorem run_append_rows {P : Program} {D : Type} {enc : D → List Value} {C : D → List Value → Prop} (w : World) (t ty : TypeId) (base : Nat) (e : TypeId) (i : TypeInfo) (z : Value) (sz bytes : Nat) (ht : P.underlying t = some (.slice e)) (hi : P.info? e = some i) (hz : i.zero = some z)
    (hsize : i.size = sz) (hby : i.bytes = bytes) (hzs : z.cells.size = sz) (hsz : 0 < sz) (hk : ∀ d, (enc d).length = sz) (h1 : ∀ d, ∀ v ∈ enc d, v.oneCell' = true) (hC : ∀ d es, C d es → es = enc d) (v : Value) (n : Nat) (xs : List D) (hn : xs.length = n) (hown : RowE enc sz e base w xs v)
    (l : List D) (A : Option Addr) (m c lo hi' : Nat) (hm : l.length = m) (hl : SlOf C sz lo hi' w l (.slice A m c)) (h63 : n + m ≤ maxLen) (hbytes : (n + m) * bytes ≤ 140737488355328) (hbase : base ≤ w.heap.size) :
    ∃ v' w', (Builtin.append_ #[t, t] ty #[v, .slice A m c]).run P w = .ok v' w' ∧ RowE enc sz e base w' (xs ++ l) v' ∧ w.grownBy w' v.ownBlock ∧ (v'.ownBlock = v.ownBlock ∨ v'.ownBlock = some w.heap.size) := by
  subst hn hm
  have fin : ∀ v' w', w'.ownsRow base e sz v' (xs.length + l.length) (flatE enc xs ++ flatE enc l) → RowE enc sz e base w' (xs ++ l) v' := fun v' w' h => by
    unfold RowE
    rw [flatE_app, List.length_append]
    exact h
  by_cases hp : 0 < l.length
  · have hl2 := hl
    obtain ⟨A', c', hv, -, -, hA⟩ := hl
    obtain ⟨b, off, rfl, -⟩ := hA hp
    simp only [Value.slice.injEq] at hv
    obtain ⟨rfl, -, rfl⟩ := hv
    obtain ⟨v', w', hr, h2, h3, _, h5⟩ := run_append_own_at (P := P) w base t ty e i z sz bytes ht hi hz hsize hby hzs hsz v xs.length (flatE enc xs) hown ⟨b, off, none⟩ l.length c (flatE enc l) (flatE_len hk l) (news_of hk hsz hl2 hC hp) (one_flat h1 l) h63 hbytes hbase
    exact ⟨v', w', hr, fin v' w' h2, h3, h5⟩
  · obtain rfl : l = [] := List.eq_nil_of_length_eq_zero (by omega)
    rcases A with _ | ad
    · exact ⟨v, w, run_append_none w t ty base e i sz ht hi v xs.length (flatE enc xs) hown c, by simpa using hown, World.grownBy.refl _ _, .inl rfl⟩
    · obtain ⟨v', w', hr, h2, h3, _, h5⟩ := run_append_own_at (P := P) w base t ty e i z sz bytes ht hi hz hsize hby hzs hsz v xs.length (flatE enc xs) hown ad 0 c [] (by simp) (fun j u h => by simp at h) (fun u h => by simp at h) h63 hbytes hbase
      exact ⟨v', w', hr, fin v' w' (by simpa [flatE] using h2), h3, h5⟩
theorem step_append_rows {P : Program} {D : Type} {enc : D → List Value} {C : D → List Value → Prop} {w : World} {ops : Array Oper} {o : Oper} {a : Act} {K : Act → World → Prop} {Q : Exit → Act → World → Prop} {E : Prop} (hgd : o.guard = none) (s x : Operand) (t : TypeId)
    (ho : o.op = .call { callee := .builtin .append, args := #[s, x], argTypes := #[t, t] }) (base : Nat) (e : TypeId) (i : TypeInfo) (z : Value) (sz bytes : Nat) (ht : P.underlying t = some (.slice e)) (hi : P.info? e = some i) (hz : i.zero = some z)
    (hsize : i.size = sz) (hby : i.bytes = bytes) (hzs : z.cells.size = sz) (hsz : 0 < sz) (hk : ∀ d, (enc d).length = sz) (h1 : ∀ d, ∀ v ∈ enc d, v.oneCell' = true) (hC : ∀ d es, C d es → es = enc d) (v : Value) (n : Nat) (xs : List D) (hs : a.eval s = v) (hn : xs.length = n) (hown : RowE enc sz e base w xs v)
    (l : List D) (A : Option Addr) (m c lo hi' : Nat) (hx : a.eval x = .slice A m c) (hm : l.length = m) (hl : SlOf C sz lo hi' w l (.slice A m c)) (h63 : n + m ≤ maxLen) (hbytes : (n + m) * bytes ≤ 140737488355328) (hbase : base ≤ w.heap.size)
    (h : ∀ v' w', RowE enc sz e base w' (xs ++ l) v' → w.grownBy w' v.ownBlock → (v'.ownBlock = v.ownBlock ∨ v'.ownBlock = some w.heap.size) → K (a.put o.dst v') w') :
    if Region.wanted o (yielded ops a.tmps) = true then Oper.wp P o a w K Q else E := by
  obtain ⟨v', w', hr, h2, h3, h4⟩ := run_append_rows (P := P) (enc := enc) (C := C) w t o.type base e i z sz bytes ht hi hz hsize hby hzs hsz hk h1 hC v n xs hn hown l A m c lo hi' hm hl h63 hbytes hbase
  exact step_append_of hgd s x t ho v _ v' w' hs hx hr (h v' w' h2 h3 h4)
theorem SlOf.take {D : Type} {C : D → List Value → Prop} {sz lo hi : Nat} {w : World} {l : List D} {A : Option Addr} {n c : Nat} (h : SlOf C sz lo hi w l (.slice A n c)) {k : Nat} (hk : k ≤ l.length) : SlOf C sz lo hi w (l.take k) (.slice A k c) := by
  obtain ⟨A', c', hv, h1, h2, hA⟩ := h
  simp only [Value.slice.injEq] at hv
  obtain ⟨rfl, rfl, rfl⟩ := hv
  refine ⟨A, c, by rw [List.length_take]; congr 1; omega, by rw [List.length_take]; omega, h2, fun hp => ?_⟩
  rw [List.length_take] at hp
  obtain ⟨b, o, rfl, h3, h4, hc⟩ := hA (by omega)
  refine ⟨b, o, rfl, h3, h4, fun i d hd => ?_⟩
  rw [List.getElem?_take] at hd
  split at hd
  · exact hc i d hd
  · cases hd
theorem SlOf.drop {D : Type} {C : D → List Value → Prop} {sz lo hi : Nat} {w : World} {l : List D} {b o n c : Nat} (h : SlOf C sz lo hi w l (.slice (some ⟨b, o, none⟩) n c)) {k : Nat} (hk : k ≤ l.length) : SlOf C sz lo hi w (l.drop k) (.slice (some ⟨b, o + k * sz, none⟩) (n - k) (c - k)) := by
  obtain ⟨A', c', hv, h1, h2, hA⟩ := h
  simp only [Value.slice.injEq] at hv
  obtain ⟨rfl, rfl, rfl⟩ := hv
  refine ⟨_, c - k, by rw [List.length_drop], by rw [List.length_drop]; omega, by omega, fun hp => ?_⟩
  rw [List.length_drop] at hp
  obtain ⟨b', o', hbo, h3, h4, hc⟩ := hA (by omega)
  simp only [Option.some.injEq, Addr.mk.injEq, and_true] at hbo
  obtain ⟨rfl, rfl⟩ := hbo
  refine ⟨b, o + k * sz, rfl, h3, h4, fun i d hd => ?_⟩
  rw [List.getElem?_drop] at hd
  obtain ⟨cs, e1, e2, e3⟩ := hc (k + i) d hd
  refine ⟨cs, e1, fun j hj => ?_, e3⟩
  rw [← e2 j hj, Nat.add_mul]
  congr 2
  omega
end Go.Proofs.Ytmhlnbihppojmaa
