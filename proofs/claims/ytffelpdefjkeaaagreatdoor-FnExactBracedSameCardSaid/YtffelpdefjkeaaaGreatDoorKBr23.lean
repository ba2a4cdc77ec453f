/- Written by wip/tools/pack.py: the texts that FnExactReadBraced and FnExactBracedSame needs, without what it does not need. No conditions. -/
import Derived.Test.YtffelpdefjkeaaaGreatDoorKBr4
import Derived.Test.YtffelpdefjkeaaaGreatDoorKBr11
import Derived.Test.YtffelpdefjkeaaaGreatDoorKBr22
import Derived.Test.YtffelpdefjkeaaaGreatDoorKBr10
import Derived.Test.YtffelpdefjkeaaaGreatDoorKBr17
import Derived.Test.YtffelpdefjkeaaaGreatDoorKBr1
import Derived.Test.YtffelpdefjkeaaaGreatDoorKBr2
namespace Go.Proofs.YtffelpdefjkeaaaGreatDoor
open Go.RowKit
theorem cntL_set (n : Nat) (l : List TreeD) (k : Nat) (d e : TreeD) (h : l[k]? = some d) (he : cntT n e = cntT n d) : cntL n (l.set k e) = cntL n l := szL_set _ l k d e h (by rw [he])
theorem take_set_le {D : Type} (l : List D) (k j : Nat) (e : D) (h : j ≤ k) : (l.set k e).take j = l.take j := by
  rw [List.take_set, List.set_eq_of_length_le (by simp; omega)]
/-- What the round of markTreeS does: four cells of the row are turned, then what the member points to. -/
theorem mark_round {m k g : Nat} {F : Nat → Nat → Prop} {S S4 S5 : Nat → Prop} {x : Int} {wr w1 w2 w3 : World} {l : List TreeD} {d : TreeD} {l4 : List ByteArray} {l5 : List TreeD} {cur : Array Value} {A4 A5 : Option Addr} {c4 c5 : Nat}
    (hr : wr.heap[g]? = some (.cells cur 27 (0, 0)))
    (hcur : ∀ i t, l[i]? = some t → ∃ es, es.length = 6 ∧ (∀ j, j < 6 → cur[i * 6 + j]? = es[j]?) ∧ OwnT (m + 1) (F i) wr t es)
    (hd : l[k]? = some d) (hes : ∀ j, j < 6 → cur[k * 6 + j]? = [.int .i64 d.kind, .bool d.flag, .int .i64 d.num, .string d.text, .slice A4 d.keys.length c4, .slice A5 d.kids.length c5][j]?)
    (hF : ∀ i b, F i b → S b ∧ b ≠ g) (hF2 : ∀ i j b, F i b → F j b → i = j) (hSb : ∀ b, S b → b < wr.heap.size) (hg : S g)
    (d4 : ∀ b, S4 b → F k b ∧ ¬ S5 b) (d5 : ∀ b, S5 b → F k b) 
    (hx : I64 (x + 1 + 1)) (hx0 : I64 x) (ht : (mkI (x + 1 + 1 + 1)).size ≤ 9223372036854775807)
    (h1 : w1.heap[g]? = some (.cells (putAt cur (k * 6) [.int .i64 x, .bool ((x + 1) % 3 == 0), .int .i64 (x + 1 + 1), .string (mkI (x + 1 + 1 + 1))]) 27 (0, 0))) (o1 : Aside (fun b => b = g) wr w1)
    (r4 : OwnS S4 w2 l4 (.slice A4 d.keys.length c4)) (n4 : l4.length = d.keys.length) (m4 : MkSs (x + 1 + 1 + 1 + 1) l4) (o2 : Aside S4 w1 w2)
    (r5 : OwnK (OwnT m) S5 w3 l5 (.slice A5 d.kids.length c5)) (m5 : MkLs m (x + 1 + 1 + 1 + 1 + d.keys.length) l5) (q5 : cntL m l5 = cntL m d.kids) (o3 : Aside S5 w2 w3) :
    ∃ t, cntT (m + 1) t = cntT (m + 1) d ∧ MkE (MkT (m + 1)) x t ∧ KidsAt (OwnT (m + 1)) F g w3 (l.set k t) ∧ Aside S wr w3 := by
  have hgw := hSb g hg
  have hkl : k < l.length := (List.getElem?_eq_some_iff.1 hd).1
  have n4g : ¬ S4 g := fun h => (hF k g (d4 g h).1).2 rfl
  have n5g : ¬ S5 g := fun h => (hF k g (d5 g h)).2 rfl
  have s1 := o1.size
  have s2 := o2.size
  have keep : ∀ b, b < wr.heap.size → b ≠ g → ¬ S4 b → ¬ S5 b → w3.heap[b]? = wr.heap[b]? := fun b hb e1 e2 e3 =>
    (o3.block b (by omega) e3).trans ((o2.block b (by omega) e2).trans (o1.block b hb e1))
  have h3 : w3.heap[g]? = some (.cells (putAt cur (k * 6) [.int .i64 x, .bool ((x + 1) % 3 == 0), .int .i64 (x + 1 + 1), .string (mkI (x + 1 + 1 + 1))]) 27 (0, 0)) :=
    (o3.block g (by omega) n5g).trans ((o2.block g (by omega) n4g).trans h1)
  have hkc : k * 6 + 5 < cur.size := by
    have := hes 5 (by omega)
    rcases Nat.lt_or_ge (k * 6 + 5) cur.size with h | h
    · exact h
    · rw [Array.getElem?_eq_none h] at this; cases this
  refine ⟨{ kind := x, flag := (x + 1) % 3 == 0, num := x + 1 + 1, text := mkI (x + 1 + 1 + 1), keys := l4, kids := l5 }, ?_, ⟨rfl, rfl, rfl, rfl, MkT.into m4 (by rw [n4]; exact m5)⟩, ⟨_, h3, fun i t hi => ?_⟩, ?_⟩
  · rw [cntT_succ, cntT_succ, n4, q5]
  · rw [List.getElem?_set] at hi
    by_cases he : k = i
    · subst he
      rw [if_pos rfl, if_pos hkl] at hi
      obtain rfl := Option.some.inj hi
      refine ⟨[.int .i64 x, .bool ((x + 1) % 3 == 0), .int .i64 (x + 1 + 1), .string (mkI (x + 1 + 1 + 1)), .slice A4 d.keys.length c4, .slice A5 d.kids.length c5], rfl, fun j hj => ?_, OwnT.into ⟨_, _, S4, S5, rfl, hx0, hx, ht, d4, d5, ?_, r5⟩⟩
      · by_cases hj4 : j < 4
        · rw [get_putAt _ _ _ j (by simpa using hj4) (by simp; omega)]
          match j, hj4 with
          | 0, _ => rfl
          | 1, _ => rfl
          | 2, _ => rfl
          | 3, _ => rfl
        · rw [get_putAt_ge _ _ _ _ (by simp; omega), hes j hj]
          match j, hj, hj4 with
          | 4, _, _ => rfl
          | 5, _, _ => rfl
      · exact r4.carry (fun b hb => o3.block b (by have := hSb b (hF k b (d4 b hb).1).1; omega) (d4 b hb).2) (fun _ h => h)
    · rw [if_neg he] at hi
      obtain ⟨es, e1, e2, e3⟩ := hcur i t hi
      refine ⟨es, e1, fun j hj => ?_, e3.carry (fun b hb => ?_) (fun _ h => h)⟩
      · rw [← e2 j hj]
        rcases Nat.lt_or_ge i k with h | h
        · rw [get_putAt_lt _ _ _ _ (by omega)]
        · rw [get_putAt_ge _ _ _ _ (by simp; omega)]
      · have hb1 := hF i b hb
        exact keep b (hSb b hb1.1) hb1.2 (fun h => he (hF2 k i b (d4 b h).1 hb)) (fun h => he (hF2 k i b (d5 b h) hb))
  · exact (o1.mono (fun b hb => by subst hb; exact hg)).trans ((o2.mono (fun b hb => (hF k b (d4 b hb).1).1)).trans (o3.mono (fun b hb => (hF k b (d5 b hb)).1)))
def T_markS (n : Nat) : Prop := ∀ (l : List TreeD) (v : Value) (x : Int) (w : World) (S : Nat → Prop) (_ : OwnK (OwnT n) S w l v) (_ : ∀ b, S b → b < w.heap.size) (_ : 0 < x) (_ : x + cntL n l ≤ 1152921504606846976),
    Calls Tryz.prog 39 #[v, .int .i64 x] w fun e w' => ∃ l', e = .returned (.int .i64 (x + cntL n l)) ∧ l'.length = l.length ∧ OwnK (OwnT n) S w' l' v ∧ MkLs n x l' ∧ cntL n l' = cntL n l ∧ Aside S w w'
set_option maxHeartbeats 1000000 in
theorem of_markS (n : Nat) (ih : ∀ m, n = m + 1 → T_markS m) : T_markS n := by
  intro l v x w S h hSb h1 h2
  obtain ⟨A, c, rfl, hlc, hc, hA⟩ := h
  by_cases hz : l.length = 0
  · obtain rfl : l = [] := List.eq_nil_of_length_eq_zero hz
    clear hA
    go_enter Tryz.func39, Tryz.ntmps39
    go_wp2_with fail
    go_loopw [1, 5] (fun y i wr => y = .int .i64 x ∧ i = .int .i64 0 ∧ wr = w) (fun _ _ _ => 0)
    case atStart => exact ⟨rfl, rfl, rfl⟩
    case round =>
      obtain ⟨rfl, rfl, rfl⟩ := hrel
      go_wp2_with fail
      go_ret
      exact ⟨[], ret_int (by simp [cntL, szL]), rfl, ⟨A, c, rfl, by simp, hc, fun h => by simp at h⟩, fun i s h => by simp at h, rfl, Aside.refl _ _⟩
  · obtain ⟨g, F, rfl, hg, hF, hF2, hkids⟩ := hA (by omega)
    have hgl := hSb g hg
    go_enter Tryz.func39, Tryz.ntmps39
    go_wp2_with fail
    go_loopw [1, 5] (fun y i wr => ∃ (k : Nat) (l' : List TreeD), k ≤ l.length ∧ l'.length = l.length ∧ i = .int .i64 k ∧ y = .int .i64 (x + cntL n (l'.take k)) ∧ KidsAt (OwnT n) F g wr l' ∧ (∀ (j : Nat) (t : TreeD), j < k → l'[j]? = some t → MkE (MkT n) (x + cntL n (l'.take j)) t) ∧ cntL n l' = cntL n l ∧ Aside S w wr) (fun _ i _ => l.length - (intOf i).toNat)
    case atStart => exact ⟨0, l, Nat.zero_le _, rfl, rfl, by simp [cntL, szL], hkids, fun j s h => by omega, rfl, Aside.refl _ _⟩
    case round =>
      obtain ⟨k, l', hk, hl', rfl, rfl, ⟨cur, hr, hcur⟩, hmk, hcn, has⟩ := hrel
      have Hm := Lib.hid hmk
      have Hc := Lib.hid hcn
      clear hmk hcn
      by_cases hlt : k < l.length
      · obtain ⟨d, hd⟩ := exists_at (l := l') (k := k) (by omega)
        obtain ⟨es, -, hes, hO⟩ := hcur k d hd
        obtain ⟨m, rfl⟩ := hO.any
        obtain ⟨v4, v5, S4, S5, rfl, a0, a2, a3, d4, d5, a4, a5⟩ := hO.out
        obtain ⟨A4, c4, rfl⟩ := a4.form
        obtain ⟨A5, c5, rfl⟩ := a5.form
        have hb1 := cntL_succ (m + 1) l' k d hd
        have hb2 := cntL_le (m + 1) l' (k + 1)
        rw [cntT_succ] at hb1
        have hbd : x + cntL (m + 1) (l'.take k) + 4 + d.keys.length + cntL m d.kids ≤ 1152921504606846976 := by have := Hc.out; omega
        have hb0 : 0 ≤ (cntL (m + 1) (l'.take k) : Int) := by omega
        have Hb1 := Lib.hid hb1
        clear hb1 hb2
        obtain ⟨y, hy⟩ : ∃ y : Int, y = x + cntL (m + 1) (l'.take k) := ⟨_, rfl⟩
        rw [← hy] at hbd ⊢
        have hy0 : 0 < y := by omega
        have Hy := Lib.hid hy
        clear hy hb0
        have hx0 : wr.cell? ⟨g, k * 6, none⟩ = some (.int .i64 d.kind) := by rw [cell_of_row wr g _ cur _ _ hr]; exact hes 0 (by omega)
        have hx1 : wr.cell? ⟨g, k * 6 + 1, none⟩ = some (.bool d.flag) := by rw [cell_of_row wr g _ cur _ _ hr]; exact hes 1 (by omega)
        have hx2 : wr.cell? ⟨g, k * 6 + 2, none⟩ = some (.int .i64 d.num) := by rw [cell_of_row wr g _ cur _ _ hr]; exact hes 2 (by omega)
        have hx3 : wr.cell? ⟨g, k * 6 + 3, none⟩ = some (.string d.text) := by rw [cell_of_row wr g _ cur _ _ hr]; exact hes 3 (by omega)
        have hx4 : wr.cell? ⟨g, k * 6 + 4, none⟩ = some (.slice A4 d.keys.length c4) := by rw [cell_of_row wr g _ cur _ _ hr]; exact hes 4 (by omega)
        have hx5 : wr.cell? ⟨g, k * 6 + 5, none⟩ = some (.slice A5 d.kids.length c5) := by rw [cell_of_row wr g _ cur _ _ hr]; exact hes 5 (by omega)
        have hf0 : wr.frozen? ⟨g, k * 6, none⟩ = false := frozen_row hr _
        have hf1 := frozen_row hr (k * 6 + 1)
        have hf2 := frozen_row hr (k * 6 + 2)
        have hf3 := frozen_row hr (k * 6 + 3)
        have hgw := row_lt hr
        have hk1 : (k : Int) < l.length := by omega
        have hws := has.size
        go_wp2_with (first | (go_at_call 72; refine (c_laws_markText _ _ (by omega) (by omega)).mono ?_; rintro e w1 ⟨rfl, hb⟩; (first | (have hcu2 := Cum.join hcu hb; (try clear hcu); (try clear hc); (try clear hfz); (try clear hsz); (try clear hs0); (try clear hs1); (try clear hs2); (try clear hs3); (try clear hs4); ) | have hcu2 := Cum.mk hb); have hcu := hcu2; clear hcu2; obtain ⟨hc, hfz⟩ := bcell hcu.h; have hsz := hcu.h.size; (try simp at hsz); (try have hs0 := lt_of_succ_le hsz); (try (have hs1 := lt_pred hsz; (try (have hs2 := lt_pred hs1; (try (have hs3 := lt_pred hs2; (try have hs4 := lt_pred hs3)))))))))
        have hW : (w1.setCell ⟨g, k * 6 + 3, none⟩ (.string (mkI (y + 1 + 1 + 1)))).heap[g]? = some (.cells (putAt cur (k * 6) [.int .i64 y, .bool ((y + 1) % 3 == 0), .int .i64 (y + 1 + 1), .string (mkI (y + 1 + 1 + 1))]) 27 (0, 0)) :=
          heap_setCell_same w1 g (k * 6 + 3) _ _ _ ((hb.block g (by simp; omega)).trans (heap_setCell_same _ g (k * 6 + 2) _ _ _ (heap_setCell_same _ g (k * 6 + 1) _ _ _ (heap_setCell_same wr g (k * 6) cur _ _ hr))))
        have oW : Aside (fun b => b = g) wr (w1.setCell ⟨g, k * 6 + 3, none⟩ (.string (mkI (y + 1 + 1 + 1)))) :=
          by
            refine Aside.setCell (Aside.trans ?_ (Aside.of_below hb)) ?_
            · refine Aside.setCell (Aside.setCell (Aside.setCell (Aside.refl _ _) ?_) ?_) ?_
              · show g = g; rfl
              · show g = g; rfl
              · show g = g; rfl
            · show g = g; rfl
        have hsW := oW.size
        refine (c_laws_markStringS d.keys _ _ _ S4 (a4.carry (fun b hb => oW.block b (by have := hSb b (hF k b (d4 b hb).1).1; omega) (hF k b (d4 b hb).1).2) (fun _ h => h)) (fun b hb => by have := hSb b (hF k b (d4 b hb).1).1; omega) (by omega) (by omega)).mono ?_
        rintro e w2 ⟨l4, rfl, n4, r4, m4, o4⟩
        have n4g : ¬ S4 g := fun h => (hF k g (d4 g h).1).2 rfl
        have h2r := (o4.block g (by omega) n4g).trans hW
        have hkc : k * 6 + 5 < cur.size := by
          have := hes 5 (by omega)
          rcases Nat.lt_or_ge (k * 6 + 5) cur.size with h | h
          · exact h
          · rw [Array.getElem?_eq_none h] at this; cases this
        have hy5 : w2.cell? ⟨g, k * 6 + 5, none⟩ = some (.slice A5 d.kids.length c5) := by
          rw [cell_of_row w2 g _ _ _ _ h2r, get_putAt_ge _ _ _ _ (by simp)]
          exact hes 5 (by omega)
        have hs4 := o4.size
        go_wp2_with fail
        refine (ih m rfl d.kids _ _ _ S5 (a5.keep (fun b hb => (o4.block b (by have := hSb b (hF k b (d5 b hb)).1; omega) (fun h => (d4 b h).2 hb)).trans (oW.block b (by have := hSb b (hF k b (d5 b hb)).1; omega) (hF k b (d5 b hb)).2)) (fun _ h => h)) (fun b hb => by have := hSb b (hF k b (d5 b hb)).1; omega) (by omega) (by omega)).mono ?_
        rintro e w3 ⟨l5, rfl, -, r5, m5, q5, o5⟩
        have hI : ∀ z : Int, 0 < z → z ≤ 4611686018427387904 → I64 z := fun z h h' => ⟨by omega, by omega⟩
        have R := mark_round hr hcur hd hes hF hF2 (fun b hb => by have := hSb b hb; omega) hg d4 d5 (hI _ (by omega) (by omega)) (hI _ (by omega) (by omega)) (mkI_size _ (by omega)) hW oW r4 n4 m4 o4 r5 m5 q5 o5
        obtain ⟨t, ct, mt, kt, at'⟩ := R
        have Hcnt := Lib.hid (cntL_set (m + 1) l' k d t hd ct)
        have Htk := Lib.hid (show cntL (m + 1) ((l'.set k t).take (k + 1)) = cntL (m + 1) (l'.take k) + (4 + cntT (m + 1) d) by
          rw [cntL_succ (m + 1) (l'.set k t) k t (by rw [List.getElem?_set]; simp; omega), take_set_le _ _ _ _ (Nat.le_refl _), ct])
        have Hmt := Lib.hid mt
        have Hd := Lib.hid (cntT_succ m d)
        clear ct mt hW oW r4 m4 r5 m5 q5 h2r hcur hes
        go_wp2_with fail
        go_roundw
        case rel =>
          refine ⟨k + 1, l'.set k t, by omega, by simp [hl'], by go_num, ?_, kt, fun j s hj h => ?_, by rw [Hcnt.out]; exact Hc.out, has.trans at'⟩
          · rw [Htk.out, Hd.out, Hy.out]; congr 1; push_cast; omega
          · rw [List.getElem?_set] at h
            rw [take_set_le _ _ _ _ (by omega)]
            by_cases he : k = j
            · subst he
              rw [if_pos rfl, if_pos (by omega)] at h
              obtain rfl := Option.some.inj h
              rw [← Hy.out]
              exact Hmt.out
            · rw [if_neg he] at h
              exact Hm.out j s (by omega) h
        case measure => simp [intOf]; omega
      · obtain rfl : k = l.length := by omega
        have Ht := Lib.hid (show cntL n (l'.take l.length) = cntL n l by rw [← hl', List.take_length]; exact Hc.out)
        go_wp2_with fail
        go_ret
        exact ⟨l', ret_int (by rw [Ht.out]), hl', ⟨_, c, by rw [hl'], by omega, hc, fun _ => ⟨g, F, rfl, hg, hF, hF2, cur, hr, hcur⟩⟩, fun i s h => Hm.out i s (by have := (List.getElem?_eq_some_iff.1 h).1; omega) h, Hc.out, has⟩
theorem all_markS : ∀ n, T_markS n
  | 0 => of_markS 0 (fun m h => by omega)
  | n + 1 => of_markS (n + 1) (fun m h => by
    obtain rfl : n = m := by omega
    exact all_markS n)
def T_mark (n : Nat) : Prop := ∀ (d : TreeD) (cs : List Value) (x : Int) (w : World) (S : Nat → Prop) (_ : OwnT n S w d cs) (_ : ∀ b, S b → b < w.heap.size) (_ : 0 < x) (_ : x + cntT n d ≤ 1152921504606846976),
    Calls Tryz.prog 18 #[.agg cs.toArray, .int .i64 x] w fun e w' => ∃ d', e = .returned (.int .i64 (x + cntT n d)) ∧ OwnT n S w' d' cs ∧ MkT n x d' ∧ cntT n d' = cntT n d ∧ Aside S w w'
theorem all_mark (n : Nat) : T_mark n := by
  intro d cs x w S h hSb h1 h2
  obtain ⟨m, rfl⟩ := h.any
  obtain ⟨v4, v5, S4, S5, rfl, a0, a2, a3, d4, d5, a4, a5⟩ := h.out
  obtain ⟨A4, c4, rfl⟩ := a4.form
  obtain ⟨A5, c5, rfl⟩ := a5.form
  have Hd := Lib.hid (cntT_succ m d)
  rw [Hd.out] at h2
  go_enter Tryz.func18, Tryz.ntmps18
  go_wp2_with fail
  have hb4 : ∀ b, S4 b → b < w.heap.size := fun b hb => hSb b (d4 b hb).1
  have hb5 : ∀ b, S5 b → b < w.heap.size := fun b hb => hSb b (d5 b hb)
  refine (c_laws_markStringS d.keys _ _ _ S4 (a4.carry (fun b hb => Below.heap_alloc _ _ b (hb4 b hb)) (fun _ h => h)) (fun b hb => by have := hb4 b hb; simp; omega) h1 (by omega)).mono ?_
  rintro e w1 ⟨l4, rfl, n4, r4, m4, o4⟩
  have hs4 := o4.size
  simp at hs4
  have hbx := (o4.block w.heap.size (by simp) (fun h => absurd (hb4 _ h) (by omega))).trans (heap_alloc_new _ _)
  have hx5 : w1.cell? ⟨w.heap.size, 5, none⟩ = some (.slice A5 d.kids.length c5) := by rw [cell_of_row w1 _ _ _ _ _ hbx]; rfl
  go_wp2_with fail
  refine (all_markS m d.kids _ _ _ S5 (a5.keep (fun b hb => (o4.block b (by have := hb5 b hb; simp; omega) (fun h => (d4 b h).2 hb)).trans (Below.heap_alloc _ _ b (hb5 b hb))) (fun _ h => h)) (fun b hb => by have := hb5 b hb; omega) (by omega) (by omega)).mono ?_
  rintro e w2 ⟨l5, rfl, -, r5, m5, q5, o5⟩
  go_wp2_with fail
  go_ret
  refine ⟨{ d with keys := l4, kids := l5 }, ret_int (by rw [Hd.out]; push_cast; omega), OwnT.into ⟨_, _, S4, S5, rfl, a0, a2, a3, d4, d5, r4.carry (fun b hb => o5.block b (by have := hb4 b hb; omega) (d4 b hb).2) (fun _ h => h), r5⟩, MkT.into m4 (by rw [n4]; exact m5), ?_, ?_⟩
  · rw [Hd.out, cntT_succ]; exact (by rw [n4, q5])
  · exact (Aside.of_below (bel : Below w.heap.size w _)).trans ((o4.mono (fun b hb => (d4 b hb).1)).trans (o5.mono d5))
def T_heldS (n : Nat) : Prop := ∀ (l : List TreeD) (v : Value) (x : Int) (w : World) (lo : Nat) (_ : Sl_Tree n lo w.heap.size w l v) (_ : MkLs n x l) (_ : 0 < x) (_ : x + cntL n l ≤ 1152921504606846976),
    Calls Tryz.prog 41 #[v, .int .i64 x] w fun e w' => e = .returned (.int .i64 (x + cntL n l)) ∧ Below w.heap.size w w'
set_option maxHeartbeats 1000000 in
theorem of_heldS (n : Nat) (ih : ∀ m, n = m + 1 → T_heldS m) : T_heldS n := by
  intro l v x w lo hs hm h1 h2
  obtain ⟨A, c, rfl, hlc, hc, hA⟩ := hs
  have Hm := Lib.hid hm
  clear hm
  go_enter Tryz.func41, Tryz.ntmps41
  go_wp2_with fail
  go_loopw [1, 5] (fun y i wr => ∃ k : Nat, k ≤ l.length ∧ i = .int .i64 k ∧ y = .int .i64 (x + cntL n (l.take k)) ∧ Below w.heap.size w wr) (fun _ i _ => l.length - (intOf i).toNat)
  case atStart => exact ⟨0, Nat.zero_le _, rfl, by simp [cntL, szL], bel⟩
  case round =>
    obtain ⟨k, hk, rfl, rfl, hbr⟩ := hrel
    by_cases hlt : k < l.length
    · obtain ⟨b, o, rfl, -, hb2, hcell⟩ := hA (by omega)
      obtain ⟨d, hd⟩ := exists_at hlt
      obtain ⟨es, -, hcs, hC⟩ := hcell k d hd
      obtain ⟨m, rfl⟩ := hC.any
      obtain ⟨v4, v5, rfl, a0, a2, a3, a4, a5⟩ := hC.out
      obtain ⟨A4, c4, rfl⟩ := a4.form
      obtain ⟨A5, c5, rfl⟩ := a5.form
      obtain ⟨k0, k1, k2, k3, k4⟩ := Hm.out k d hd
      have Hs := Lib.hid (cntL_succ (m + 1) l k d hd)
      have Hd := Lib.hid (cntT_succ m d)
      have hb1 := cntL_succ (m + 1) l k d hd
      have hb3 := cntL_le (m + 1) l (k + 1)
      rw [cntT_succ] at hb1
      have hbd : x + cntL (m + 1) (l.take k) + 4 + d.keys.length + cntL m d.kids ≤ 1152921504606846976 := by omega
      have hb0 : 0 ≤ (cntL (m + 1) (l.take k) : Int) := by omega
      clear hb1 hb3
      obtain ⟨y, hy⟩ : ∃ y : Int, y = x + cntL (m + 1) (l.take k) := ⟨_, rfl⟩
      rw [← hy] at hbd k0 k1 k2 k3 k4 ⊢
      have hy0 : 0 < y := by omega
      have Hy := Lib.hid hy
      clear hy hb0
      rw [k0, k1, k2, k3] at hcs
      obtain ⟨k4, k5⟩ := k4.out
      have hc0 := (hbr.cell (p := ⟨b, o + k * 6 + 0, none⟩) (by simp; omega)).trans (hcs 0 (by omega))
      have hc1 := (hbr.cell (p := ⟨b, o + k * 6 + 1, none⟩) (by simp; omega)).trans (hcs 1 (by omega))
      have hc2 := (hbr.cell (p := ⟨b, o + k * 6 + 2, none⟩) (by simp; omega)).trans (hcs 2 (by omega))
      have hc3 := (hbr.cell (p := ⟨b, o + k * 6 + 3, none⟩) (by simp; omega)).trans (hcs 3 (by omega))
      have hc4 := (hbr.cell (p := ⟨b, o + k * 6 + 4, none⟩) (by simp; omega)).trans (hcs 4 (by omega))
      have hc5 := (hbr.cell (p := ⟨b, o + k * 6 + 5, none⟩) (by simp; omega)).trans (hcs 5 (by omega))
      simp at hc0 hc1 hc2 hc3 hc4 hc5
      have hbl : b < wr.heap.size := Nat.lt_of_lt_of_le hb2 hbr.size
      have hq0 : (0 : Int) ≤ k := by omega
      have hq1 : (k : Int) < l.length := by omega
      have H4 := Lib.hid k4
      have H5 := Lib.hid k5
      clear hcs hcell hA hd k0 k1 k2 k3 k4 k5
      go_wp2_with fail
      refine wp_region_det 8 (by kernel_rfl) (by kernel_rfl) (by decide) ?_
      apply Exists.intro
      refine And.intro ?_ ?_
      · (intro W hW; (try simp only [Act.put, List.setIfInBounds_toArray, List.set_cons_zero, List.set_cons_succ]); first | (go_wp2_with fail; exact ⟨rfl, rfl, Below.refl _ _⟩))
      apply Exists.intro
      refine And.intro ?_ ?_
      · (intro W hW; (try simp only [Act.put, List.setIfInBounds_toArray, List.set_cons_zero, List.set_cons_succ]); first | (go_wp2_with fail; exact ⟨rfl, rfl, Below.refl _ _⟩))
      apply Exists.intro
      refine And.intro ?_ ?_
      · (intro W hW; (try simp only [Act.put, List.setIfInBounds_toArray, List.set_cons_zero, List.set_cons_succ]); first | (go_wp2_with fail; exact ⟨rfl, rfl, Below.refl _ _⟩))
      apply Exists.intro
      refine And.intro ?_ ?_
      · (intro W hW; (try simp only [Act.put, List.setIfInBounds_toArray, List.set_cons_zero, List.set_cons_succ]); first | (go_wp2_with fail; exact ⟨rfl, rfl, Below.refl _ _⟩))
      apply Exists.intro
      refine And.intro ?_ ?_
      · (intro W hW; (try simp only [Act.put, List.setIfInBounds_toArray, List.set_cons_zero, List.set_cons_succ]); first | (obtain ⟨hcW, hfW⟩ := bcell hW; have hsW := hW.size; (try simp at hsW); (try have hsW0 := lt_of_succ_le hsW); (try (have hsW1 := lt_pred hsW; (try (have hsW2 := lt_pred hsW1)))); go_wp2_with fail; exact ⟨rfl, rfl, Below.refl _ _⟩))
      apply Exists.intro
      refine And.intro ?_ ?_
      · (intro W hW; (try simp only [Act.put, List.setIfInBounds_toArray, List.set_cons_zero, List.set_cons_succ]); first | (go_wp2_with fail; exact ⟨rfl, rfl, Below.refl _ _⟩))
      apply Exists.intro
      refine And.intro ?_ ?_
      · (intro W hW; (try simp only [Act.put, List.setIfInBounds_toArray, List.set_cons_zero, List.set_cons_succ]); first | (obtain ⟨hcW, hfW⟩ := bcell hW; have hsW := hW.size; (try simp at hsW); (try have hsW0 := lt_of_succ_le hsW); (try (have hsW1 := lt_pred hsW; (try (have hsW2 := lt_pred hsW1)))); go_wp2_with (first | (go_at_call 72; refine (c_laws_markText _ _ (by omega) (by omega)).mono ?_; rintro e w9 ⟨rfl, hb9⟩)); exact ⟨rfl, rfl, bel⟩))
      apply Exists.intro
      refine And.intro ?_ ?_
      · (intro W hW; (try simp only [Act.put, List.setIfInBounds_toArray, List.set_cons_zero, List.set_cons_succ]); first | (go_wp2_with fail; exact ⟨rfl, rfl, Below.refl _ _⟩))
      intro w1 hb
      (first | (have hcu2 := Cum.join hcu hb; (try clear hcu); (try clear hc); (try clear hfz); (try clear hsz); (try clear hs0); (try clear hs1); (try clear hs2); (try clear hs3); (try clear hs4); ) | have hcu2 := Cum.mk hb); have hcu := hcu2; clear hcu2; obtain ⟨hc, hfz⟩ := bcell hcu.h; have hsz := hcu.h.size; (try simp at hsz); (try have hs0 := lt_of_succ_le hsz); (try (have hs1 := lt_pred hsz; (try (have hs2 := lt_pred hs1; (try (have hs3 := lt_pred hs2; (try have hs4 := lt_pred hs3)))))))
      (try simp only [Act.put, List.setIfInBounds_toArray, List.set_cons_zero, List.set_cons_succ])
      (try simp only [List.drop_succ_cons, List.drop_nil])
      go_wp2_with (first | (go_at_call 40; refine (c_laws_heldStringS d.keys _ _ _ _ (a4.now bel) H4.out (by omega) (by omega)).mono ?_; rintro e w1 ⟨rfl, hb⟩; (first | (have hcu2 := Cum.join hcu hb; (try clear hcu); (try clear hc); (try clear hfz); (try clear hsz); (try clear hs0); (try clear hs1); (try clear hs2); (try clear hs3); (try clear hs4); ) | have hcu2 := Cum.mk hb); have hcu := hcu2; clear hcu2; obtain ⟨hc, hfz⟩ := bcell hcu.h; have hsz := hcu.h.size; (try simp at hsz); (try have hs0 := lt_of_succ_le hsz); (try (have hs1 := lt_pred hsz; (try (have hs2 := lt_pred hs1; (try (have hs3 := lt_pred hs2; (try have hs4 := lt_pred hs3)))))))) | (go_at_call 41; refine (ih m rfl d.kids _ _ _ _ (a5.now bel) H5.out (by omega) (by omega)).mono ?_; rintro e w1 ⟨rfl, hb⟩; (first | (have hcu2 := Cum.join hcu hb; (try clear hcu); (try clear hc); (try clear hfz); (try clear hsz); (try clear hs0); (try clear hs1); (try clear hs2); (try clear hs3); (try clear hs4); ) | have hcu2 := Cum.mk hb); have hcu := hcu2; clear hcu2; obtain ⟨hc, hfz⟩ := bcell hcu.h; have hsz := hcu.h.size; (try simp at hsz); (try have hs0 := lt_of_succ_le hsz); (try (have hs1 := lt_pred hsz; (try (have hs2 := lt_pred hs1; (try (have hs3 := lt_pred hs2; (try have hs4 := lt_pred hs3)))))))))
      go_roundw
      case rel => exact ⟨k + 1, by omega, by go_num, by rw [Hs.out, Hd.out, Hy.out]; congr 1; push_cast; omega, bel⟩
      case measure => simp [intOf]; omega
    · obtain rfl : k = l.length := by omega
      have Ht := Lib.hid (show cntL n (l.take l.length) = cntL n l by rw [List.take_length])
      have hb0 : 0 ≤ (cntL n (l.take l.length) : Int) := by omega
      clear hA
      go_wp2_with fail
      go_ret
      exact ⟨ret_int (by rw [Ht.out]), bel⟩
theorem all_heldS : ∀ n, T_heldS n
  | 0 => of_heldS 0 (fun m h => by omega)
  | n + 1 => of_heldS (n + 1) (fun m h => by
    obtain rfl : n = m := by omega
    exact all_heldS n)
theorem c_laws_heldTree (n : Nat) (d : TreeD) (cs : List Value) (x : Int) (w : World) (lo : Nat) (h : C_Tree n lo w.heap.size w d cs) (hm : MkT n x d) (h1 : 0 < x) (h2 : x + cntT n d ≤ 1152921504606846976) :
    Calls Tryz.prog 19 #[.agg cs.toArray, .int .i64 x] w fun e w' => e = .returned (.int .i64 (x + cntT n d)) ∧ Below w.heap.size w w' := by
  obtain ⟨m, rfl⟩ := h.any
  obtain ⟨v4, v5, rfl, a0, a2, a3, a4, a5⟩ := h.out
  obtain ⟨A4, c4, rfl⟩ := a4.form
  obtain ⟨A5, c5, rfl⟩ := a5.form
  obtain ⟨k4, k5⟩ := hm.out
  have Hd := Lib.hid (cntT_succ m d)
  rw [Hd.out] at h2
  have H4 := Lib.hid k4
  have H5 := Lib.hid k5
  clear k4 k5 hm
  have hb0 : 0 ≤ (cntL m d.kids : Int) := by omega
  go_enter Tryz.func19, Tryz.ntmps19
  go_wp2_with (first | (go_at_call 40; refine (c_laws_heldStringS d.keys _ _ _ _ (a4.now bel) H4.out (by omega) (by omega)).mono ?_; rintro e w1 ⟨rfl, hb⟩; (first | (have hcu2 := Cum.join hcu hb; (try clear hcu); (try clear hc); (try clear hfz); (try clear hsz); (try clear hs0); (try clear hs1); (try clear hs2); (try clear hs3); (try clear hs4); ) | have hcu2 := Cum.mk hb); have hcu := hcu2; clear hcu2; obtain ⟨hc, hfz⟩ := bcell hcu.h; have hsz := hcu.h.size; (try simp at hsz); (try have hs0 := lt_of_succ_le hsz); (try (have hs1 := lt_pred hsz; (try (have hs2 := lt_pred hs1; (try (have hs3 := lt_pred hs2; (try have hs4 := lt_pred hs3)))))))) | (go_at_call 41; refine (all_heldS m d.kids _ _ _ _ (a5.now bel) H5.out (by omega) (by omega)).mono ?_; rintro e w1 ⟨rfl, hb⟩; (first | (have hcu2 := Cum.join hcu hb; (try clear hcu); (try clear hc); (try clear hfz); (try clear hsz); (try clear hs0); (try clear hs1); (try clear hs2); (try clear hs3); (try clear hs4); ) | have hcu2 := Cum.mk hb); have hcu := hcu2; clear hcu2; obtain ⟨hc, hfz⟩ := bcell hcu.h; have hsz := hcu.h.size; (try simp at hsz); (try have hs0 := lt_of_succ_le hsz); (try (have hs1 := lt_pred hsz; (try (have hs2 := lt_pred hs1; (try (have hs3 := lt_pred hs2; (try have hs4 := lt_pred hs3)))))))))
  go_ret
  exact ⟨ret_int (by rw [Hd.out]; push_cast; omega), bel⟩
end Go.Proofs.YtffelpdefjkeaaaGreatDoor
namespace Go.Proofs.YtffelpdefjkeaaaGreatDoor
open Go.RowKit Go.Lib
/-- What the law holds: the reference's tree (blocks from a1 to b1), the program's (from a2 to b2), and their boxes. -/
structure Two (a1 b1 a2 b2 : Nat) (t d : TreeD) (f : Flt) (cs1 cs2 : List Value) (wx : World) : Prop where
  spec : OwnT 10 (fun x => a1 ≤ x ∧ x < b1) wx t cs1
  mine : OwnT 10 (fun x => a2 ≤ x ∧ x < b2) wx d cs2
  box3 : wx.heap[b1]? = some (.cells cs1.toArray 27 (0, 0))
  box4 : wx.heap[b1 + 1]? = some (.cells (fltC f) 29 (0, 0))
  box5 : wx.heap[b2]? = some (.cells cs2.toArray 27 (0, 0))
  box6 : wx.heap[b2 + 1]? = some (.cells (fltC f) 29 (0, 0))
theorem Two.below {a1 b1 a2 b2 : Nat} {t d : TreeD} {f : Flt} {cs1 cs2 : List Value} {wx wy : World} (h : Two a1 b1 a2 b2 t d f cs1 cs2 wx) (hb : Below wx.heap.size wx wy) : Two a1 b1 a2 b2 t d f cs1 cs2 wy := by
  have l1 := row_lt h.box3
  have l2 := row_lt h.box5
  exact ⟨h.spec.carry (fun x hx => hb.block x (by omega)) (fun _ hx => hx), h.mine.carry (fun x hx => hb.block x (by omega)) (fun _ hx => hx), (hb.block _ (row_lt h.box3)).trans h.box3, (hb.block _ (row_lt h.box4)).trans h.box4, (hb.block _ (row_lt h.box5)).trans h.box5, (hb.block _ (row_lt h.box6)).trans h.box6⟩
theorem Two.marked {a1 b1 a2 b2 : Nat} {t d d' : TreeD} {f : Flt} {cs1 cs2 : List Value} {wx wy : World} (h : Two a1 b1 a2 b2 t d f cs1 cs2 wx) (hn : b1 + 2 ≤ a2) (hA : Aside (fun x => a2 ≤ x ∧ x < b2) wx wy) (hO : OwnT 10 (fun x => a2 ≤ x ∧ x < b2) wy d' cs2) : Two a1 b1 a2 b2 t d' f cs1 cs2 wy := by
  have l1 := row_lt h.box3
  exact ⟨h.spec.carry (fun x hx => hA.block x (by omega) (by omega)) (fun _ hx => hx), hO, (hA.block _ (row_lt h.box3) (by omega)).trans h.box3, (hA.block _ (row_lt h.box4) (by omega)).trans h.box4, (hA.block _ (row_lt h.box5) (by omega)).trans h.box5, (hA.block _ (row_lt h.box6) (by omega)).trans h.box6⟩
set_option maxHeartbeats 8000000 in
set_option maxRecDepth 10000 in
theorem w_FnExactReadBraced (d0 : ByteArray) (v0 : Value) (w : World) (h0 : R_Str w d0 v0) (hE : ErrR w) (hT : Tabs w) (hV : CTab w) :
    Calls Tryz.prog 5 #[v0] w fun e w' => e = .returned (.bool true) ∧ Below w.heap.size w w' := by
  obtain ⟨rfl, hs⟩ := h0
  by_cases hq : d0.size ≤ 1048576
  · have hq1 : decide ((1048576 : Int) < d0.size) = false := decide_eq_false (by omega)
    have HS := Lib.hid (c_spec_ReadBraced d0 w hq)
    have HI := Lib.hid (fun (w' : World) (h : Below w.heap.size w w') => c_impl_ReadBraced d0 w' hq (hV.below h) (hT.below h) (hE.below h))
    have hc := cnt_readB d0
    obtain ⟨r, hr⟩ : ∃ r, r = readB d0 := ⟨_, rfl⟩
    rw [← hr] at HS HI hc
    clear hr hV hT hE
    obtain ⟨⟨fc, fa, fp⟩, t⟩ := r
    simp only at hc
    have HC := Lib.hid hc
    have hrf : fltC (⟨fc, fa, fp⟩ : Flt) = #[.int .i64 fc, .int .i64 fa, .string fp] := rfl
    have HRF := Lib.hid hrf
    clear hc hrf
    go_enter Tryz.func5, Tryz.ntmps5
    go_wp2_with fail
    refine HS.out.mono ?_
    rintro e w1 ⟨cs, rfl, hO1, hb1⟩
    have HO1 := Lib.hid hO1
    obtain ⟨P4, p4, P5, p5, rfl, -⟩ := hO1.flat
    simp only [HRF.out]
    have HB1 := Lib.hid hb1
    clear hO1 hb1
    go_wp2_with fail
    obtain ⟨w2, hw2⟩ : ∃ W, W = (w1.alloc (.cells #[.int .i64 t.kind, .bool t.flag, .int .i64 t.num, .string t.text, .slice P4 t.keys.length p4, .slice P5 t.kids.length p5] 27)).alloc (.cells #[.int .i64 fc, .int .i64 fa, .string fp] 29) := ⟨_, rfl⟩
    have hb2 : Below w1.heap.size w1 w2 := by rw [hw2]; exact bel
    have X3 : w2.heap[w1.heap.size]? = some (.cells #[.int .i64 t.kind, .bool t.flag, .int .i64 t.num, .string t.text, .slice P4 t.keys.length p4, .slice P5 t.kids.length p5] 27 (0, 0)) := by rw [hw2]; exact (Below.heap_alloc _ _ _ (by simp)).trans (heap_at rfl)
    have X4 : w2.heap[w1.heap.size + 1]? = some (.cells #[.int .i64 fc, .int .i64 fa, .string fp] 29 (0, 0)) := by rw [hw2]; exact heap_at (by simp)
    rw [← hw2]
    have l4 := row_lt X4
    refine (HI.out w2 (HB1.out.trans (hb2.mono HB1.out.size))).mono ?_
    rintro e w3 ⟨cs, rfl, hO2, hb3⟩
    have HO2 := Lib.hid hO2
    obtain ⟨Q4, q4, Q5, q5, rfl, -⟩ := hO2.flat
    simp only [HRF.out]
    have s3 := hb3.size
    have HX3 := Lib.hid ((hb3.block _ (by omega)).trans X3)
    have HX4 := Lib.hid ((hb3.block _ (by omega)).trans X4)
    have HO1' := Lib.hid (HO1.out.carry (w' := w3) (fun x hx => (hb3.block x (by omega)).trans (hb2.block x hx.2)) (fun _ hx => hx))
    have H03 := Lib.hid (HB1.out.trans ((hb2.trans (hb3.mono hb2.size)).mono HB1.out.size))
    clear hO2 hb3 hw2 hb2 X3 X4
    go_upto_region 5 with fail
    obtain ⟨w4, hw4⟩ : ∃ W, W = (w3.alloc (.cells #[.int .i64 t.kind, .bool t.flag, .int .i64 t.num, .string t.text, .slice Q4 t.keys.length q4, .slice Q5 t.kids.length q5] 27)).alloc (.cells #[.int .i64 fc, .int .i64 fa, .string fp] 29) := ⟨_, rfl⟩
    have hb4 : Below w3.heap.size w3 w4 := by rw [hw4]; exact bel
    have X5 : w4.heap[w3.heap.size]? = some (.cells #[.int .i64 t.kind, .bool t.flag, .int .i64 t.num, .string t.text, .slice Q4 t.keys.length q4, .slice Q5 t.kids.length q5] 27 (0, 0)) := by rw [hw4]; exact (Below.heap_alloc _ _ _ (by simp)).trans (heap_at rfl)
    have X6 : w4.heap[w3.heap.size + 1]? = some (.cells #[.int .i64 fc, .int .i64 fa, .string fp] 29 (0, 0)) := by rw [hw4]; exact heap_at (by simp)
    rw [← hw4]
    have H4 : Two w.heap.size w1.heap.size w2.heap.size w3.heap.size t t ⟨fc, fa, fp⟩ [Value.int .i64 t.kind, .bool t.flag, .int .i64 t.num, .string t.text, .slice P4 t.keys.length p4, .slice P5 t.kids.length p5] [Value.int .i64 t.kind, .bool t.flag, .int .i64 t.num, .string t.text, .slice Q4 t.keys.length q4, .slice Q5 t.kids.length q5] w4 :=
      ⟨HO1'.out.carry (fun x hx => hb4.block x (by omega)) (fun _ hx => hx), HO2.out.carry (fun x hx => hb4.block x hx.2) (fun _ hx => hx), (hb4.block _ (by omega)).trans HX3.out, (hb4.block _ (by omega)).trans HX4.out, X5, X6⟩
    have hgap : w1.heap.size + 2 ≤ w2.heap.size := by omega
    have H04 := Lib.hid (H03.out.trans (hb4.mono H03.out.size))
    have K4 := Lib.hid H4
    clear hb4 hw4 X5 X6 H4 l4 s3
    obtain ⟨a0, a1, a2, a3, a4, a5, af⟩ := row6 K4.out.box3
    obtain ⟨b0, b1, b2, bf⟩ := row3 K4.out.box4
    obtain ⟨c0, c1, c2, c3, c4, c5, cf⟩ := row6 K4.out.box5
    obtain ⟨g0, g1, g2, gf⟩ := row3 K4.out.box6
    have la := row_lt K4.out.box3
    have lb := row_lt K4.out.box4
    have lc := row_lt K4.out.box5
    have ld := row_lt K4.out.box6
    go_wp2_with fail
    refine (all_eqTree 10 t _ _ _ _ _ (K4.out.mine.toC (hi := w4.heap.size) (lo := 0) (fun b hb => ⟨Nat.zero_le _, by have := row_lt K4.out.box5; omega⟩)) (K4.out.spec.toC (hi := w4.heap.size) (lo := 0) (fun b hb => ⟨Nat.zero_le _, by have := row_lt K4.out.box3; omega⟩))).mono ?_
    rintro e w5 ⟨rfl, hb5⟩
    have K5 := Lib.hid (K4.out.below hb5)
    have H05 := Lib.hid (H04.out.trans (hb5.mono H04.out.size))
    clear hb5
    clear a0 a1 a2 a3 a4 a5 af b0 b1 b2 bf c0 c1 c2 c3 c4 c5 cf g0 g1 g2 gf la lb lc ld
    obtain ⟨a0, a1, a2, a3, a4, a5, af⟩ := row6 K5.out.box3
    obtain ⟨b0, b1, b2, bf⟩ := row3 K5.out.box4
    obtain ⟨c0, c1, c2, c3, c4, c5, cf⟩ := row6 K5.out.box5
    obtain ⟨g0, g1, g2, gf⟩ := row3 K5.out.box6
    have la := row_lt K5.out.box3
    have lb := row_lt K5.out.box4
    have lc := row_lt K5.out.box5
    have ld := row_lt K5.out.box6
    go_wp2_with fail
    refine (c_laws_eqFault _ _ _ _).mono ?_
    rintro e w6 ⟨rfl, hb6⟩
    have K6 := Lib.hid (K5.out.below hb6)
    have H06 := Lib.hid (H05.out.trans (hb6.mono H05.out.size))
    clear hb6
    clear a0 a1 a2 a3 a4 a5 af b0 b1 b2 bf c0 c1 c2 c3 c4 c5 cf g0 g1 g2 gf la lb lc ld
    obtain ⟨a0, a1, a2, a3, a4, a5, af⟩ := row6 K6.out.box3
    obtain ⟨b0, b1, b2, bf⟩ := row3 K6.out.box4
    obtain ⟨c0, c1, c2, c3, c4, c5, cf⟩ := row6 K6.out.box5
    obtain ⟨g0, g1, g2, gf⟩ := row3 K6.out.box6
    have la := row_lt K6.out.box3
    have lb := row_lt K6.out.box4
    have lc := row_lt K6.out.box5
    have ld := row_lt K6.out.box6
    go_wp2_with fail
    refine (all_mark 10 t _ 1 _ (fun x => w2.heap.size ≤ x ∧ x < w3.heap.size) K6.out.mine (fun b hb => by have := row_lt K6.out.box5; omega) (by omega) (by have := HC.out; omega)).mono ?_
    rintro e w7 ⟨d, rfl, hO7, hm7, hcn, hA7⟩
    have K7 := Lib.hid (K6.out.marked hgap hA7 hO7)
    have H07 := Lib.hid (H06.out.trans (hA7.below H06.out.size (fun i hi => by have := H03.out.size; have := HB1.out.size; omega)))
    have HM := Lib.hid hm7
    have hp0 : (0 : Int) < 1 + (cntT 10 t : Nat) := by omega
    have hp1 : decide ((1 : Int) + (cntT 10 t : Nat) < 0) = false := decide_eq_false (by omega)
    have HCN := Lib.hid hcn
    obtain ⟨cn, hcnn⟩ : ∃ z : Int, z = 1 + (cntT 10 t : Nat) := ⟨_, rfl⟩
    rw [← hcnn] at hp0 hp1
    rw [← hcnn]
    have HCe := Lib.hid (show (1 : Int) + (cntT 10 d : Nat) = cn by rw [HCN.out, hcnn])
    have hch := Lib.hid (show (1 : Int) + (cntT 10 d : Nat) ≤ 1152921504606846976 by rw [HCN.out]; have := HC.out; omega)
    clear hA7 hO7 hm7 hcn hcnn
    clear a0 a1 a2 a3 a4 a5 af b0 b1 b2 bf c0 c1 c2 c3 c4 c5 cf g0 g1 g2 gf la lb lc ld
    obtain ⟨a0, a1, a2, a3, a4, a5, af⟩ := row6 K7.out.box3
    obtain ⟨b0, b1, b2, bf⟩ := row3 K7.out.box4
    obtain ⟨c0, c1, c2, c3, c4, c5, cf⟩ := row6 K7.out.box5
    obtain ⟨g0, g1, g2, gf⟩ := row3 K7.out.box6
    have la := row_lt K7.out.box3
    have lb := row_lt K7.out.box4
    have lc := row_lt K7.out.box5
    have ld := row_lt K7.out.box6
    go_wp2_with fail
    refine (c_laws_heldTree 10 d _ 1 _ 0 (K7.out.mine.toC (hi := w7.heap.size) (fun b hb => ⟨Nat.zero_le _, by have := row_lt K7.out.box5; omega⟩)) HM.out (by omega) hch.out).mono ?_
    rintro e w8 ⟨rfl, hb8⟩
    rw [HCe.out]
    have K8 := Lib.hid (K7.out.below hb8)
    have H08 := Lib.hid (H07.out.trans (hb8.mono H07.out.size))
    clear hb8
    clear a0 a1 a2 a3 a4 a5 af b0 b1 b2 bf c0 c1 c2 c3 c4 c5 cf g0 g1 g2 gf la lb lc ld
    obtain ⟨a0, a1, a2, a3, a4, a5, af⟩ := row6 K8.out.box3
    obtain ⟨b0, b1, b2, bf⟩ := row3 K8.out.box4
    obtain ⟨c0, c1, c2, c3, c4, c5, cf⟩ := row6 K8.out.box5
    obtain ⟨g0, g1, g2, gf⟩ := row3 K8.out.box6
    have la := row_lt K8.out.box3
    have lb := row_lt K8.out.box4
    have lc := row_lt K8.out.box5
    have ld := row_lt K8.out.box6
    go_wp2_with fail
    refine (HI.out w8 H08.out).mono ?_
    rintro e w9 ⟨cs, rfl, hO9, hb9⟩
    have HO9 := Lib.hid hO9
    obtain ⟨R4, r4, R5, r5, rfl, -⟩ := hO9.flat
    simp only [HRF.out]
    have K9 := Lib.hid (K8.out.below hb9)
    have H09 := Lib.hid (H08.out.trans (hb9.mono H08.out.size))
    clear hO9 hb9 a0 a1 a2 a3 a4 a5 af b0 b1 b2 bf c0 c1 c2 c3 c4 c5 cf g0 g1 g2 gf la lb lc ld
    go_upto_region 16 with fail
    obtain ⟨w10, hw10⟩ : ∃ W, W = (w9.alloc (.cells #[.int .i64 t.kind, .bool t.flag, .int .i64 t.num, .string t.text, .slice R4 t.keys.length r4, .slice R5 t.kids.length r5] 27)).alloc (.cells #[.int .i64 fc, .int .i64 fa, .string fp] 29) := ⟨_, rfl⟩
    have hb10 : Below w9.heap.size w9 w10 := by rw [hw10]; exact bel
    have X7 : w10.heap[w9.heap.size]? = some (.cells #[.int .i64 t.kind, .bool t.flag, .int .i64 t.num, .string t.text, .slice R4 t.keys.length r4, .slice R5 t.kids.length r5] 27 (0, 0)) := by rw [hw10]; exact (Below.heap_alloc _ _ _ (by simp)).trans (heap_at rfl)
    have X8 : w10.heap[w9.heap.size + 1]? = some (.cells #[.int .i64 fc, .int .i64 fa, .string fp] 29 (0, 0)) := by rw [hw10]; exact heap_at (by simp)
    rw [← hw10]
    have K10 := Lib.hid (K9.out.below hb10)
    have H010 := Lib.hid (H09.out.trans (hb10.mono H09.out.size))
    have HX7 := Lib.hid X7
    have HX8 := Lib.hid X8
    have HC9 := Lib.hid (HO9.out.carry (w' := w10) (fun x hx => hb10.block x hx.2) (fun _ hx => hx))
    clear hw10 hb10 X7 X8
    obtain ⟨a0, a1, a2, a3, a4, a5, af⟩ := row6 K10.out.box3
    obtain ⟨b0, b1, b2, bf⟩ := row3 K10.out.box4
    obtain ⟨c0, c1, c2, c3, c4, c5, cf⟩ := row6 K10.out.box5
    obtain ⟨g0, g1, g2, gf⟩ := row3 K10.out.box6
    have la := row_lt K10.out.box3
    have lb := row_lt K10.out.box4
    have lc := row_lt K10.out.box5
    have ld := row_lt K10.out.box6
    obtain ⟨e0, e1, e2, e3, e4, e5, ef⟩ := row6 HX7.out
    obtain ⟨f0, f1, f2, ff⟩ := row3 HX8.out
    have le := row_lt HX7.out
    have lf := row_lt HX8.out
    go_wp2_with fail
    refine (all_eqTree 10 t _ _ _ _ _ (HC9.out.toC (hi := w10.heap.size) (lo := 0) (fun b hb => ⟨Nat.zero_le _, by have := row_lt HX7.out; omega⟩)) (K10.out.spec.toC (hi := w10.heap.size) (lo := 0) (fun b hb => ⟨Nat.zero_le _, by have := row_lt K10.out.box3; omega⟩))).mono ?_
    rintro e w11 ⟨rfl, hb11⟩
    have K11 := Lib.hid (K10.out.below hb11)
    have H011 := Lib.hid (H010.out.trans (hb11.mono H010.out.size))
    have HX9 := Lib.hid ((hb11.block _ lf).trans HX8.out)
    clear hb11 e0 e1 e2 e3 e4 e5 ef f0 f1 f2 ff le lf
    clear a0 a1 a2 a3 a4 a5 af b0 b1 b2 bf c0 c1 c2 c3 c4 c5 cf g0 g1 g2 gf la lb lc ld
    obtain ⟨a0, a1, a2, a3, a4, a5, af⟩ := row6 K11.out.box3
    obtain ⟨b0, b1, b2, bf⟩ := row3 K11.out.box4
    obtain ⟨c0, c1, c2, c3, c4, c5, cf⟩ := row6 K11.out.box5
    obtain ⟨g0, g1, g2, gf⟩ := row3 K11.out.box6
    have la := row_lt K11.out.box3
    have lb := row_lt K11.out.box4
    have lc := row_lt K11.out.box5
    have ld := row_lt K11.out.box6
    obtain ⟨f0, f1, f2, ff⟩ := row3 HX9.out
    have lf := row_lt HX9.out
    go_wp2_with fail
    refine (c_laws_eqFault _ _ _ _).mono ?_
    rintro e w12 ⟨rfl, hb12⟩
    have K12 := Lib.hid (K11.out.below hb12)
    have H012 := Lib.hid (H011.out.trans (hb12.mono H011.out.size))
    clear hb12 f0 f1 f2 ff lf
    clear a0 a1 a2 a3 a4 a5 af b0 b1 b2 bf c0 c1 c2 c3 c4 c5 cf g0 g1 g2 gf la lb lc ld
    obtain ⟨a0, a1, a2, a3, a4, a5, af⟩ := row6 K12.out.box3
    obtain ⟨b0, b1, b2, bf⟩ := row3 K12.out.box4
    obtain ⟨c0, c1, c2, c3, c4, c5, cf⟩ := row6 K12.out.box5
    obtain ⟨g0, g1, g2, gf⟩ := row3 K12.out.box6
    have la := row_lt K12.out.box3
    have lb := row_lt K12.out.box4
    have lc := row_lt K12.out.box5
    have ld := row_lt K12.out.box6
    go_wp2_with fail
    refine (c_laws_heldTree 10 d _ 1 _ 0 (K12.out.mine.toC (hi := w12.heap.size) (fun b hb => ⟨Nat.zero_le _, by have := row_lt K12.out.box5; omega⟩)) HM.out (by omega) hch.out).mono ?_
    rintro e w13 ⟨rfl, hb13⟩
    rw [HCe.out]
    have h013 := H012.out.trans (hb13.mono H012.out.size)
    clear hb13 a0 a1 a2 a3 a4 a5 af b0 b1 b2 bf c0 c1 c2 c3 c4 c5 cf g0 g1 g2 gf la lb lc ld
    go_wp2_with fail
    go_ret
    exact ⟨rfl, h013⟩
  · have hq1 : decide ((1048576 : Int) < d0.size) = true := decide_eq_true (by omega)
    go_enter Tryz.func5, Tryz.ntmps5
    go_wp2_with fail
    go_ret
    exact ⟨rfl, Below.refl _ _⟩
end Go.Proofs.YtffelpdefjkeaaaGreatDoor
namespace Go.Proofs.YtffelpdefjkeaaaGreatDoor
open Go.RowKit
def allR (n : Nat) (p : Nat → Bool) : Bool := (List.range n).all p
theorem allR_succ (n : Nat) (p : Nat → Bool) : allR (n + 1) p = (allR n p && p n) := by
  unfold allR; rw [List.range_succ, List.all_append]; simp
theorem allR_bad (n k : Nat) (p : Nat → Bool) (hk : k < n) (h : p k = false) : allR n p = false := by
  unfold allR; rw [List.all_eq_false]; exact ⟨k, by simpa using hk, by simp [h]⟩
def eqAt {D : Type} (eq : D → D → Bool) (l m : List D) (i : Nat) : Bool := match l[i]?, m[i]? with | some a, some b => eq a b | _, _ => true
theorem eqAt_eq {D : Type} (eq : D → D → Bool) (l m : List D) (i : Nat) (a b : D) (ha : l[i]? = some a) (hb : m[i]? = some b) : eqAt eq l m i = eq a b := by unfold eqAt; rw [ha, hb]
def eqL {D : Type} (eq : D → D → Bool) (l m : List D) : Bool := decide (l.length = m.length) && allR l.length (eqAt eq l m)
theorem eqL_len {D : Type} (eq : D → D → Bool) (l m : List D) (h : l.length ≠ m.length) : eqL eq l m = false := by unfold eqL; simp [h]
theorem eqL_bad {D : Type} (eq : D → D → Bool) (l m : List D) (k : Nat) (hk : k < l.length) (h : eqAt eq l m k = false) : eqL eq l m = false := by unfold eqL; rw [allR_bad _ k _ hk h, Bool.and_false]
theorem eqL_all {D : Type} (eq : D → D → Bool) (l m : List D) (h : l.length = m.length) (ha : allR l.length (eqAt eq l m) = true) : eqL eq l m = true := by unfold eqL; rw [ha]; simp [h]
def eqStr (d d' : ByteArray) : Bool := (d.toList == d'.toList)
set_option maxHeartbeats 4000000 in
theorem c_Equal_Str (l m : List ByteArray) (va vb : Value) (w : World) (lo lo' : Nat) (ha : Sl_Str lo w.heap.size w l va) (hb : Sl_Str lo' w.heap.size w m vb) :
    Calls Tryz.prog 54 #[va, vb] w fun e w' => e = .returned (.bool (eqL eqStr l m)) ∧ Below w.heap.size w w' := by
  obtain ⟨A, c, rfl, hlc, hc, hA⟩ := ha
  obtain ⟨B, c', rfl, hlc', hc', hB⟩ := hb
  by_cases hlen : l.length = m.length
  · have hz : ((l.length : Int) != m.length) = false := by simp [hlen]
    have Hlen := Lib.hid hlen
    clear hlen
    go_enter Tryz.func54, Tryz.ntmps54
    go_wp2_with fail
    go_loopw [13] (fun i wr => ∃ k : Nat, k ≤ l.length ∧ i = .int .i64 k ∧ allR k (eqAt eqStr l m) = true ∧ Below w.heap.size w wr) (fun i _ => l.length - (intOf i).toNat)
    case atStart => exact ⟨0, Nat.zero_le _, rfl, rfl, bel⟩
    case round =>
      obtain ⟨k, hk, rfl, hall, hbr⟩ := hrel
      have Hall := Lib.hid hall
      clear hall
      by_cases hlt : k < l.length
      · obtain ⟨b, o, rfl, -, hbl, hcell⟩ := hA (by omega)
        obtain ⟨b', o', rfl, -, hbl', hcell'⟩ := hB (by have := Hlen.out; omega)
        obtain ⟨d, hd⟩ := exists_at hlt
        obtain ⟨d', hd'⟩ := exists_at (show k < m.length by have := Hlen.out; omega)
        obtain ⟨es, -, hcs, hC⟩ := hcell k d hd
        obtain ⟨es', -, hcs', hC'⟩ := hcell' k d' hd'
        obtain ⟨rfl, -⟩ := hC
        obtain ⟨rfl, -⟩ := hC'
        have hc0 := (hbr.cell (p := ⟨b, o + k * 1 + 0, none⟩) hbl).trans (hcs 0 (by omega))
        have hd0 := (hbr.cell (p := ⟨b', o' + k * 1 + 0, none⟩) hbl').trans (hcs' 0 (by omega))
        simp at hc0 hd0
        have hbr1 := Nat.lt_of_lt_of_le hbl hbr.size
        have hbr2 := Nat.lt_of_lt_of_le hbl' hbr.size
        have hk0 : (0 : Int) ≤ k := by omega
        have hk1 : (k : Int) < l.length := by omega
        have hk2 : (k : Int) < m.length := by have := Hlen.out; omega
        have He := Lib.hid (eqAt_eq eqStr l m k d d' hd hd')
        clear hcs hcell hA hcs' hcell' hB hd hd'
        rcases q0 : (d.toList == d'.toList) with _ | _
        · have Hbad := Lib.hid (show eqAt eqStr l m k = false by rw [He.out]; simp [eqStr, q0])
          go_wp2_with fail
          refine wp_region_det 9 (by kernel_rfl) (by kernel_rfl) (by decide) ?_
          apply Exists.intro
          refine And.intro ?_ ?_
          · (intro W hW; (try simp only [Act.put, List.setIfInBounds_toArray, List.set_cons_zero, List.set_cons_succ]); first | (go_wp2_with fail; exact ⟨rfl, rfl, Below.refl _ _⟩))
          apply Exists.intro
          refine And.intro ?_ ?_
          · (intro W hW; (try simp only [Act.put, List.setIfInBounds_toArray, List.set_cons_zero, List.set_cons_succ]); first | (go_wp2_with fail; exact ⟨rfl, rfl, Below.refl _ _⟩))
          apply Exists.intro
          refine And.intro ?_ ?_
          · (intro W hW; (try simp only [Act.put, List.setIfInBounds_toArray, List.set_cons_zero, List.set_cons_succ]); first | (go_wp2_with fail; exact ⟨rfl, rfl, Below.refl _ _⟩))
          apply Exists.intro
          refine And.intro ?_ ?_
          · (intro W hW; (try simp only [Act.put, List.setIfInBounds_toArray, List.set_cons_zero, List.set_cons_succ]); first | (obtain ⟨hcW, hfW⟩ := bcell hW; have hsW := hW.size; (try simp at hsW); (try have hsW0 := lt_of_succ_le hsW); (try (have hsW1 := lt_pred hsW; (try (have hsW2 := lt_pred hsW1)))); go_wp2_with fail; exact ⟨rfl, rfl, Below.refl _ _⟩))
          apply Exists.intro
          refine And.intro ?_ ?_
          · (intro W hW; (try simp only [Act.put, List.setIfInBounds_toArray, List.set_cons_zero, List.set_cons_succ]); first | (go_wp2_with fail; exact ⟨rfl, rfl, Below.refl _ _⟩))
          apply Exists.intro
          refine And.intro ?_ ?_
          · (intro W hW; (try simp only [Act.put, List.setIfInBounds_toArray, List.set_cons_zero, List.set_cons_succ]); first | (go_wp2_with fail; exact ⟨rfl, rfl, Below.refl _ _⟩))
          apply Exists.intro
          refine And.intro ?_ ?_
          · (intro W hW; (try simp only [Act.put, List.setIfInBounds_toArray, List.set_cons_zero, List.set_cons_succ]); first | (go_wp2_with fail; exact ⟨rfl, rfl, Below.refl _ _⟩))
          apply Exists.intro
          refine And.intro ?_ ?_
          · (intro W hW; (try simp only [Act.put, List.setIfInBounds_toArray, List.set_cons_zero, List.set_cons_succ]); first | (obtain ⟨hcW, hfW⟩ := bcell hW; have hsW := hW.size; (try simp at hsW); (try have hsW0 := lt_of_succ_le hsW); (try (have hsW1 := lt_pred hsW; (try (have hsW2 := lt_pred hsW1)))); go_wp2_with fail; exact ⟨rfl, rfl, Below.refl _ _⟩))
          apply Exists.intro
          refine And.intro ?_ ?_
          · (intro W hW; (try simp only [Act.put, List.setIfInBounds_toArray, List.set_cons_zero, List.set_cons_succ]); first | (go_wp2_with fail; exact ⟨rfl, rfl, Below.refl _ _⟩))
          intro w1 hb
          (first | (have hcu2 := Cum.join hcu hb; (try clear hcu); (try clear hc); (try clear hfz); (try clear hsz); (try clear hs0); (try clear hs1); (try clear hs2); (try clear hs3); (try clear hs4); ) | have hcu2 := Cum.mk hb); have hcu := hcu2; clear hcu2; obtain ⟨hc, hfz⟩ := bcell hcu.h; have hsz := hcu.h.size; (try simp at hsz); (try have hs0 := lt_of_succ_le hsz); (try (have hs1 := lt_pred hsz; (try (have hs2 := lt_pred hs1; (try (have hs3 := lt_pred hs2; (try have hs4 := lt_pred hs3)))))))
          (try simp only [Act.put, List.setIfInBounds_toArray, List.set_cons_zero, List.set_cons_succ])
          (try simp only [List.drop_succ_cons, List.drop_nil])
          go_wp2_with fail
          have Hf := eqL_bad eqStr l m k hlt Hbad.out
          go_ret
          exact ⟨ret_bool Hf.symm, bel⟩
        · skip
          have Hn := Lib.hid (show allR (k + 1) (eqAt eqStr l m) = true by rw [allR_succ, Hall.out, He.out]; simp [eqStr, q0])
          go_wp2_with fail
          refine wp_region_det 9 (by kernel_rfl) (by kernel_rfl) (by decide) ?_
          apply Exists.intro
          refine And.intro ?_ ?_
          · (intro W hW; (try simp only [Act.put, List.setIfInBounds_toArray, List.set_cons_zero, List.set_cons_succ]); first | (go_wp2_with fail; exact ⟨rfl, rfl, Below.refl _ _⟩))
          apply Exists.intro
          refine And.intro ?_ ?_
          · (intro W hW; (try simp only [Act.put, List.setIfInBounds_toArray, List.set_cons_zero, List.set_cons_succ]); first | (go_wp2_with fail; exact ⟨rfl, rfl, Below.refl _ _⟩))
          apply Exists.intro
          refine And.intro ?_ ?_
          · (intro W hW; (try simp only [Act.put, List.setIfInBounds_toArray, List.set_cons_zero, List.set_cons_succ]); first | (go_wp2_with fail; exact ⟨rfl, rfl, Below.refl _ _⟩))
          apply Exists.intro
          refine And.intro ?_ ?_
          · (intro W hW; (try simp only [Act.put, List.setIfInBounds_toArray, List.set_cons_zero, List.set_cons_succ]); first | (obtain ⟨hcW, hfW⟩ := bcell hW; have hsW := hW.size; (try simp at hsW); (try have hsW0 := lt_of_succ_le hsW); (try (have hsW1 := lt_pred hsW; (try (have hsW2 := lt_pred hsW1)))); go_wp2_with fail; exact ⟨rfl, rfl, Below.refl _ _⟩))
          apply Exists.intro
          refine And.intro ?_ ?_
          · (intro W hW; (try simp only [Act.put, List.setIfInBounds_toArray, List.set_cons_zero, List.set_cons_succ]); first | (go_wp2_with fail; exact ⟨rfl, rfl, Below.refl _ _⟩))
          apply Exists.intro
          refine And.intro ?_ ?_
          · (intro W hW; (try simp only [Act.put, List.setIfInBounds_toArray, List.set_cons_zero, List.set_cons_succ]); first | (go_wp2_with fail; exact ⟨rfl, rfl, Below.refl _ _⟩))
          apply Exists.intro
          refine And.intro ?_ ?_
          · (intro W hW; (try simp only [Act.put, List.setIfInBounds_toArray, List.set_cons_zero, List.set_cons_succ]); first | (go_wp2_with fail; exact ⟨rfl, rfl, Below.refl _ _⟩))
          apply Exists.intro
          refine And.intro ?_ ?_
          · (intro W hW; (try simp only [Act.put, List.setIfInBounds_toArray, List.set_cons_zero, List.set_cons_succ]); first | (obtain ⟨hcW, hfW⟩ := bcell hW; have hsW := hW.size; (try simp at hsW); (try have hsW0 := lt_of_succ_le hsW); (try (have hsW1 := lt_pred hsW; (try (have hsW2 := lt_pred hsW1)))); go_wp2_with fail; exact ⟨rfl, rfl, Below.refl _ _⟩))
          apply Exists.intro
          refine And.intro ?_ ?_
          · (intro W hW; (try simp only [Act.put, List.setIfInBounds_toArray, List.set_cons_zero, List.set_cons_succ]); first | (go_wp2_with fail; exact ⟨rfl, rfl, Below.refl _ _⟩))
          intro w1 hb
          (first | (have hcu2 := Cum.join hcu hb; (try clear hcu); (try clear hc); (try clear hfz); (try clear hsz); (try clear hs0); (try clear hs1); (try clear hs2); (try clear hs3); (try clear hs4); ) | have hcu2 := Cum.mk hb); have hcu := hcu2; clear hcu2; obtain ⟨hc, hfz⟩ := bcell hcu.h; have hsz := hcu.h.size; (try simp at hsz); (try have hs0 := lt_of_succ_le hsz); (try (have hs1 := lt_pred hsz; (try (have hs2 := lt_pred hs1; (try (have hs3 := lt_pred hs2; (try have hs4 := lt_pred hs3)))))))
          (try simp only [Act.put, List.setIfInBounds_toArray, List.set_cons_zero, List.set_cons_succ])
          (try simp only [List.drop_succ_cons, List.drop_nil])
          go_wp2_with fail
          go_roundw
          case rel => exact ⟨k + 1, by omega, by go_num, Hn.out, bel⟩
          case measure => simp [intOf]; omega
      · obtain rfl : k = l.length := by omega
        clear hA hB
        go_wp2_with fail
        go_ret
        exact ⟨ret_bool (eqL_all eqStr l m Hlen.out Hall.out).symm, bel⟩
  · have hz : ((l.length : Int) != m.length) = true := bne_iff_ne.2 (by omega)
    go_enter Tryz.func54, Tryz.ntmps54
    go_wp2_with fail
    go_ret
    exact ⟨ret_bool (eqL_len eqStr l m hlen).symm, bel⟩
end Go.Proofs.YtffelpdefjkeaaaGreatDoor
