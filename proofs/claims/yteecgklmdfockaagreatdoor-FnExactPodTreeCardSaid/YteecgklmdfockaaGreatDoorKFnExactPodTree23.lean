/- Written by wip/tools/pack.py: the texts that FnExactPodTree needs, without what it does not need. No conditions. -/
import Derived.Test.YteecgklmdfockaaGreatDoorKFnExactPodTree19
import Derived.Test.YteecgklmdfockaaGreatDoorKFnExactPodTree2
import Derived.Test.YteecgklmdfockaaGreatDoorKFnExactPodTree21
import Derived.Test.YteecgklmdfockaaGreatDoorKFnExactPodTree20
namespace Go.Proofs.YteecgklmdfockaaGreatDoor
open Go.RowKit
theorem cntL_set (n : Nat) (l : List TreeD) (k : Nat) (d e : TreeD) (h : l[k]? = some d) (he : cntT n e = cntT n d) : cntL n (l.set k e) = cntL n l := szL_set _ l k d e h (by rw [he])
theorem take_set_le {D : Type} (l : List D) (k j : Nat) (e : D) (h : j ≤ k) : (l.set k e).take j = l.take j := by
  rw [List.take_set, List.set_eq_of_length_le (by simp; omega)]
/-- What the round of markTreeS does: four cells of the row are turned, then what the member points to. -/
theorem mark_round {m k g : Nat} {F : Nat → Nat → Prop} {S S4 S5 : Nat → Prop} {x : Int} {wr w1 w2 w3 : World} {l : List TreeD} {d : TreeD} {l4 : List ByteArray} {l5 : List TreeD} {cur : Array Value} {A4 A5 : Option Addr} {c4 c5 : Nat}
    (hr : wr.heap[g]? = some (.cells cur 30 (0, 0)))
    (hcur : ∀ i t, l[i]? = some t → ∃ es, es.length = 6 ∧ (∀ j, j < 6 → cur[i * 6 + j]? = es[j]?) ∧ OwnT (m + 1) (F i) wr t es)
    (hd : l[k]? = some d) (hes : ∀ j, j < 6 → cur[k * 6 + j]? = [.int .i64 d.kind, .bool d.flag, .int .i64 d.num, .string d.text, .slice A4 d.keys.length c4, .slice A5 d.kids.length c5][j]?)
    (hF : ∀ i b, F i b → S b ∧ b ≠ g) (hF2 : ∀ i j b, F i b → F j b → i = j) (hSb : ∀ b, S b → b < wr.heap.size) (hg : S g)
    (d4 : ∀ b, S4 b → F k b ∧ ¬ S5 b) (d5 : ∀ b, S5 b → F k b) 
    (hx : I64 (x + 1 + 1)) (hx0 : I64 x) (ht : (mkI (x + 1 + 1 + 1)).size ≤ 9223372036854775807)
    (h1 : w1.heap[g]? = some (.cells (putAt cur (k * 6) [.int .i64 x, .bool ((x + 1) % 3 == 0), .int .i64 (x + 1 + 1), .string (mkI (x + 1 + 1 + 1))]) 30 (0, 0))) (o1 : Aside (fun b => b = g) wr w1)
    (r4 : OwnS S4 w2 l4 (.slice A4 d.keys.length c4)) (n4 : l4.length = d.keys.length) (m4 : MkSs (x + 1 + 1 + 1 + 1) l4) (o2 : Aside S4 w1 w2)
    (r5 : OwnK (OwnT m) S5 w3 l5 (.slice A5 d.kids.length c5)) (m5 : MkLs m (x + 1 + 1 + 1 + 1 + d.keys.length) l5) (q5 : cntL m l5 = cntL m d.kids) (o3 : Aside S5 w2 w3) :
    ∃ t, cntT (m + 1) t = cntT (m + 1) d ∧ MkE (MkT (m + 1)) x t ∧ KidsAt (OwnT (m + 1)) F g w3 (l.set k t) ∧ Aside S wr w3 := by
  have hgw := hSb g hg
  have hkl : k < l.length := (List.getElem?_eq_some_iff.1 hd).1
  have n4g : ¬ S4 g := fun h => (hF k g (d4 g h).1).2 rfl
  have n5g : ¬ S5 g := fun h => (hF k g (d5 g h)).2 rfl
  have s1 := o1.size
  have s2 := o2.size
  have keep : ∀ b, b < wr.heap.size → b ≠ g → ¬ S4 b → ¬ S5 b → w3.heap[b]? = wr.heap[b]? := fun b hb e1 e2 e3 =>
    (o3.block b (by omega) e3).trans ((o2.block b (by omega) e2).trans (o1.block b hb e1))
  have h3 : w3.heap[g]? = some (.cells (putAt cur (k * 6) [.int .i64 x, .bool ((x + 1) % 3 == 0), .int .i64 (x + 1 + 1), .string (mkI (x + 1 + 1 + 1))]) 30 (0, 0)) :=
    (o3.block g (by omega) n5g).trans ((o2.block g (by omega) n4g).trans h1)
  have hkc : k * 6 + 5 < cur.size := by
    have := hes 5 (by omega)
    rcases Nat.lt_or_ge (k * 6 + 5) cur.size with h | h
    · exact h
    · rw [Array.getElem?_eq_none h] at this; cases this
  refine ⟨{ kind := x, flag := (x + 1) % 3 == 0, num := x + 1 + 1, text := mkI (x + 1 + 1 + 1), keys := l4, kids := l5 }, ?_, ⟨rfl, rfl, rfl, rfl, MkT.into m4 (by rw [n4]; exact m5)⟩, ⟨_, h3, fun i t hi => ?_⟩, ?_⟩
  · rw [cntT_succ, cntT_succ, n4, q5]
  · rw [List.getElem?_set] at hi
    by_cases he : k = i
    · subst he
      rw [if_pos rfl, if_pos hkl] at hi
      obtain rfl := Option.some.inj hi
      refine ⟨[.int .i64 x, .bool ((x + 1) % 3 == 0), .int .i64 (x + 1 + 1), .string (mkI (x + 1 + 1 + 1)), .slice A4 d.keys.length c4, .slice A5 d.kids.length c5], rfl, fun j hj => ?_, OwnT.into ⟨_, _, S4, S5, rfl, hx0, hx, ht, d4, d5, ?_, r5⟩⟩
      · by_cases hj4 : j < 4
        · rw [get_putAt _ _ _ j (by simpa using hj4) (by simp; omega)]
          match j, hj4 with
          | 0, _ => rfl
          | 1, _ => rfl
          | 2, _ => rfl
          | 3, _ => rfl
        · rw [get_putAt_ge _ _ _ _ (by simp; omega), hes j hj]
          match j, hj, hj4 with
          | 4, _, _ => rfl
          | 5, _, _ => rfl
      · exact r4.carry (fun b hb => o3.block b (by have := hSb b (hF k b (d4 b hb).1).1; omega) (d4 b hb).2) (fun _ h => h)
    · rw [if_neg he] at hi
      obtain ⟨es, e1, e2, e3⟩ := hcur i t hi
      refine ⟨es, e1, fun j hj => ?_, e3.carry (fun b hb => ?_) (fun _ h => h)⟩
      · rw [← e2 j hj]
        rcases Nat.lt_or_ge i k with h | h
        · rw [get_putAt_lt _ _ _ _ (by omega)]
        · rw [get_putAt_ge _ _ _ _ (by simp; omega)]
      · have hb1 := hF i b hb
        exact keep b (hSb b hb1.1) hb1.2 (fun h => he (hF2 k i b (d4 b h).1 hb)) (fun h => he (hF2 k i b (d5 b h) hb))
  · exact (o1.mono (fun b hb => by subst hb; exact hg)).trans ((o2.mono (fun b hb => (hF k b (d4 b hb).1).1)).trans (o3.mono (fun b hb => (hF k b (d5 b hb)).1)))
def T_markS (n : Nat) : Prop := ∀ (l : List TreeD) (v : Value) (x : Int) (w : World) (S : Nat → Prop) (_ : OwnK (OwnT n) S w l v) (_ : ∀ b, S b → b < w.heap.size) (_ : 0 < x) (_ : x + cntL n l ≤ 1152921504606846976),
    Calls Tryz.prog 43 #[v, .int .i64 x] w fun e w' => ∃ l', e = .returned (.int .i64 (x + cntL n l)) ∧ l'.length = l.length ∧ OwnK (OwnT n) S w' l' v ∧ MkLs n x l' ∧ cntL n l' = cntL n l ∧ Aside S w w'
set_option maxHeartbeats 1000000 in
theorem of_markS (n : Nat) (ih : ∀ m, n = m + 1 → T_markS m) : T_markS n := by
  intro l v x w S h hSb h1 h2
  obtain ⟨A, c, rfl, hlc, hc, hA⟩ := h
  by_cases hz : l.length = 0
  · obtain rfl : l = [] := List.eq_nil_of_length_eq_zero hz
    clear hA
    go_enter Tryz.func43, Tryz.ntmps43
    go_wp2_with fail
    go_loopw [1, 5] (fun y i wr => y = .int .i64 x ∧ i = .int .i64 0 ∧ wr = w) (fun _ _ _ => 0)
    case atStart => exact ⟨rfl, rfl, rfl⟩
    case round =>
      obtain ⟨rfl, rfl, rfl⟩ := hrel
      go_wp2_with fail
      go_ret
      exact ⟨[], ret_int (by simp [cntL, szL]), rfl, ⟨A, c, rfl, by simp, hc, fun h => by simp at h⟩, fun i s h => by simp at h, rfl, Aside.refl _ _⟩
  · obtain ⟨g, F, rfl, hg, hF, hF2, hkids⟩ := hA (by omega)
    have hgl := hSb g hg
    go_enter Tryz.func43, Tryz.ntmps43
    go_wp2_with fail
    go_loopw [1, 5] (fun y i wr => ∃ (k : Nat) (l' : List TreeD), k ≤ l.length ∧ l'.length = l.length ∧ i = .int .i64 k ∧ y = .int .i64 (x + cntL n (l'.take k)) ∧ KidsAt (OwnT n) F g wr l' ∧ (∀ (j : Nat) (t : TreeD), j < k → l'[j]? = some t → MkE (MkT n) (x + cntL n (l'.take j)) t) ∧ cntL n l' = cntL n l ∧ Aside S w wr) (fun _ i _ => l.length - (intOf i).toNat)
    case atStart => exact ⟨0, l, Nat.zero_le _, rfl, rfl, by simp [cntL, szL], hkids, fun j s h => by omega, rfl, Aside.refl _ _⟩
    case round =>
      obtain ⟨k, l', hk, hl', rfl, rfl, ⟨cur, hr, hcur⟩, hmk, hcn, has⟩ := hrel
      have Hm := Lib.hid hmk
      have Hc := Lib.hid hcn
      clear hmk hcn
      by_cases hlt : k < l.length
      · obtain ⟨d, hd⟩ := exists_at (l := l') (k := k) (by omega)
        obtain ⟨es, -, hes, hO⟩ := hcur k d hd
        obtain ⟨m, rfl⟩ := hO.any
        obtain ⟨v4, v5, S4, S5, rfl, a0, a2, a3, d4, d5, a4, a5⟩ := hO.out
        obtain ⟨A4, c4, rfl⟩ := a4.form
        obtain ⟨A5, c5, rfl⟩ := a5.form
        have hb1 := cntL_succ (m + 1) l' k d hd
        have hb2 := cntL_le (m + 1) l' (k + 1)
        rw [cntT_succ] at hb1
        have hbd : x + cntL (m + 1) (l'.take k) + 4 + d.keys.length + cntL m d.kids ≤ 1152921504606846976 := by have := Hc.out; omega
        have hb0 : 0 ≤ (cntL (m + 1) (l'.take k) : Int) := by omega
        have Hb1 := Lib.hid hb1
        clear hb1 hb2
        obtain ⟨y, hy⟩ : ∃ y : Int, y = x + cntL (m + 1) (l'.take k) := ⟨_, rfl⟩
        rw [← hy] at hbd ⊢
        have hy0 : 0 < y := by omega
        have Hy := Lib.hid hy
        clear hy hb0
        have hx0 : wr.cell? ⟨g, k * 6, none⟩ = some (.int .i64 d.kind) := by rw [cell_of_row wr g _ cur _ _ hr]; exact hes 0 (by omega)
        have hx1 : wr.cell? ⟨g, k * 6 + 1, none⟩ = some (.bool d.flag) := by rw [cell_of_row wr g _ cur _ _ hr]; exact hes 1 (by omega)
        have hx2 : wr.cell? ⟨g, k * 6 + 2, none⟩ = some (.int .i64 d.num) := by rw [cell_of_row wr g _ cur _ _ hr]; exact hes 2 (by omega)
        have hx3 : wr.cell? ⟨g, k * 6 + 3, none⟩ = some (.string d.text) := by rw [cell_of_row wr g _ cur _ _ hr]; exact hes 3 (by omega)
        have hx4 : wr.cell? ⟨g, k * 6 + 4, none⟩ = some (.slice A4 d.keys.length c4) := by rw [cell_of_row wr g _ cur _ _ hr]; exact hes 4 (by omega)
        have hx5 : wr.cell? ⟨g, k * 6 + 5, none⟩ = some (.slice A5 d.kids.length c5) := by rw [cell_of_row wr g _ cur _ _ hr]; exact hes 5 (by omega)
        have hf0 : wr.frozen? ⟨g, k * 6, none⟩ = false := frozen_row hr _
        have hf1 := frozen_row hr (k * 6 + 1)
        have hf2 := frozen_row hr (k * 6 + 2)
        have hf3 := frozen_row hr (k * 6 + 3)
        have hgw := row_lt hr
        have hk1 : (k : Int) < l.length := by omega
        have hws := has.size
        go_wp2_with (first | (go_at_call 88; refine (c_laws_markText _ _ (by omega) (by omega)).mono ?_; rintro e w1 ⟨rfl, hb⟩; (first | (have hcu2 := Cum.join hcu hb; (try clear hcu); (try clear hc); (try clear hfz); (try clear hsz); (try clear hs0); (try clear hs1); (try clear hs2); (try clear hs3); (try clear hs4); ) | have hcu2 := Cum.mk hb); have hcu := hcu2; clear hcu2; obtain ⟨hc, hfz⟩ := bcell hcu.h; have hsz := hcu.h.size; (try simp at hsz); (try have hs0 := lt_of_succ_le hsz); (try (have hs1 := lt_pred hsz; (try (have hs2 := lt_pred hs1; (try (have hs3 := lt_pred hs2; (try have hs4 := lt_pred hs3)))))))))
        have hW : (w1.setCell ⟨g, k * 6 + 3, none⟩ (.string (mkI (y + 1 + 1 + 1)))).heap[g]? = some (.cells (putAt cur (k * 6) [.int .i64 y, .bool ((y + 1) % 3 == 0), .int .i64 (y + 1 + 1), .string (mkI (y + 1 + 1 + 1))]) 30 (0, 0)) :=
          heap_setCell_same w1 g (k * 6 + 3) _ _ _ ((hb.block g (by simp; omega)).trans (heap_setCell_same _ g (k * 6 + 2) _ _ _ (heap_setCell_same _ g (k * 6 + 1) _ _ _ (heap_setCell_same wr g (k * 6) cur _ _ hr))))
        have oW : Aside (fun b => b = g) wr (w1.setCell ⟨g, k * 6 + 3, none⟩ (.string (mkI (y + 1 + 1 + 1)))) :=
          by
            refine Aside.setCell (Aside.trans ?_ (Aside.of_below hb)) ?_
            · refine Aside.setCell (Aside.setCell (Aside.setCell (Aside.refl _ _) ?_) ?_) ?_
              · show g = g; rfl
              · show g = g; rfl
              · show g = g; rfl
            · show g = g; rfl
        have hsW := oW.size
        refine (c_laws_markStringS d.keys _ _ _ S4 (a4.carry (fun b hb => oW.block b (by have := hSb b (hF k b (d4 b hb).1).1; omega) (hF k b (d4 b hb).1).2) (fun _ h => h)) (fun b hb => by have := hSb b (hF k b (d4 b hb).1).1; omega) (by omega) (by omega)).mono ?_
        rintro e w2 ⟨l4, rfl, n4, r4, m4, o4⟩
        have n4g : ¬ S4 g := fun h => (hF k g (d4 g h).1).2 rfl
        have h2r := (o4.block g (by omega) n4g).trans hW
        have hkc : k * 6 + 5 < cur.size := by
          have := hes 5 (by omega)
          rcases Nat.lt_or_ge (k * 6 + 5) cur.size with h | h
          · exact h
          · rw [Array.getElem?_eq_none h] at this; cases this
        have hy5 : w2.cell? ⟨g, k * 6 + 5, none⟩ = some (.slice A5 d.kids.length c5) := by
          rw [cell_of_row w2 g _ _ _ _ h2r, get_putAt_ge _ _ _ _ (by simp)]
          exact hes 5 (by omega)
        have hs4 := o4.size
        go_wp2_with fail
        refine (ih m rfl d.kids _ _ _ S5 (a5.keep (fun b hb => (o4.block b (by have := hSb b (hF k b (d5 b hb)).1; omega) (fun h => (d4 b h).2 hb)).trans (oW.block b (by have := hSb b (hF k b (d5 b hb)).1; omega) (hF k b (d5 b hb)).2)) (fun _ h => h)) (fun b hb => by have := hSb b (hF k b (d5 b hb)).1; omega) (by omega) (by omega)).mono ?_
        rintro e w3 ⟨l5, rfl, -, r5, m5, q5, o5⟩
        have hI : ∀ z : Int, 0 < z → z ≤ 4611686018427387904 → I64 z := fun z h h' => ⟨by omega, by omega⟩
        have R := mark_round hr hcur hd hes hF hF2 (fun b hb => by have := hSb b hb; omega) hg d4 d5 (hI _ (by omega) (by omega)) (hI _ (by omega) (by omega)) (mkI_size _ (by omega)) hW oW r4 n4 m4 o4 r5 m5 q5 o5
        obtain ⟨t, ct, mt, kt, at'⟩ := R
        have Hcnt := Lib.hid (cntL_set (m + 1) l' k d t hd ct)
        have Htk := Lib.hid (show cntL (m + 1) ((l'.set k t).take (k + 1)) = cntL (m + 1) (l'.take k) + (4 + cntT (m + 1) d) by
          rw [cntL_succ (m + 1) (l'.set k t) k t (by rw [List.getElem?_set]; simp; omega), take_set_le _ _ _ _ (Nat.le_refl _), ct])
        have Hmt := Lib.hid mt
        have Hd := Lib.hid (cntT_succ m d)
        clear ct mt hW oW r4 m4 r5 m5 q5 h2r hcur hes
        go_wp2_with fail
        go_roundw
        case rel =>
          refine ⟨k + 1, l'.set k t, by omega, by simp [hl'], by go_num, ?_, kt, fun j s hj h => ?_, by rw [Hcnt.out]; exact Hc.out, has.trans at'⟩
          · rw [Htk.out, Hd.out, Hy.out]; congr 1; push_cast; omega
          · rw [List.getElem?_set] at h
            rw [take_set_le _ _ _ _ (by omega)]
            by_cases he : k = j
            · subst he
              rw [if_pos rfl, if_pos (by omega)] at h
              obtain rfl := Option.some.inj h
              rw [← Hy.out]
              exact Hmt.out
            · rw [if_neg he] at h
              exact Hm.out j s (by omega) h
        case measure => simp [intOf]; omega
      · obtain rfl : k = l.length := by omega
        have Ht := Lib.hid (show cntL n (l'.take l.length) = cntL n l by rw [← hl', List.take_length]; exact Hc.out)
        go_wp2_with fail
        go_ret
        exact ⟨l', ret_int (by rw [Ht.out]), hl', ⟨_, c, by rw [hl'], by omega, hc, fun _ => ⟨g, F, rfl, hg, hF, hF2, cur, hr, hcur⟩⟩, fun i s h => Hm.out i s (by have := (List.getElem?_eq_some_iff.1 h).1; omega) h, Hc.out, has⟩
theorem all_markS : ∀ n, T_markS n
  | 0 => of_markS 0 (fun m h => by omega)
  | n + 1 => of_markS (n + 1) (fun m h => by
    obtain rfl : n = m := by omega
    exact all_markS n)
def T_mark (n : Nat) : Prop := ∀ (d : TreeD) (cs : List Value) (x : Int) (w : World) (S : Nat → Prop) (_ : OwnT n S w d cs) (_ : ∀ b, S b → b < w.heap.size) (_ : 0 < x) (_ : x + cntT n d ≤ 1152921504606846976),
    Calls Tryz.prog 12 #[.agg cs.toArray, .int .i64 x] w fun e w' => ∃ d', e = .returned (.int .i64 (x + cntT n d)) ∧ OwnT n S w' d' cs ∧ MkT n x d' ∧ cntT n d' = cntT n d ∧ Aside S w w'
theorem all_mark (n : Nat) : T_mark n := by
  intro d cs x w S h hSb h1 h2
  obtain ⟨m, rfl⟩ := h.any
  obtain ⟨v4, v5, S4, S5, rfl, a0, a2, a3, d4, d5, a4, a5⟩ := h.out
  obtain ⟨A4, c4, rfl⟩ := a4.form
  obtain ⟨A5, c5, rfl⟩ := a5.form
  have Hd := Lib.hid (cntT_succ m d)
  rw [Hd.out] at h2
  go_enter Tryz.func12, Tryz.ntmps12
  go_wp2_with fail
  have hb4 : ∀ b, S4 b → b < w.heap.size := fun b hb => hSb b (d4 b hb).1
  have hb5 : ∀ b, S5 b → b < w.heap.size := fun b hb => hSb b (d5 b hb)
  refine (c_laws_markStringS d.keys _ _ _ S4 (a4.carry (fun b hb => Below.heap_alloc _ _ b (hb4 b hb)) (fun _ h => h)) (fun b hb => by have := hb4 b hb; simp; omega) h1 (by omega)).mono ?_
  rintro e w1 ⟨l4, rfl, n4, r4, m4, o4⟩
  have hs4 := o4.size
  simp at hs4
  have hbx := (o4.block w.heap.size (by simp) (fun h => absurd (hb4 _ h) (by omega))).trans (heap_alloc_new _ _)
  have hx5 : w1.cell? ⟨w.heap.size, 5, none⟩ = some (.slice A5 d.kids.length c5) := by rw [cell_of_row w1 _ _ _ _ _ hbx]; rfl
  go_wp2_with fail
  refine (all_markS m d.kids _ _ _ S5 (a5.keep (fun b hb => (o4.block b (by have := hb5 b hb; simp; omega) (fun h => (d4 b h).2 hb)).trans (Below.heap_alloc _ _ b (hb5 b hb))) (fun _ h => h)) (fun b hb => by have := hb5 b hb; omega) (by omega) (by omega)).mono ?_
  rintro e w2 ⟨l5, rfl, -, r5, m5, q5, o5⟩
  go_wp2_with fail
  go_ret
  refine ⟨{ d with keys := l4, kids := l5 }, ret_int (by rw [Hd.out]; push_cast; omega), OwnT.into ⟨_, _, S4, S5, rfl, a0, a2, a3, d4, d5, r4.carry (fun b hb => o5.block b (by have := hb4 b hb; omega) (d4 b hb).2) (fun _ h => h), r5⟩, MkT.into m4 (by rw [n4]; exact m5), ?_, ?_⟩
  · rw [Hd.out, cntT_succ]; exact (by rw [n4, q5])
  · exact (Aside.of_below (bel : Below w.heap.size w _)).trans ((o4.mono (fun b hb => (d4 b hb).1)).trans (o5.mono d5))
def T_heldS (n : Nat) : Prop := ∀ (l : List TreeD) (v : Value) (x : Int) (w : World) (lo : Nat) (_ : Sl_Tree n lo w.heap.size w l v) (_ : MkLs n x l) (_ : 0 < x) (_ : x + cntL n l ≤ 1152921504606846976),
    Calls Tryz.prog 45 #[v, .int .i64 x] w fun e w' => e = .returned (.int .i64 (x + cntL n l)) ∧ Below w.heap.size w w'
set_option maxHeartbeats 1000000 in
theorem of_heldS (n : Nat) (ih : ∀ m, n = m + 1 → T_heldS m) : T_heldS n := by
  intro l v x w lo hs hm h1 h2
  obtain ⟨A, c, rfl, hlc, hc, hA⟩ := hs
  have Hm := Lib.hid hm
  clear hm
  go_enter Tryz.func45, Tryz.ntmps45
  go_wp2_with fail
  go_loopw [1, 5] (fun y i wr => ∃ k : Nat, k ≤ l.length ∧ i = .int .i64 k ∧ y = .int .i64 (x + cntL n (l.take k)) ∧ Below w.heap.size w wr) (fun _ i _ => l.length - (intOf i).toNat)
  case atStart => exact ⟨0, Nat.zero_le _, rfl, by simp [cntL, szL], bel⟩
  case round =>
    obtain ⟨k, hk, rfl, rfl, hbr⟩ := hrel
    by_cases hlt : k < l.length
    · obtain ⟨b, o, rfl, -, hb2, hcell⟩ := hA (by omega)
      obtain ⟨d, hd⟩ := exists_at hlt
      obtain ⟨es, -, hcs, hC⟩ := hcell k d hd
      obtain ⟨m, rfl⟩ := hC.any
      obtain ⟨v4, v5, rfl, a0, a2, a3, a4, a5⟩ := hC.out
      obtain ⟨A4, c4, rfl⟩ := a4.form
      obtain ⟨A5, c5, rfl⟩ := a5.form
      obtain ⟨k0, k1, k2, k3, k4⟩ := Hm.out k d hd
      have Hs := Lib.hid (cntL_succ (m + 1) l k d hd)
      have Hd := Lib.hid (cntT_succ m d)
      have hb1 := cntL_succ (m + 1) l k d hd
      have hb3 := cntL_le (m + 1) l (k + 1)
      rw [cntT_succ] at hb1
      have hbd : x + cntL (m + 1) (l.take k) + 4 + d.keys.length + cntL m d.kids ≤ 1152921504606846976 := by omega
      have hb0 : 0 ≤ (cntL (m + 1) (l.take k) : Int) := by omega
      clear hb1 hb3
      obtain ⟨y, hy⟩ : ∃ y : Int, y = x + cntL (m + 1) (l.take k) := ⟨_, rfl⟩
      rw [← hy] at hbd k0 k1 k2 k3 k4 ⊢
      have hy0 : 0 < y := by omega
      have Hy := Lib.hid hy
      clear hy hb0
      rw [k0, k1, k2, k3] at hcs
      obtain ⟨k4, k5⟩ := k4.out
      have hc0 := (hbr.cell (p := ⟨b, o + k * 6 + 0, none⟩) (by simp; omega)).trans (hcs 0 (by omega))
      have hc1 := (hbr.cell (p := ⟨b, o + k * 6 + 1, none⟩) (by simp; omega)).trans (hcs 1 (by omega))
      have hc2 := (hbr.cell (p := ⟨b, o + k * 6 + 2, none⟩) (by simp; omega)).trans (hcs 2 (by omega))
      have hc3 := (hbr.cell (p := ⟨b, o + k * 6 + 3, none⟩) (by simp; omega)).trans (hcs 3 (by omega))
      have hc4 := (hbr.cell (p := ⟨b, o + k * 6 + 4, none⟩) (by simp; omega)).trans (hcs 4 (by omega))
      have hc5 := (hbr.cell (p := ⟨b, o + k * 6 + 5, none⟩) (by simp; omega)).trans (hcs 5 (by omega))
      simp at hc0 hc1 hc2 hc3 hc4 hc5
      have hbl : b < wr.heap.size := Nat.lt_of_lt_of_le hb2 hbr.size
      have hq0 : (0 : Int) ≤ k := by omega
      have hq1 : (k : Int) < l.length := by omega
      have H4 := Lib.hid k4
      have H5 := Lib.hid k5
      clear hcs hcell hA hd k0 k1 k2 k3 k4 k5
      go_wp2_with fail
      refine wp_region_det 8 (by kernel_rfl) (by kernel_rfl) (by decide) ?_
      apply Exists.intro
      refine And.intro ?_ ?_
      · (intro W hW; (try simp only [Act.put, List.setIfInBounds_toArray, List.set_cons_zero, List.set_cons_succ]); first | (go_wp2_with fail; exact ⟨rfl, rfl, Below.refl _ _⟩))
      apply Exists.intro
      refine And.intro ?_ ?_
      · (intro W hW; (try simp only [Act.put, List.setIfInBounds_toArray, List.set_cons_zero, List.set_cons_succ]); first | (go_wp2_with fail; exact ⟨rfl, rfl, Below.refl _ _⟩))
      apply Exists.intro
      refine And.intro ?_ ?_
      · (intro W hW; (try simp only [Act.put, List.setIfInBounds_toArray, List.set_cons_zero, List.set_cons_succ]); first | (go_wp2_with fail; exact ⟨rfl, rfl, Below.refl _ _⟩))
      apply Exists.intro
      refine And.intro ?_ ?_
      · (intro W hW; (try simp only [Act.put, List.setIfInBounds_toArray, List.set_cons_zero, List.set_cons_succ]); first | (go_wp2_with fail; exact ⟨rfl, rfl, Below.refl _ _⟩))
      apply Exists.intro
      refine And.intro ?_ ?_
      · (intro W hW; (try simp only [Act.put, List.setIfInBounds_toArray, List.set_cons_zero, List.set_cons_succ]); first | (obtain ⟨hcW, hfW⟩ := bcell hW; have hsW := hW.size; (try simp at hsW); (try have hsW0 := lt_of_succ_le hsW); (try (have hsW1 := lt_pred hsW; (try (have hsW2 := lt_pred hsW1)))); go_wp2_with fail; exact ⟨rfl, rfl, Below.refl _ _⟩))
      apply Exists.intro
      refine And.intro ?_ ?_
      · (intro W hW; (try simp only [Act.put, List.setIfInBounds_toArray, List.set_cons_zero, List.set_cons_succ]); first | (go_wp2_with fail; exact ⟨rfl, rfl, Below.refl _ _⟩))
      apply Exists.intro
      refine And.intro ?_ ?_
      · (intro W hW; (try simp only [Act.put, List.setIfInBounds_toArray, List.set_cons_zero, List.set_cons_succ]); first | (obtain ⟨hcW, hfW⟩ := bcell hW; have hsW := hW.size; (try simp at hsW); (try have hsW0 := lt_of_succ_le hsW); (try (have hsW1 := lt_pred hsW; (try (have hsW2 := lt_pred hsW1)))); go_wp2_with (first | (go_at_call 88; refine (c_laws_markText _ _ (by omega) (by omega)).mono ?_; rintro e w9 ⟨rfl, hb9⟩)); exact ⟨rfl, rfl, bel⟩))
      apply Exists.intro
      refine And.intro ?_ ?_
      · (intro W hW; (try simp only [Act.put, List.setIfInBounds_toArray, List.set_cons_zero, List.set_cons_succ]); first | (go_wp2_with fail; exact ⟨rfl, rfl, Below.refl _ _⟩))
      intro w1 hb
      (first | (have hcu2 := Cum.join hcu hb; (try clear hcu); (try clear hc); (try clear hfz); (try clear hsz); (try clear hs0); (try clear hs1); (try clear hs2); (try clear hs3); (try clear hs4); ) | have hcu2 := Cum.mk hb); have hcu := hcu2; clear hcu2; obtain ⟨hc, hfz⟩ := bcell hcu.h; have hsz := hcu.h.size; (try simp at hsz); (try have hs0 := lt_of_succ_le hsz); (try (have hs1 := lt_pred hsz; (try (have hs2 := lt_pred hs1; (try (have hs3 := lt_pred hs2; (try have hs4 := lt_pred hs3)))))))
      (try simp only [Act.put, List.setIfInBounds_toArray, List.set_cons_zero, List.set_cons_succ])
      (try simp only [List.drop_succ_cons, List.drop_nil])
      go_wp2_with (first | (go_at_call 44; refine (c_laws_heldStringS d.keys _ _ _ _ (a4.now bel) H4.out (by omega) (by omega)).mono ?_; rintro e w1 ⟨rfl, hb⟩; (first | (have hcu2 := Cum.join hcu hb; (try clear hcu); (try clear hc); (try clear hfz); (try clear hsz); (try clear hs0); (try clear hs1); (try clear hs2); (try clear hs3); (try clear hs4); ) | have hcu2 := Cum.mk hb); have hcu := hcu2; clear hcu2; obtain ⟨hc, hfz⟩ := bcell hcu.h; have hsz := hcu.h.size; (try simp at hsz); (try have hs0 := lt_of_succ_le hsz); (try (have hs1 := lt_pred hsz; (try (have hs2 := lt_pred hs1; (try (have hs3 := lt_pred hs2; (try have hs4 := lt_pred hs3)))))))) | (go_at_call 45; refine (ih m rfl d.kids _ _ _ _ (a5.now bel) H5.out (by omega) (by omega)).mono ?_; rintro e w1 ⟨rfl, hb⟩; (first | (have hcu2 := Cum.join hcu hb; (try clear hcu); (try clear hc); (try clear hfz); (try clear hsz); (try clear hs0); (try clear hs1); (try clear hs2); (try clear hs3); (try clear hs4); ) | have hcu2 := Cum.mk hb); have hcu := hcu2; clear hcu2; obtain ⟨hc, hfz⟩ := bcell hcu.h; have hsz := hcu.h.size; (try simp at hsz); (try have hs0 := lt_of_succ_le hsz); (try (have hs1 := lt_pred hsz; (try (have hs2 := lt_pred hs1; (try (have hs3 := lt_pred hs2; (try have hs4 := lt_pred hs3)))))))))
      go_roundw
      case rel => exact ⟨k + 1, by omega, by go_num, by rw [Hs.out, Hd.out, Hy.out]; congr 1; push_cast; omega, bel⟩
      case measure => simp [intOf]; omega
    · obtain rfl : k = l.length := by omega
      have Ht := Lib.hid (show cntL n (l.take l.length) = cntL n l by rw [List.take_length])
      have hb0 : 0 ≤ (cntL n (l.take l.length) : Int) := by omega
      clear hA
      go_wp2_with fail
      go_ret
      exact ⟨ret_int (by rw [Ht.out]), bel⟩
theorem all_heldS : ∀ n, T_heldS n
  | 0 => of_heldS 0 (fun m h => by omega)
  | n + 1 => of_heldS (n + 1) (fun m h => by
    obtain rfl : n = m := by omega
    exact all_heldS n)
theorem c_laws_heldTree (n : Nat) (d : TreeD) (cs : List Value) (x : Int) (w : World) (lo : Nat) (h : C_Tree n lo w.heap.size w d cs) (hm : MkT n x d) (h1 : 0 < x) (h2 : x + cntT n d ≤ 1152921504606846976) :
    Calls Tryz.prog 13 #[.agg cs.toArray, .int .i64 x] w fun e w' => e = .returned (.int .i64 (x + cntT n d)) ∧ Below w.heap.size w w' := by
  obtain ⟨m, rfl⟩ := h.any
  obtain ⟨v4, v5, rfl, a0, a2, a3, a4, a5⟩ := h.out
  obtain ⟨A4, c4, rfl⟩ := a4.form
  obtain ⟨A5, c5, rfl⟩ := a5.form
  obtain ⟨k4, k5⟩ := hm.out
  have Hd := Lib.hid (cntT_succ m d)
  rw [Hd.out] at h2
  have H4 := Lib.hid k4
  have H5 := Lib.hid k5
  clear k4 k5 hm
  have hb0 : 0 ≤ (cntL m d.kids : Int) := by omega
  go_enter Tryz.func13, Tryz.ntmps13
  go_wp2_with (first | (go_at_call 44; refine (c_laws_heldStringS d.keys _ _ _ _ (a4.now bel) H4.out (by omega) (by omega)).mono ?_; rintro e w1 ⟨rfl, hb⟩; (first | (have hcu2 := Cum.join hcu hb; (try clear hcu); (try clear hc); (try clear hfz); (try clear hsz); (try clear hs0); (try clear hs1); (try clear hs2); (try clear hs3); (try clear hs4); ) | have hcu2 := Cum.mk hb); have hcu := hcu2; clear hcu2; obtain ⟨hc, hfz⟩ := bcell hcu.h; have hsz := hcu.h.size; (try simp at hsz); (try have hs0 := lt_of_succ_le hsz); (try (have hs1 := lt_pred hsz; (try (have hs2 := lt_pred hs1; (try (have hs3 := lt_pred hs2; (try have hs4 := lt_pred hs3)))))))) | (go_at_call 45; refine (all_heldS m d.kids _ _ _ _ (a5.now bel) H5.out (by omega) (by omega)).mono ?_; rintro e w1 ⟨rfl, hb⟩; (first | (have hcu2 := Cum.join hcu hb; (try clear hcu); (try clear hc); (try clear hfz); (try clear hsz); (try clear hs0); (try clear hs1); (try clear hs2); (try clear hs3); (try clear hs4); ) | have hcu2 := Cum.mk hb); have hcu := hcu2; clear hcu2; obtain ⟨hc, hfz⟩ := bcell hcu.h; have hsz := hcu.h.size; (try simp at hsz); (try have hs0 := lt_of_succ_le hsz); (try (have hs1 := lt_pred hsz; (try (have hs2 := lt_pred hs1; (try (have hs3 := lt_pred hs2; (try have hs4 := lt_pred hs3)))))))))
  go_ret
  exact ⟨ret_int (by rw [Hd.out]; push_cast; omega), bel⟩
end Go.Proofs.YteecgklmdfockaaGreatDoor
namespace Go.Proofs.YteecgklmdfockaaGreatDoor
open Go.RowKit
theorem cnt_leafD (n : Nat) (t : ByteArray) : cntT (n + 1) (leafD t) = 0 := by rw [cntT_succ]; rfl
theorem cnt_intD (n : Nat) (x : Int) : cntT (n + 1) (intD x) = 0 := by rw [cntT_succ]; rfl
theorem cntL_bound (n B : Nat) : ∀ (l : List TreeD), (∀ t ∈ l, cntT n t ≤ B) → cntL n l ≤ l.length * (4 + B)
  | [], _ => by unfold cntL; simp [szL]
  | t :: l, h => by
    have ih := cntL_bound n B l (fun y hy => h y (by simp [hy]))
    have hx := h t (by simp)
    have e : cntL n (t :: l) = 4 + cntT n t + cntL n l := rfl
    rw [e, List.length_cons, Nat.succ_mul]
    omega
theorem cnt_pairD (n : Nat) (ks ts : List ByteArray) : cntT (n + 2) (pairT ks ts) ≤ ks.length + ts.length * 4 := by
  rw [cntT_succ]
  have h := cntL_bound (n + 1) 0 (ts.map leafD) (by intro t ht; obtain ⟨x, -, rfl⟩ := List.mem_map.1 ht; rw [cnt_leafD]; exact Nat.le_refl _)
  rw [List.length_map] at h
  exact Nat.add_le_add_left h ks.length
theorem cnt_tree0 (n : Nat) : cntT (n + 1) tree0 = 0 := by rw [cntT_succ]; rfl
theorem cnt_lab (n : Nat) (l : List Label) : cntT (n + 2) (labelsT l) ≤ 40 := by
  unfold labelsT
  split
  · rename_i h
    have h1 := labels_short h
    have h2 := cnt_pairD n (l.map Label.key) (l.map Label.value)
    simp only [List.length_map] at h2
    omega
  · have h2 := cnt_pairD n [] []
    simp at h2
    omega
theorem optL_len (b : Bool) (s : ByteArray) : (optL b s).length ≤ 1 := by unfold optL; split <;> simp
theorem cnt_tol (n : Nat) (d : Tolerance) : cntT (n + 2) (tolTD d) ≤ 20 := by
  unfold tolTD tolT
  split
  · refine Nat.le_trans (cnt_pairD n _ _) ?_
    have h1 := optL_len (d.effect != 0) wEffect
    have h2 := optL_len (!d.key.toList.isEmpty) wKey
    have h3 := optL_len d.equal wValue
    have h4 := optL_len (d.effect != 0) (effW d.effect)
    have h5 := optL_len (!d.key.toList.isEmpty) d.key
    have h6 := optL_len d.equal d.value
    simp only [List.length_append]
    omega
  · rw [cnt_tree0]; omega
theorem cnt_needD (n : Nat) (d : Need) : cntT (n + 3) (needT d) ≤ 60 := by
  rcases h : needOkB d with _ | _
  · rw [needT_none h, cnt_tree0]; omega
  · have hf := (need_few h).1
    by_cases h0 : d.values.length = 0
    · rw [needT_two h h0]
      refine Nat.le_trans (cnt_pairD (n + 1) _ _) ?_
      simp
    · rw [needT_three h h0, cntT_succ]
      have e1 : cntT (n + 2) (leafD d.key) = 0 := cnt_leafD (n + 1) d.key
      have e2 : cntT (n + 2) (leafD (opW d.op)) = 0 := cnt_leafD (n + 1) (opW d.op)
      have e3 : cntT (n + 2) (listT d.values) ≤ 0 + d.values.length * 4 := by
        rw [cntT_succ]
        have h9 := cntL_bound (n + 1) 0 (d.values.map leafD) (by intro t ht; obtain ⟨x, -, rfl⟩ := List.mem_map.1 ht; rw [cnt_leafD]; exact Nat.le_refl _)
        rw [List.length_map] at h9
        exact Nat.add_le_add_left h9 0
      show 3 + (4 + cntT (n + 2) (leafD d.key) + (4 + cntT (n + 2) (leafD (opW d.op)) + (4 + cntT (n + 2) (listT d.values) + 0))) ≤ 60
      omega
theorem cnt_lst (n B : Nat) (l : List TreeD) (h : ∀ t ∈ l, cntT n t ≤ B) (hl : l.length ≤ 4) (hB : B ≤ 100) : cntT (n + 1) (lstD l) ≤ 500 := by
  rw [cntT_succ]
  have h1 := cntL_bound n B l h
  have h2 : l.length * (4 + B) ≤ 4 * (4 + B) := Nat.mul_le_mul_right _ hl
  show 0 + cntL n l ≤ 500
  omega
theorem head_kids (n : Nat) (kind name : ByteArray) (l : List Label) (cpu mem : Int) : ∀ t ∈ headT kind name l cpu mem, cntT (n + 2) t ≤ 500 := by
  intro t ht
  unfold headT optD at ht
  have hl := cnt_lab n l
  split at ht <;> simp at ht
  · rcases ht with rfl | rfl | rfl | rfl | rfl
    · rw [cnt_leafD]; omega
    · rw [cnt_leafD]; omega
    · omega
    · rw [cnt_leafD]; omega
    · rw [cnt_leafD]; omega
  · rcases ht with rfl | rfl | rfl | rfl
    · rw [cnt_leafD]; omega
    · rw [cnt_leafD]; omega
    · rw [cnt_leafD]; omega
    · rw [cnt_leafD]; omega
theorem optD_kids (n B : Nat) (b : Bool) (d : TreeD) (h : cntT n d ≤ B) : ∀ t ∈ optD b d, cntT n t ≤ B := by
  intro t ht
  unfold optD at ht
  split at ht
  · simp at ht; subst ht; exact h
  · cases ht
theorem optD_len (b : Bool) (d : TreeD) : (optD b d).length ≤ 1 := by unfold optD; split <;> simp
end Go.Proofs.YteecgklmdfockaaGreatDoor
