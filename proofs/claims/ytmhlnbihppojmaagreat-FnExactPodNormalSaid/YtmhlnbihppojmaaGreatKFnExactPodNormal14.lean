/- Written by wip/tools/pack.py: the texts that FnExactPodNormal needs, without what it does not need. No conditions. -/
import Derived.Test.YtmhlnbihppojmaaGreatKFnExactPodNormal10
import Derived.Test.YtmhlnbihppojmaaGreatKFnExactPodNormal13
namespace Go.Proofs.YtmhlnbihppojmaaGreat
open Go.RowKit
def normN (d : Need) : Need := ⟨d.key, d.op, valsB d.values⟩
def eqN (a b : Need) : Bool := !lessN a b && !lessN b a
def ordN (l : List Need) : List Need := ordB lessN eqN (l.map normN)
def longN (l : List Need) : Bool := l.any fun d => decide (40 < d.values.length)
def sortNB (l : List Need) : List Need × Bool := if 40 < l.length then (l, false) else if longN l then (l, false) else if selB (ordN l) then (ordN l, true) else (l, false)
theorem SlOf.now' {D : Type} {C : D → List Value → Prop} {sz lo : Nat} {a b : World} {l : List D} {v : Value} (h : SlOf C sz lo a.heap.size a l v) (hb : Below a.heap.size a b) : SlOf C sz lo b.heap.size b l v :=
  SlOf.keep h (same_below hb) (Nat.le_refl _) hb.size (fun _ _ _ h => h)
theorem OwnN.C {base : Nat} {w : World} {x : NeedV} (h : OwnN base w x) : C_Need base w.heap.size w x.d (encN x) := by
  obtain ⟨g1, g2, g3⟩ := h.good
  exact ⟨_, rfl, g1, g2, g3⟩
theorem ordN_len (l : List Need) : (ordN l).length ≤ l.length := by
  have := ordB_len lessN eqN (l.map normN)
  rw [List.length_map] at this
  exact this
theorem ordN_step {l : List Need} {k : Nat} {d : Need} (h : l[k]? = some d) : ordN (l.take (k + 1)) = insB lessN eqN (ordN (l.take k)) (normN d) := by
  unfold ordN
  rw [List.map_take, List.map_take]
  exact ordB_step (by rw [List.getElem?_map, h]; rfl)
theorem longN_at {l : List Need} {k : Nat} {d : Need} (h : l[k]? = some d) (hd : 40 < d.values.length) : longN l = true := by
  unfold longN
  rw [List.any_eq_true]
  exact ⟨d, List.mem_of_getElem? h, decide_eq_true hd⟩
theorem longN_no {l : List Need} (h : ∀ d ∈ l, d.values.length ≤ 40) : longN l = false := by
  unfold longN
  rw [List.any_eq_false]
  intro d hd
  have := h d hd
  simp
  omega
theorem insert_map {L : List NeedV} {x : NeedV} {m : Nat} {O : List Need} (h : L.map (·.d) = O) : (L.take m ++ [x] ++ L.drop m).map (·.d) = O.take m ++ [x.d] ++ O.drop m := by
  subst h
  simp [List.map_append, List.map_take, List.map_drop]
theorem AllN.insert {base m : Nat} {w : World} {L : List NeedV} {x : NeedV} (h : AllN base w L) (hx : OwnN base w x) : AllN base w (L.take m ++ [x] ++ L.drop m) := by
  intro y hy
  rw [List.mem_append, List.mem_append] at hy
  rcases hy with (hy | hy) | hy
  · exact h y (List.mem_of_mem_take hy)
  · rw [List.mem_singleton] at hy
    subst hy
    exact hx
  · exact h y (List.mem_of_mem_drop hy)
set_option maxHeartbeats 8000000 in
set_option maxRecDepth 10000 in
theorem c_spec_SortNeeds (l : List Need) (v : Value) (w : World) (lo : Nat) (hs : Sl_Need lo w.heap.size w l v) (hn : l.length ≤ 1048576) (hv : ∀ d ∈ l, d.values.length ≤ 1048576) :
    Calls Tryz.prog 9 #[v] w fun e w' => ∃ (L : List NeedV) (A : Option Addr) (c : Nat), e = .returned (.tuple #[.slice A (sortNB l).1.length c, .bool (sortNB l).2]) ∧ L.map (·.d) = (sortNB l).1 ∧ RowE encN 3 31 w.heap.size w' L (.slice A (sortNB l).1.length c) ∧ AllN w.heap.size w' L ∧ Below w.heap.size w w' := by
  obtain ⟨i0, hi, hz0, hz1, hz2⟩ := info_parts (show (Tryz.prog.info? 31).map (fun i => (i.zero, i.size, i.bytes)) = some (some (.agg #[.string ⟨#[]⟩, .int .i64 0, .slice none 0 0]), 3, 48) from by kernel_rfl)
  have HSl := Lib.hid hs
  have Hv := Lib.hid hv
  obtain ⟨L0, hL0, hS0, hG0⟩ := open_needs hs
  have HL0 := Lib.hid hL0
  have HG0 := Lib.hid hG0
  have hl0 : L0.length = l.length := by rw [← hL0, List.length_map]
  obtain ⟨A, c, rfl, hlc, hc, hA⟩ := hS0
  have HA := Lib.hid hA
  rw [hl0] at HSl ⊢
  clear hL0 hG0 hs hA hv
  by_cases h40 : (40 : Int) < l.length
  · have Hf := Lib.hid (show sortNB l = (l, false) by unfold sortNB; rw [if_pos (by omega)])
    go_enter Tryz.func9, Tryz.ntmps9
    go_wp2_with fail
    refine (c_l15Copy l _ _ _ HSl.out hn Hv.out).mono ?_
    rintro e w1 ⟨L, B, b, rfl, hL, hR, hN, hb⟩
    have HL := Lib.hid hL
    have HR := Lib.hid hR
    have HN := Lib.hid hN
    clear hL hR hN
    go_wp2_with fail
    go_ret2
    exact ⟨L, B, b, by rw [Hf.out]; rfl, by rw [Hf.out]; exact HL.out, by rw [Hf.out]; exact HR.out, HN.out, hb⟩
  · have h40n : l.length ≤ 40 := by omega
    go_enter Tryz.func9, Tryz.ntmps9
    go_wp2_with fail
    go_loopw [4, 5] (fun q i wr => ∃ (k : Nat) (L : List NeedV) (g c5 : Nat), k ≤ l.length ∧ i = .int .i64 k ∧ q = .slice (some ⟨g, 0, none⟩) L.length c5 ∧ L.map (·.d) = ordN (l.take k) ∧ RowE encN 3 31 w.heap.size wr L (.slice (some ⟨g, 0, none⟩) L.length c5) ∧ AllN w.heap.size wr L ∧ Below w.heap.size w wr ∧ (∀ d ∈ l.take k, d.values.length ≤ 40)) (fun _ i _ => l.length - (intOf i).toNat)
    case atStart => exact ⟨0, [], w.heap.size, 0, Nat.zero_le _, rfl, rfl, rfl, own_empty rfl (Nat.le_refl _), fun x hx => by simp at hx, bel, fun d hd => by simp at hd⟩
    case round =>
      obtain ⟨k, L, g, c5, hk, rfl, rfl, hLm, hR, hN, hbr, hsm⟩ := hrel
      have hLl : L.length ≤ 40 := by have h1 := congrArg List.length hLm; rw [List.length_map] at h1; have h2 := ordN_len (l.take k); rw [List.length_take] at h2; omega
      have HLm := Lib.hid hLm
      have HR := Lib.hid hR
      have HN := Lib.hid hN
      have Hsm := Lib.hid hsm
      clear hLm hR hN hsm
      by_cases hlt : k < l.length
      · obtain ⟨b, o, rfl, -, hgl, hcell⟩ := HA.out (by omega)
        obtain ⟨z, hz⟩ := exists_at (l := L0) (k := k) (by omega)
        obtain ⟨es, -, hcs, hE⟩ := hcell k z hz
        obtain rfl := encN_C z es hE
        have hzm : l[k]? = some z.d := by rw [← HL0.out, List.getElem?_map, hz]; rfl
        obtain ⟨z1, z2, z3⟩ := HG0.out z (List.mem_of_getElem? hz)
        have hc0 := (hbr.cell (p := ⟨b, o + k * 3 + 0, none⟩) (by simp; omega)).trans (hcs 0 (by omega))
        have hc1 := (hbr.cell (p := ⟨b, o + k * 3 + 1, none⟩) (by simp; omega)).trans (hcs 1 (by omega))
        have hc2 := (hbr.cell (p := ⟨b, o + k * 3 + 2, none⟩) (by simp; omega)).trans (hcs 2 (by omega))
        simp [encN] at hc0 hc1 hc2
        have hbl : b < wr.heap.size := Nat.lt_of_lt_of_le hgl hbr.size
        have hk0 : (0 : Int) ≤ k := by omega
        have hk1 : (k : Int) < l.length := by omega
        have Hzm := Lib.hid hzm
        have hwr := hbr.size
        have HZ := Lib.hid z3
        have Hz2 := Lib.hid z2
        clear hcs hcell hz hzm z3 z2
        by_cases hvl : (40 : Int) < z.d.values.length
        · have Hf := Lib.hid (show sortNB l = (l, false) by unfold sortNB; rw [if_neg (by omega), if_pos (longN_at Hzm.out (by omega))])
          go_wp2_with fail
          refine (c_l15Copy l _ _ _ (Sl_Need.now HSl.out hbr) hn Hv.out).mono ?_
          rintro e w1 ⟨L1, B, b1, rfl, hL, hR, hN, hb⟩
          have HL := Lib.hid hL
          have HR1 := Lib.hid (hR.less hwr)
          have HN1 := Lib.hid (hN.less hwr)
          clear hL hR hN
          have Bf := hbr.trans (hb.mono hwr)
          go_wp2_with fail
          go_ret2
          exact ⟨L1, B, b1, by rw [Hf.out]; rfl, by rw [Hf.out]; exact HL.out, by rw [Hf.out]; exact HR1.out, HN1.out, Bf⟩
        · have hv40 : z.d.values.length ≤ 40 := by omega
          have hbW : Below w.heap.size w (wr.alloc (.cells #[.string z.d.key, .int .i64 z.d.op, .slice z.A z.d.values.length z.c] 31)) := hbr.alloc hwr _
          go_wp2_with fail
          refine (c_l15Values z.d.values _ (wr.alloc (.cells #[.string z.d.key, .int .i64 z.d.op, .slice z.A z.d.values.length z.c] 31)) _ (Sl_Str.now HZ.out hbW) (by omega)).mono ?_
          rintro e w2 ⟨A2, c2, rfl, hR2, hb2⟩
          have hs2 := hb2.size
          simp at hs2
          have hbox := (hb2.block wr.heap.size (by simp)).trans (heap_alloc_new wr _)
          have hbx2 := heap_setCell_same w2 wr.heap.size 2 _ _ (.slice A2 (valsB z.d.values).length c2) hbox
          obtain ⟨y0, y1, y2, yf⟩ := row3 hbox
          have hyl := row_lt hbox
          have hb3 : Below wr.heap.size wr w2 := (ext_alloc (Below.refl _ _)).trans (hb2.mono (by simp))
          have hbF : Below wr.heap.size wr (w2.setCell ⟨wr.heap.size, 2, none⟩ (.slice A2 (valsB z.d.values).length c2)) := hb3.setCell (Nat.le_refl _) _
          have hR3 : RowE encS 1 9 wr.heap.size (w2.setCell ⟨wr.heap.size, 2, none⟩ (.slice A2 (valsB z.d.values).length c2)) (valsB z.d.values) (.slice A2 (valsB z.d.values).length c2) := (hR2.less (by simp)).carry (fun q hq => Below.heap_setCell w2 ⟨wr.heap.size, 2, none⟩ _ q (by have := (World.ownsRow.lt hR2 q hq).1; simp at this; simp; omega))
          have hX : OwnN wr.heap.size (w2.setCell ⟨wr.heap.size, 2, none⟩ (.slice A2 (valsB z.d.values).length c2)) ⟨normN z.d, A2, c2⟩ := ⟨z1, Hz2.out, fun s hs => size_strs HZ.out s ((ordB_all tot_S z.d.values).2 s |>.1 hs), hR3⟩
          have hq3 : wr.heap.size < (w2.setCell ⟨wr.heap.size, 2, none⟩ (.slice A2 (valsB z.d.values).length c2)).heap.size := row_lt hbx2
          have HX := Lib.hid (hX.less hwr)
          have HBX := Lib.hid hbx2
          have HR3 := Lib.hid (HR.out.below hbF)
          have HN3 := Lib.hid (HN.out.below hbF)
          have HBF := Lib.hid (hbr.trans (hbF.mono hwr))
          obtain ⟨x, hx⟩ : ∃ x : NeedV, x = ⟨normN z.d, A2, c2⟩ := ⟨_, rfl⟩
          have Hxd := Lib.hid (show x.d = normN z.d by rw [hx])
          have HXX := Lib.hid (show (valsB z.d.values).length = x.d.values.length ∧ z.d.key = x.d.key ∧ z.d.op = x.d.op ∧ A2 = x.A ∧ c2 = x.c by rw [hx]; exact ⟨rfl, rfl, rfl, rfl, rfl⟩)
          rw [← hx] at HX
          clear hx
          clear hX hR3 hb3 hb2 hR2 hbF hbox hbx2 HR HN hbW
          go_wp2_with fail
          generalize (w2.setCell ⟨wr.heap.size, 2, none⟩ (.slice A2 (valsB z.d.values).length c2)) = w3 at *
          clear y0 y1 y2 yf hyl hs2 hc0 hc1 hc2
          generalize wr.heap.size = q at *
          have hq0 := hq3
          obtain ⟨O, hO⟩ : ∃ O, O = ordN (l.take k) := ⟨_, rfl⟩
          have HO := Lib.hid (show L.map (·.d) = O by rw [hO]; exact HLm.out)
          have HOO := Lib.hid hO
          have hOL : O.length = L.length := by rw [← HO.out, List.length_map]
          have HOL := Lib.hid hOL
          clear hO hOL
          go_loopw [7] (fun j wr2 => ∃ m : Nat, m ≤ placeB lessN O x.d ∧ j = .int .i64 m ∧ Below w3.heap.size w3 wr2) (fun j _ => L.length - (intOf j).toNat)
          case atStart => exact ⟨0, Nat.zero_le _, rfl, Below.refl _ _⟩
          case round =>
            obtain ⟨m, hm, rfl, hbm⟩ := hrel
            have hmO := placeB_le lessN O x.d
            rw [HOL.out] at hmO
            have hbx := (hbm.block q hq3).trans HBX.out
            have hbx' : wr.heap[q]? = some (.cells #[.string x.d.key, .int .i64 x.d.op, .slice x.A x.d.values.length x.c] 31 (0, 0)) := by obtain ⟨hx3, hx1, hx2, hxA, hxc⟩ := HXX.out; rw [hbx, ← hx1, ← hx2, ← hx3, ← hxA, ← hxc]; rfl
            obtain ⟨x0, x1', x2', xf⟩ := row3 hbx'
            have hql := row_lt hbx'
            have HXm := Lib.hid ((HX.out.below hbm).C)
            clear hbx
            by_cases hlt2 : m < L.length
            · obtain ⟨-, hgb, hcap, hcap2, cur, hg, -, hrow⟩ := (HR3.out.below hbm).at encN_len
              obtain ⟨y, hy⟩ := exists_at hlt2
              have hr0 := hrow m y hy 0 (by decide)
              have hr1 := hrow m y hy 1 (by decide)
              have hr2 := hrow m y hy 2 (by decide)
              have hgl2 := row_lt hg
              have e0 : wr.cell? ⟨g, m * 3, none⟩ = some (.string y.d.key) := by rw [cell_of_row _ g _ cur _ _ hg]; exact hr0
              have e1 : wr.cell? ⟨g, m * 3 + 1, none⟩ = some (.int .i64 y.d.op) := by rw [cell_of_row _ g _ cur _ _ hg]; exact hr1
              have e2 : wr.cell? ⟨g, m * 3 + 2, none⟩ = some (.slice y.A y.d.values.length y.c) := by rw [cell_of_row _ g _ cur _ _ hg]; exact hr2
              have HYm := Lib.hid (((HN3.out y (List.mem_of_getElem? hy)).below hbm).C)
              have hyO : O[m]? = some y.d := by rw [← HO.out, List.getElem?_map, hy]; rfl
              have HyO := Lib.hid hyO
              have hm0 : (0 : Int) ≤ m := by omega
              have hm1 : (m : Int) < L.length := by omega
              clear hrow hr0 hr1 hr2 hy hyO hg
              rcases hlt3 : lessN y.d x.d with _ | _
              · have hpl := Lib.hid (placeB_is (lt := lessN) (x := x.d) (l := O) (k := m) (by rw [HOL.out]; omega) (fun i d hi hd => placeB_lt lessN x.d O i d (by omega) hd) (fun d hd => by rw [HyO.out] at hd; obtain rfl := Option.some.inj hd; exact hlt3))
                go_wp2_with fail
                refine wp_region_det 12 (by kernel_rfl) (by kernel_rfl) (by decide) ?_
                apply Exists.intro
                refine And.intro ?_ ?_
                · (intro W hW; (try simp only [Act.put, List.setIfInBounds_toArray, List.set_cons_zero, List.set_cons_succ]); first | (go_wp2_with fail; exact ⟨rfl, rfl, Below.refl _ _⟩))
                apply Exists.intro
                refine And.intro ?_ ?_
                · (intro W hW; (try simp only [Act.put, List.setIfInBounds_toArray, List.set_cons_zero, List.set_cons_succ]); first | (go_wp2_with fail; exact ⟨rfl, rfl, Below.refl _ _⟩))
                apply Exists.intro
                refine And.intro ?_ ?_
                · (intro W hW; (try simp only [Act.put, List.setIfInBounds_toArray, List.set_cons_zero, List.set_cons_succ]); first | (go_wp2_with fail; exact ⟨rfl, rfl, Below.refl _ _⟩))
                apply Exists.intro
                refine And.intro ?_ ?_
                · (intro W hW; (try simp only [Act.put, List.setIfInBounds_toArray, List.set_cons_zero, List.set_cons_succ]); first | (go_wp2_with fail; exact ⟨rfl, rfl, Below.refl _ _⟩))
                apply Exists.intro
                refine And.intro ?_ ?_
                · (intro W hW; (try simp only [Act.put, List.setIfInBounds_toArray, List.set_cons_zero, List.set_cons_succ]); first | (go_wp2_with fail; exact ⟨rfl, rfl, Below.refl _ _⟩))
                apply Exists.intro
                refine And.intro ?_ ?_
                · (intro W hW; (try simp only [Act.put, List.setIfInBounds_toArray, List.set_cons_zero, List.set_cons_succ]); first | (exact wpList_skip rfl ⟨rfl, rfl, Below.refl _ _⟩) | (go_wp2_with fail; exact ⟨rfl, rfl, Below.refl _ _⟩))
                apply Exists.intro
                refine And.intro ?_ ?_
                · (intro W hW; (try simp only [Act.put, List.setIfInBounds_toArray, List.set_cons_zero, List.set_cons_succ]); first | (exact wpList_skip rfl ⟨rfl, rfl, Below.refl _ _⟩) | (go_wp2_with fail; exact ⟨rfl, rfl, Below.refl _ _⟩))
                apply Exists.intro
                refine And.intro ?_ ?_
                · (intro W hW; (try simp only [Act.put, List.setIfInBounds_toArray, List.set_cons_zero, List.set_cons_succ]); first | (exact wpList_skip rfl ⟨rfl, rfl, Below.refl _ _⟩) | (go_wp2_with fail; exact ⟨rfl, rfl, Below.refl _ _⟩))
                apply Exists.intro
                refine And.intro ?_ ?_
                · (intro W hW; (try simp only [Act.put, List.setIfInBounds_toArray, List.set_cons_zero, List.set_cons_succ]); first | (exact wpList_skip rfl ⟨rfl, rfl, Below.refl _ _⟩) | (obtain ⟨hcW, hfW⟩ := bcell hW; have hsW := hW.size; (try simp at hsW); (try have hsW0 := lt_of_succ_le hsW); (try (have hsW1 := lt_pred hsW; (try (have hsW2 := lt_pred hsW1)))); go_wp2_with fail; exact ⟨rfl, rfl, Below.refl _ _⟩))
                apply Exists.intro
                refine And.intro ?_ ?_
                · (intro W hW; (try simp only [Act.put, List.setIfInBounds_toArray, List.set_cons_zero, List.set_cons_succ]); first | (exact wpList_skip rfl ⟨rfl, rfl, Below.refl _ _⟩) | (obtain ⟨hcW, hfW⟩ := bcell hW; have hsW := hW.size; (try simp at hsW); (try have hsW0 := lt_of_succ_le hsW); (try (have hsW1 := lt_pred hsW; (try (have hsW2 := lt_pred hsW1)))); go_wp2_with fail; exact ⟨rfl, rfl, Below.refl _ _⟩))
                apply Exists.intro
                refine And.intro ?_ ?_
                · (intro W hW; (try simp only [Act.put, List.setIfInBounds_toArray, List.set_cons_zero, List.set_cons_succ]); first | (exact wpList_skip rfl ⟨rfl, rfl, Below.refl _ _⟩) | (obtain ⟨hcW, hfW⟩ := bcell hW; have hsW := hW.size; (try simp at hsW); (try have hsW0 := lt_of_succ_le hsW); (try (have hsW1 := lt_pred hsW; (try (have hsW2 := lt_pred hsW1)))); go_wp2_with (first | (go_at_call 48; refine (c_spec_NeedLess y.d x.d _ _ _ _ _ (HYm.out.now bel) (HXm.out.now bel)).mono ?_; rintro e w9 ⟨rfl, hb9⟩)); exact ⟨rfl, rfl, bel⟩))
                apply Exists.intro
                refine And.intro ?_ ?_
                · (intro W hW; (try simp only [Act.put, List.setIfInBounds_toArray, List.set_cons_zero, List.set_cons_succ]); first | (go_wp2_with fail; exact ⟨rfl, rfl, Below.refl _ _⟩))
                intro w1 hb
                (first | (have hcu2 := Cum.join hcu hb; (try clear hcu); (try clear hc); (try clear hfz); (try clear hsz); (try clear hs0); (try clear hs1); (try clear hs2); (try clear hs3); (try clear hs4); ) | have hcu2 := Cum.mk hb); have hcu := hcu2; clear hcu2; obtain ⟨hc, hfz⟩ := bcell hcu.h; have hsz := hcu.h.size; (try simp at hsz); (try have hs0 := lt_of_succ_le hsz); (try (have hs1 := lt_pred hsz; (try (have hs2 := lt_pred hs1; (try (have hs3 := lt_pred hs2; (try have hs4 := lt_pred hs3)))))))
                (try simp only [Act.put, List.setIfInBounds_toArray, List.set_cons_zero, List.set_cons_succ])
                (try simp only [List.drop_succ_cons, List.drop_nil])
                have Bn := hbm.trans (hb.mono hbm.size)
                have HXn := Lib.hid (HXm.out.now hb)
                have HYn := Lib.hid (HYm.out.now hb)
                have p0 := (hb.cell (p := ⟨g, m * 3, none⟩) (by simpa using hgl2)).trans e0
                have p1 := (hb.cell (p := ⟨g, m * 3 + 1, none⟩) (by simpa using hgl2)).trans e1
                have p2 := (hb.cell (p := ⟨g, m * 3 + 2, none⟩) (by simpa using hgl2)).trans e2
                have r0 := (hb.cell (p := ⟨q, 0, none⟩) (by simpa using hql)).trans x0
                have r1 := (hb.cell (p := ⟨q, 1, none⟩) (by simpa using hql)).trans x1'
                have r2 := (hb.cell (p := ⟨q, 2, none⟩) (by simpa using hql)).trans x2'
                have hgl3 := Nat.lt_of_lt_of_le hgl2 hb.size
                have hql3 := Nat.lt_of_lt_of_le hql hb.size
                clear e0 e1 e2 x0 x1' x2' xf hgl2 hql hcu hc hfz hb hbx' HXm HYm
                go_wp2_with fail
                rcases hlt5 : lessN x.d y.d with _ | _
                · have hins := Lib.hid (show ordN (l.take (k + 1)) = O by rw [ordN_step Hzm.out, ← HOO.out, ← Hxd.out]; unfold insB; rw [hpl.out, HyO.out]; simp [eqN, hlt3, hlt5])
                  refine wp_region_det 13 (by kernel_rfl) (by kernel_rfl) (by decide) ?_
                  apply Exists.intro
                  refine And.intro ?_ ?_
                  · (intro W hW; (try simp only [Act.put, List.setIfInBounds_toArray, List.set_cons_zero, List.set_cons_succ]); first | (go_wp2_with fail; exact ⟨rfl, rfl, Below.refl _ _⟩))
                  apply Exists.intro
                  refine And.intro ?_ ?_
                  · (intro W hW; (try simp only [Act.put, List.setIfInBounds_toArray, List.set_cons_zero, List.set_cons_succ]); first | (go_wp2_with fail; exact ⟨rfl, rfl, Below.refl _ _⟩))
                  apply Exists.intro
                  refine And.intro ?_ ?_
                  · (intro W hW; (try simp only [Act.put, List.setIfInBounds_toArray, List.set_cons_zero, List.set_cons_succ]); first | (go_wp2_with fail; exact ⟨rfl, rfl, Below.refl _ _⟩))
                  apply Exists.intro
                  refine And.intro ?_ ?_
                  · (intro W hW; (try simp only [Act.put, List.setIfInBounds_toArray, List.set_cons_zero, List.set_cons_succ]); first | (go_wp2_with fail; exact ⟨rfl, rfl, Below.refl _ _⟩))
                  apply Exists.intro
                  refine And.intro ?_ ?_
                  · (intro W hW; (try simp only [Act.put, List.setIfInBounds_toArray, List.set_cons_zero, List.set_cons_succ]); first | (go_wp2_with fail; exact ⟨rfl, rfl, Below.refl _ _⟩))
                  apply Exists.intro
                  refine And.intro ?_ ?_
                  · (intro W hW; (try simp only [Act.put, List.setIfInBounds_toArray, List.set_cons_zero, List.set_cons_succ]); first | (exact wpList_skip rfl ⟨rfl, rfl, Below.refl _ _⟩) | (obtain ⟨hcW, hfW⟩ := bcell hW; have hsW := hW.size; (try simp at hsW); (try have hsW0 := lt_of_succ_le hsW); (try (have hsW1 := lt_pred hsW; (try (have hsW2 := lt_pred hsW1)))); go_wp2_with fail; exact ⟨rfl, rfl, Below.refl _ _⟩))
                  apply Exists.intro
                  refine And.intro ?_ ?_
                  · (intro W hW; (try simp only [Act.put, List.setIfInBounds_toArray, List.set_cons_zero, List.set_cons_succ]); first | (exact wpList_skip rfl ⟨rfl, rfl, Below.refl _ _⟩) | (go_wp2_with fail; exact ⟨rfl, rfl, Below.refl _ _⟩))
                  apply Exists.intro
                  refine And.intro ?_ ?_
                  · (intro W hW; (try simp only [Act.put, List.setIfInBounds_toArray, List.set_cons_zero, List.set_cons_succ]); first | (exact wpList_skip rfl ⟨rfl, rfl, Below.refl _ _⟩) | (go_wp2_with fail; exact ⟨rfl, rfl, Below.refl _ _⟩))
                  apply Exists.intro
                  refine And.intro ?_ ?_
                  · (intro W hW; (try simp only [Act.put, List.setIfInBounds_toArray, List.set_cons_zero, List.set_cons_succ]); first | (exact wpList_skip rfl ⟨rfl, rfl, Below.refl _ _⟩) | (go_wp2_with fail; exact ⟨rfl, rfl, Below.refl _ _⟩))
                  apply Exists.intro
                  refine And.intro ?_ ?_
                  · (intro W hW; (try simp only [Act.put, List.setIfInBounds_toArray, List.set_cons_zero, List.set_cons_succ]); first | (exact wpList_skip rfl ⟨rfl, rfl, Below.refl _ _⟩) | (obtain ⟨hcW, hfW⟩ := bcell hW; have hsW := hW.size; (try simp at hsW); (try have hsW0 := lt_of_succ_le hsW); (try (have hsW1 := lt_pred hsW; (try (have hsW2 := lt_pred hsW1)))); go_wp2_with fail; exact ⟨rfl, rfl, Below.refl _ _⟩))
                  apply Exists.intro
                  refine And.intro ?_ ?_
                  · (intro W hW; (try simp only [Act.put, List.setIfInBounds_toArray, List.set_cons_zero, List.set_cons_succ]); first | (exact wpList_skip rfl ⟨rfl, rfl, Below.refl _ _⟩) | (obtain ⟨hcW, hfW⟩ := bcell hW; have hsW := hW.size; (try simp at hsW); (try have hsW0 := lt_of_succ_le hsW); (try (have hsW1 := lt_pred hsW; (try (have hsW2 := lt_pred hsW1)))); go_wp2_with (first | (go_at_call 48; refine (c_spec_NeedLess x.d y.d _ _ _ _ _ (HXn.out.now bel) (HYn.out.now bel)).mono ?_; rintro e w9 ⟨rfl, hb9⟩)); exact ⟨rfl, rfl, bel⟩))
                  apply Exists.intro
                  refine And.intro ?_ ?_
                  · (intro W hW; (try simp only [Act.put, List.setIfInBounds_toArray, List.set_cons_zero, List.set_cons_succ]); first | (exact wpList_skip rfl ⟨rfl, rfl, Below.refl _ _⟩) | (go_wp2_with fail; exact ⟨rfl, rfl, Below.refl _ _⟩))
                  apply Exists.intro
                  refine And.intro ?_ ?_
                  · (intro W hW; (try simp only [Act.put, List.setIfInBounds_toArray, List.set_cons_zero, List.set_cons_succ]); first | (go_wp2_with fail; exact ⟨rfl, rfl, Below.refl _ _⟩))
                  intro w1 hb
                  (first | (have hcu2 := Cum.join hcu hb; (try clear hcu); (try clear hc); (try clear hfz); (try clear hsz); (try clear hs0); (try clear hs1); (try clear hs2); (try clear hs3); (try clear hs4); ) | have hcu2 := Cum.mk hb); have hcu := hcu2; clear hcu2; obtain ⟨hc, hfz⟩ := bcell hcu.h; have hsz := hcu.h.size; (try simp at hsz); (try have hs0 := lt_of_succ_le hsz); (try (have hs1 := lt_pred hsz; (try (have hs2 := lt_pred hs1; (try (have hs3 := lt_pred hs2; (try have hs4 := lt_pred hs3)))))))
                  (try simp only [Act.put, List.setIfInBounds_toArray, List.set_cons_zero, List.set_cons_succ])
                  (try simp only [List.drop_succ_cons, List.drop_nil])
                  have Bq := Bn.trans (hb.mono Bn.size)
                  have Hq1 := Lib.hid (HR3.out.below Bq)
                  have Hq2 := Lib.hid (HN3.out.below Bq)
                  have Bq2 := Lib.hid (HBF.out.trans (Bq.mono HBF.out.size))
                  have Hsm2 := Lib.hid (show ∀ d ∈ l.take (k + 1), d.values.length ≤ 40 from fun d hd => by rw [List.take_add_one, Hzm.out] at hd; simp at hd; rcases hd with hd | rfl; exact Hsm.out d hd; exact hv40)
                  go_wp2_with fail
                  go_roundw
                  case rel => exact ⟨k + 1, L, g, c5, by omega, by go_num, rfl, by rw [hins.out]; exact HO.out, Hq1.out, Hq2.out, Bq2.out, Hsm2.out⟩
                  case measure => simp [intOf]; omega
                · have hins := Lib.hid (show ordN (l.take (k + 1)) = O.take m ++ [x.d] ++ O.drop m by rw [ordN_step Hzm.out, ← HOO.out, ← Hxd.out]; unfold insB; rw [hpl.out, HyO.out]; simp [eqN, hlt3, hlt5])
                  refine wp_region_det 13 (by kernel_rfl) (by kernel_rfl) (by decide) ?_
                  apply Exists.intro
                  refine And.intro ?_ ?_
                  · (intro W hW; (try simp only [Act.put, List.setIfInBounds_toArray, List.set_cons_zero, List.set_cons_succ]); first | (go_wp2_with fail; exact ⟨rfl, rfl, Below.refl _ _⟩))
                  apply Exists.intro
                  refine And.intro ?_ ?_
                  · (intro W hW; (try simp only [Act.put, List.setIfInBounds_toArray, List.set_cons_zero, List.set_cons_succ]); first | (go_wp2_with fail; exact ⟨rfl, rfl, Below.refl _ _⟩))
                  apply Exists.intro
                  refine And.intro ?_ ?_
                  · (intro W hW; (try simp only [Act.put, List.setIfInBounds_toArray, List.set_cons_zero, List.set_cons_succ]); first | (go_wp2_with fail; exact ⟨rfl, rfl, Below.refl _ _⟩))
                  apply Exists.intro
                  refine And.intro ?_ ?_
                  · (intro W hW; (try simp only [Act.put, List.setIfInBounds_toArray, List.set_cons_zero, List.set_cons_succ]); first | (go_wp2_with fail; exact ⟨rfl, rfl, Below.refl _ _⟩))
                  apply Exists.intro
                  refine And.intro ?_ ?_
                  · (intro W hW; (try simp only [Act.put, List.setIfInBounds_toArray, List.set_cons_zero, List.set_cons_succ]); first | (go_wp2_with fail; exact ⟨rfl, rfl, Below.refl _ _⟩))
                  apply Exists.intro
                  refine And.intro ?_ ?_
                  · (intro W hW; (try simp only [Act.put, List.setIfInBounds_toArray, List.set_cons_zero, List.set_cons_succ]); first | (exact wpList_skip rfl ⟨rfl, rfl, Below.refl _ _⟩) | (obtain ⟨hcW, hfW⟩ := bcell hW; have hsW := hW.size; (try simp at hsW); (try have hsW0 := lt_of_succ_le hsW); (try (have hsW1 := lt_pred hsW; (try (have hsW2 := lt_pred hsW1)))); go_wp2_with fail; exact ⟨rfl, rfl, Below.refl _ _⟩))
                  apply Exists.intro
                  refine And.intro ?_ ?_
                  · (intro W hW; (try simp only [Act.put, List.setIfInBounds_toArray, List.set_cons_zero, List.set_cons_succ]); first | (exact wpList_skip rfl ⟨rfl, rfl, Below.refl _ _⟩) | (go_wp2_with fail; exact ⟨rfl, rfl, Below.refl _ _⟩))
                  apply Exists.intro
                  refine And.intro ?_ ?_
                  · (intro W hW; (try simp only [Act.put, List.setIfInBounds_toArray, List.set_cons_zero, List.set_cons_succ]); first | (exact wpList_skip rfl ⟨rfl, rfl, Below.refl _ _⟩) | (go_wp2_with fail; exact ⟨rfl, rfl, Below.refl _ _⟩))
                  apply Exists.intro
                  refine And.intro ?_ ?_
                  · (intro W hW; (try simp only [Act.put, List.setIfInBounds_toArray, List.set_cons_zero, List.set_cons_succ]); first | (exact wpList_skip rfl ⟨rfl, rfl, Below.refl _ _⟩) | (go_wp2_with fail; exact ⟨rfl, rfl, Below.refl _ _⟩))
                  apply Exists.intro
                  refine And.intro ?_ ?_
                  · (intro W hW; (try simp only [Act.put, List.setIfInBounds_toArray, List.set_cons_zero, List.set_cons_succ]); first | (exact wpList_skip rfl ⟨rfl, rfl, Below.refl _ _⟩) | (obtain ⟨hcW, hfW⟩ := bcell hW; have hsW := hW.size; (try simp at hsW); (try have hsW0 := lt_of_succ_le hsW); (try (have hsW1 := lt_pred hsW; (try (have hsW2 := lt_pred hsW1)))); go_wp2_with fail; exact ⟨rfl, rfl, Below.refl _ _⟩))
                  apply Exists.intro
                  refine And.intro ?_ ?_
                  · (intro W hW; (try simp only [Act.put, List.setIfInBounds_toArray, List.set_cons_zero, List.set_cons_succ]); first | (exact wpList_skip rfl ⟨rfl, rfl, Below.refl _ _⟩) | (obtain ⟨hcW, hfW⟩ := bcell hW; have hsW := hW.size; (try simp at hsW); (try have hsW0 := lt_of_succ_le hsW); (try (have hsW1 := lt_pred hsW; (try (have hsW2 := lt_pred hsW1)))); go_wp2_with (first | (go_at_call 48; refine (c_spec_NeedLess x.d y.d _ _ _ _ _ (HXn.out.now bel) (HYn.out.now bel)).mono ?_; rintro e w9 ⟨rfl, hb9⟩)); exact ⟨rfl, rfl, bel⟩))
                  apply Exists.intro
                  refine And.intro ?_ ?_
                  · (intro W hW; (try simp only [Act.put, List.setIfInBounds_toArray, List.set_cons_zero, List.set_cons_succ]); first | (exact wpList_skip rfl ⟨rfl, rfl, Below.refl _ _⟩) | (go_wp2_with fail; exact ⟨rfl, rfl, Below.refl _ _⟩))
                  apply Exists.intro
                  refine And.intro ?_ ?_
                  · (intro W hW; (try simp only [Act.put, List.setIfInBounds_toArray, List.set_cons_zero, List.set_cons_succ]); first | (go_wp2_with fail; exact ⟨rfl, rfl, Below.refl _ _⟩))
                  intro w1 hb
                  (first | (have hcu2 := Cum.join hcu hb; (try clear hcu); (try clear hc); (try clear hfz); (try clear hsz); (try clear hs0); (try clear hs1); (try clear hs2); (try clear hs3); (try clear hs4); ) | have hcu2 := Cum.mk hb); have hcu := hcu2; clear hcu2; obtain ⟨hc, hfz⟩ := bcell hcu.h; have hsz := hcu.h.size; (try simp at hsz); (try have hs0 := lt_of_succ_le hsz); (try (have hs1 := lt_pred hsz; (try (have hs2 := lt_pred hs1; (try (have hs3 := lt_pred hs2; (try have hs4 := lt_pred hs3)))))))
                  (try simp only [Act.put, List.setIfInBounds_toArray, List.set_cons_zero, List.set_cons_succ])
                  (try simp only [List.drop_succ_cons, List.drop_nil])
                  have Bq := Bn.trans (hb.mono Bn.size)
                  have f0 := (hb.cell (p := ⟨q, 0, none⟩) (by simpa using hql3)).trans r0
                  have f1 := (hb.cell (p := ⟨q, 1, none⟩) (by simpa using hql3)).trans r1
                  have f2 := (hb.cell (p := ⟨q, 2, none⟩) (by simpa using hql3)).trans r2
                  have fql := Nat.lt_of_lt_of_le hql3 hb.size
                  obtain ⟨w4, hw4⟩ : ∃ w4, w4 = w1 := ⟨_, rfl⟩
                  rw [← hw4] at Bq f0 f1 f2 fql ⊢
                  (try clear hcu); (try clear hc); (try clear hfz); (try clear hs0); (try clear hs1); (try clear hsz); (try clear hb)
                  clear p0 p1 p2 r0 r1 r2 hgl3 hql3 Bn hw4
                  go_wp2_with fail
                  have hR4 := HR3.out.below Bq
                  have hN4 := HN3.out.below Bq
                  have hX4 := HX.out.below Bq
                  have HX4 := Lib.hid hX4
                  have HN4 := Lib.hid hN4
                  have B4 : Below w.heap.size w w4 := HBF.out.trans (Bq.mono HBF.out.size)
                  have HS := Lib.hid (RowE.sl (C := C_E) encN_len hR4 (fun _ _ => rfl))
                  have hcapL := (hR4.at encN_len).2.2.1
                  have HSt := Lib.hid (SlOf.take HS.out (k := m) (by omega))
                  have HSd := Lib.hid (SlOf.drop HS.out (k := m) (by omega))
                  clear hR4 hN4 hX4
                  have htl : (L.take m).length = m := by rw [List.length_take]; omega
                  have Htl := Lib.hid htl
                  have hm9 : (m : Int) ≤ L.length := by omega
                  have hm0 : (0 : Int) ≤ m := by omega
                  have hmc : (m : Int) ≤ c5 := by omega
                  clear htl
                  go_upto_region 15 with fail
                  go_cut [8] from 68 to 75 (fun s8 wx => ∃ g5 cap5 : Nat, s8 = .slice (some ⟨g5, 0, none⟩) (m + 1) cap5 ∧ RowE encN 3 31 w4.heap.size wx (L.take m ++ [x]) (.slice (some ⟨g5, 0, none⟩) (m + 1) cap5) ∧ Below w4.heap.size w4 wx)
                  case first =>
                    go_region_held3 (fun w' => Below w4.heap.size w4 w' ∧ (∀ xb xo, xb < w4.heap.size → w'.cell? ⟨xb, xo, none⟩ = w4.cell? ⟨xb, xo, none⟩)) (first | exact keep_drew _ | exact keep_at (by assumption) | exact keep_same (by assumption) | exact keep_alloc (by assumption) _) (first | (refine step_append_rows (C := C_E) rfl (.tmp 68) (.tmp 71) 24 rfl w4.heap.size 31 i0 (.agg #[.string ⟨#[]⟩, .int .i64 0, .slice none 0 0]) 3 48 Tryz.underlying24 hi hz0 hz1 hz2 rfl (by decide) encN_len encN_one encN_C (.slice (some ⟨_, 0, none⟩) 0 0) 0 [] rfl rfl (by first | exact own_eq (own_empty (w := w4) rfl (Nat.le_refl _)) rfl | exact own_eq ((own_empty (w := w4) rfl (Nat.le_refl _)).alloc (.cells #[.string x.d.key, .int .i64 x.d.op, .slice x.A x.d.values.length x.c] 31)) rfl | exact own_eq (own_empty (w := w4.alloc (.cells #[.string x.d.key, .int .i64 x.d.op, .slice x.A x.d.values.length x.c] 31)) (by simp) (by simp)) rfl) (L.take m) (some ⟨g, 0, none⟩) m c5 _ _ rfl Htl.out (SlOf.now' HSt.out bel) (by unfold maxLen; omega) (by omega) (by simp <;> omega) ?_; intro v3 w9 ho3 hg3 ha3; rw [List.nil_append] at ho3; obtain ⟨E5, e5, he3⟩ := RowE.form ho3; rw [Htl.out] at he3; subst he3; have hb3 : Below w4.heap.size w4 w9 := Below.grown (bel : Below w4.heap.size w4 _) hg3 (by simp <;> omega) (fun q hq => (by simp [Value.ownBlock] at hq; omega)); have ho4 : w9.ownsRow w4.heap.size 31 3 (.slice E5 m e5) m (flatE encN (L.take m)) := (by have h9 := ho3; unfold RowE at h9; rw [Htl.out] at h9; exact h9)) | (refine step_append_lies _ rfl (.tmp 72) (.tmp 74) 24 rfl w4.heap.size 31 i0 (.agg #[.string ⟨#[]⟩, .int .i64 0, .slice none 0 0]) 3 48 Tryz.underlying24 hi hz0 hz1 hz2 rfl (by decide) (.slice E5 m e5) m (flatE encN (L.take m)) rfl (by first | exact ho4 | exact ho4.alloc _) _ 1 1 [.string x.d.key, .int .i64 x.d.op, .slice x.A x.d.values.length x.c] rfl rfl (by first | exact World.news_of_block (heap_alloc_new _ _) | exact World.news_of_block ((hg3.block _ (by simp <;> omega) (by simp [Value.ownBlock] <;> omega)).trans (heap_at (by simp))) | exact World.news_of_block ((hg3.block _ (by simp <;> omega) (by simp [Value.ownBlock] <;> omega)).trans ((Below.heap_alloc _ _ _ (by simp)).trans (heap_at (by simp))))) (encN_one x) (by decide) (by unfold maxLen; omega) (by omega) (by have := hb3.size; simp; omega) _ rfl ?_; intro g5 cap5 w10 ho5 hg5 ha5 hl7; have hb4 : Below w4.heap.size w4 w10 := Below.grown (bel : Below w4.heap.size w4 _) hg5 (by have := hb3.size; first | omega | (simp; omega)) (fun q hq => (World.ownsRow.lt ho4 q hq).1)))
                    all_goals
                      have ho6 := Lib.hid (rowSnoc (enc := encN) (x := x) ho5 Htl.out)
                      clear ho5 hg5 ha5 ho3 hg3 ha3 ho4
                      go_wp2_with fail
                      go_meet
                      exact ⟨g5, cap5, rfl, ho6.out, hb4⟩
                  case rest =>
                    obtain ⟨g5, cap5, rfl, hR5, hb5⟩ := hcut
                    have HSd4 := SlOf.now' HSd.out hb5
                    rw [Nat.zero_add] at HSd4
                    obtain ⟨v6, w6, hr6, hR6, hg6, ha6⟩ := run_append_rows (P := Tryz.prog) (enc := encN) (C := C_E) wc 24 24 w4.heap.size 31 i0 (.agg #[.string ⟨#[]⟩, .int .i64 0, .slice none 0 0]) 3 48 Tryz.underlying24 hi hz0 hz1 hz2 rfl (by decide) encN_len encN_one encN_C (.slice (some ⟨g5, 0, none⟩) (m + 1) cap5) (m + 1) (L.take m ++ [x]) (by rw [List.length_append, Htl.out]; rfl) hR5 (L.drop m) (some ⟨g, m * 3, none⟩) (L.length - m) (c5 - m) _ _ (by rw [List.length_drop]) HSd4 (by unfold maxLen; omega) (by omega) hb5.size
                    have hb6 := Below.grown hb5 hg6 hb5.size (fun q hq => (World.ownsRow.lt hR5 q hq).1)
                    skip
                    obtain ⟨g6, c6, -, he6, -, -, -, -, -, -⟩ := hR6.row encN_len (by simp <;> omega)
                    subst he6
                    have HR6 := Lib.hid (hR6.less B4.size)
                    have HN6 := Lib.hid ((HN4.out.below hb6).insert (m := m) (HX4.out.below hb6))
                    have Bq6 := Lib.hid (B4.trans (hb6.mono B4.size))
                    have HLi := Lib.hid (show (L.take m ++ [x] ++ L.drop m).map (·.d) = ordN (l.take (k + 1)) by rw [hins.out]; exact insert_map HO.out)
                    have Hsm2 := Lib.hid (show ∀ d ∈ l.take (k + 1), d.values.length ≤ 40 from fun d hd => by rw [List.take_add_one, Hzm.out] at hd; simp at hd; rcases hd with hd | rfl; exact Hsm.out d hd; exact hv40)
                    have hOc1 : (L.length : Int) ≤ c5 := by omega
                    have HlenN := Lib.hid (show (L.take m ++ [x] ++ L.drop m).length = L.length + 1 by simp; omega)
                    clear hR6 hg6 ha6 hR5 hb6 HSd4
                    go_wp2_with (at_builtin; refine wpList_append_of rfl (.tmp 76) (.tmp 79) 24 rfl _ _ _ w6 rfl rfl hr6 ?_)
                    clear hr6
                    go_roundw
                    case rel => exact ⟨k + 1, L.take m ++ [x] ++ L.drop m, g6, c6, by omega, by go_num, by rw [HlenN.out]; congr 1; omega, HLi.out, HR6.out, HN6.out, Bq6.out, Hsm2.out⟩
                    case measure => simp [intOf]; omega
              · go_wp2_with fail
                refine wp_region_det 12 (by kernel_rfl) (by kernel_rfl) (by decide) ?_
                apply Exists.intro
                refine And.intro ?_ ?_
                · (intro W hW; (try simp only [Act.put, List.setIfInBounds_toArray, List.set_cons_zero, List.set_cons_succ]); first | (go_wp2_with fail; exact ⟨rfl, rfl, Below.refl _ _⟩))
                apply Exists.intro
                refine And.intro ?_ ?_
                · (intro W hW; (try simp only [Act.put, List.setIfInBounds_toArray, List.set_cons_zero, List.set_cons_succ]); first | (go_wp2_with fail; exact ⟨rfl, rfl, Below.refl _ _⟩))
                apply Exists.intro
                refine And.intro ?_ ?_
                · (intro W hW; (try simp only [Act.put, List.setIfInBounds_toArray, List.set_cons_zero, List.set_cons_succ]); first | (go_wp2_with fail; exact ⟨rfl, rfl, Below.refl _ _⟩))
                apply Exists.intro
                refine And.intro ?_ ?_
                · (intro W hW; (try simp only [Act.put, List.setIfInBounds_toArray, List.set_cons_zero, List.set_cons_succ]); first | (go_wp2_with fail; exact ⟨rfl, rfl, Below.refl _ _⟩))
                apply Exists.intro
                refine And.intro ?_ ?_
                · (intro W hW; (try simp only [Act.put, List.setIfInBounds_toArray, List.set_cons_zero, List.set_cons_succ]); first | (go_wp2_with fail; exact ⟨rfl, rfl, Below.refl _ _⟩))
                apply Exists.intro
                refine And.intro ?_ ?_
                · (intro W hW; (try simp only [Act.put, List.setIfInBounds_toArray, List.set_cons_zero, List.set_cons_succ]); first | (exact wpList_skip rfl ⟨rfl, rfl, Below.refl _ _⟩) | (go_wp2_with fail; exact ⟨rfl, rfl, Below.refl _ _⟩))
                apply Exists.intro
                refine And.intro ?_ ?_
                · (intro W hW; (try simp only [Act.put, List.setIfInBounds_toArray, List.set_cons_zero, List.set_cons_succ]); first | (exact wpList_skip rfl ⟨rfl, rfl, Below.refl _ _⟩) | (go_wp2_with fail; exact ⟨rfl, rfl, Below.refl _ _⟩))
                apply Exists.intro
                refine And.intro ?_ ?_
                · (intro W hW; (try simp only [Act.put, List.setIfInBounds_toArray, List.set_cons_zero, List.set_cons_succ]); first | (exact wpList_skip rfl ⟨rfl, rfl, Below.refl _ _⟩) | (go_wp2_with fail; exact ⟨rfl, rfl, Below.refl _ _⟩))
                apply Exists.intro
                refine And.intro ?_ ?_
                · (intro W hW; (try simp only [Act.put, List.setIfInBounds_toArray, List.set_cons_zero, List.set_cons_succ]); first | (exact wpList_skip rfl ⟨rfl, rfl, Below.refl _ _⟩) | (obtain ⟨hcW, hfW⟩ := bcell hW; have hsW := hW.size; (try simp at hsW); (try have hsW0 := lt_of_succ_le hsW); (try (have hsW1 := lt_pred hsW; (try (have hsW2 := lt_pred hsW1)))); go_wp2_with fail; exact ⟨rfl, rfl, Below.refl _ _⟩))
                apply Exists.intro
                refine And.intro ?_ ?_
                · (intro W hW; (try simp only [Act.put, List.setIfInBounds_toArray, List.set_cons_zero, List.set_cons_succ]); first | (exact wpList_skip rfl ⟨rfl, rfl, Below.refl _ _⟩) | (obtain ⟨hcW, hfW⟩ := bcell hW; have hsW := hW.size; (try simp at hsW); (try have hsW0 := lt_of_succ_le hsW); (try (have hsW1 := lt_pred hsW; (try (have hsW2 := lt_pred hsW1)))); go_wp2_with fail; exact ⟨rfl, rfl, Below.refl _ _⟩))
                apply Exists.intro
                refine And.intro ?_ ?_
                · (intro W hW; (try simp only [Act.put, List.setIfInBounds_toArray, List.set_cons_zero, List.set_cons_succ]); first | (exact wpList_skip rfl ⟨rfl, rfl, Below.refl _ _⟩) | (obtain ⟨hcW, hfW⟩ := bcell hW; have hsW := hW.size; (try simp at hsW); (try have hsW0 := lt_of_succ_le hsW); (try (have hsW1 := lt_pred hsW; (try (have hsW2 := lt_pred hsW1)))); go_wp2_with (first | (go_at_call 48; refine (c_spec_NeedLess y.d x.d _ _ _ _ _ (HYm.out.now bel) (HXm.out.now bel)).mono ?_; rintro e w9 ⟨rfl, hb9⟩)); exact ⟨rfl, rfl, bel⟩))
                apply Exists.intro
                refine And.intro ?_ ?_
                · (intro W hW; (try simp only [Act.put, List.setIfInBounds_toArray, List.set_cons_zero, List.set_cons_succ]); first | (go_wp2_with fail; exact ⟨rfl, rfl, Below.refl _ _⟩))
                intro w1 hb
                (first | (have hcu2 := Cum.join hcu hb; (try clear hcu); (try clear hc); (try clear hfz); (try clear hsz); (try clear hs0); (try clear hs1); (try clear hs2); (try clear hs3); (try clear hs4); ) | have hcu2 := Cum.mk hb); have hcu := hcu2; clear hcu2; obtain ⟨hc, hfz⟩ := bcell hcu.h; have hsz := hcu.h.size; (try simp at hsz); (try have hs0 := lt_of_succ_le hsz); (try (have hs1 := lt_pred hsz; (try (have hs2 := lt_pred hs1; (try (have hs3 := lt_pred hs2; (try have hs4 := lt_pred hs3)))))))
                (try simp only [Act.put, List.setIfInBounds_toArray, List.set_cons_zero, List.set_cons_succ])
                (try simp only [List.drop_succ_cons, List.drop_nil])
                have hmp : m + 1 ≤ placeB lessN O x.d := by
                  rcases Nat.lt_or_ge m (placeB lessN O x.d) with h | h
                  · exact h
                  · have e : m = placeB lessN O x.d := by omega
                    have h3 := placeB_at lessN x.d O y.d (by rw [← e]; exact HyO.out)
                    rw [hlt3] at h3
                    cases h3
                have Bn := hbm.trans (hb.mono hbm.size)
                go_wp2_with fail
                go_roundw
                case rel => exact ⟨m + 1, hmp, by go_num, Bn⟩
                case measure => simp [intOf]; omega
            · have hpl := Lib.hid (show placeB lessN O x.d = m by omega)
              have HmO := Lib.hid (show m = O.length by have := HOL.out; omega)
              have hins := Lib.hid (show ordN (l.take (k + 1)) = O.take m ++ [x.d] ++ O.drop m by rw [ordN_step Hzm.out, ← HOO.out, ← Hxd.out]; unfold insB; rw [hpl.out, List.getElem?_eq_none (by rw [HmO.out]; exact Nat.le_refl _), HmO.out]; simp)
              have hmO8 : m ≤ L.length := by omega
              have hnn : ¬ (m : Int) < L.length := by omega
              have hn2 : decide (m < L.length) = false := decide_eq_false hlt2
              have HmL := Lib.hid (show m = L.length by omega)
              clear hm hmO hlt2
              go_wp2_with fail
              refine wp_region_det 12 (by kernel_rfl) (by kernel_rfl) (by decide) ?_
              apply Exists.intro
              refine And.intro ?_ ?_
              · (intro W hW; (try simp only [Act.put, List.setIfInBounds_toArray, List.set_cons_zero, List.set_cons_succ]); first | (go_wp2_with fail; exact ⟨rfl, rfl, Below.refl _ _⟩))
              apply Exists.intro
              refine And.intro ?_ ?_
              · (intro W hW; (try simp only [Act.put, List.setIfInBounds_toArray, List.set_cons_zero, List.set_cons_succ]); first | (go_wp2_with fail; exact ⟨rfl, rfl, Below.refl _ _⟩))
              apply Exists.intro
              refine And.intro ?_ ?_
              · (intro W hW; (try simp only [Act.put, List.setIfInBounds_toArray, List.set_cons_zero, List.set_cons_succ]); first | (go_wp2_with fail; exact ⟨rfl, rfl, Below.refl _ _⟩))
              apply Exists.intro
              refine And.intro ?_ ?_
              · (intro W hW; (try simp only [Act.put, List.setIfInBounds_toArray, List.set_cons_zero, List.set_cons_succ]); first | (go_wp2_with fail; exact ⟨rfl, rfl, Below.refl _ _⟩))
              apply Exists.intro
              refine And.intro ?_ ?_
              · (intro W hW; (try simp only [Act.put, List.setIfInBounds_toArray, List.set_cons_zero, List.set_cons_succ]); first | (go_wp2_with fail; exact ⟨rfl, rfl, Below.refl _ _⟩))
              apply Exists.intro
              refine And.intro ?_ ?_
              · (intro W hW; (try simp only [Act.put, List.setIfInBounds_toArray, List.set_cons_zero, List.set_cons_succ]); first | (exact wpList_skip rfl ⟨rfl, rfl, Below.refl _ _⟩) | (go_wp2_with fail; exact ⟨rfl, rfl, Below.refl _ _⟩))
              apply Exists.intro
              refine And.intro ?_ ?_
              · (intro W hW; (try simp only [Act.put, List.setIfInBounds_toArray, List.set_cons_zero, List.set_cons_succ]); first | (exact wpList_skip rfl ⟨rfl, rfl, Below.refl _ _⟩) | (go_wp2_with fail; exact ⟨rfl, rfl, Below.refl _ _⟩))
              apply Exists.intro
              refine And.intro ?_ ?_
              · (intro W hW; (try simp only [Act.put, List.setIfInBounds_toArray, List.set_cons_zero, List.set_cons_succ]); first | (exact wpList_skip rfl ⟨rfl, rfl, Below.refl _ _⟩) | (go_wp2_with fail; exact ⟨rfl, rfl, Below.refl _ _⟩))
              apply Exists.intro
              refine And.intro ?_ ?_
              · (intro W hW; (try simp only [Act.put, List.setIfInBounds_toArray, List.set_cons_zero, List.set_cons_succ]); first | (exact wpList_skip rfl ⟨rfl, rfl, Below.refl _ _⟩) | (obtain ⟨hcW, hfW⟩ := bcell hW; have hsW := hW.size; (try simp at hsW); (try have hsW0 := lt_of_succ_le hsW); (try (have hsW1 := lt_pred hsW; (try (have hsW2 := lt_pred hsW1)))); go_wp2_with fail; exact ⟨rfl, rfl, Below.refl _ _⟩))
              apply Exists.intro
              refine And.intro ?_ ?_
              · (intro W hW; (try simp only [Act.put, List.setIfInBounds_toArray, List.set_cons_zero, List.set_cons_succ]); first | (exact wpList_skip rfl ⟨rfl, rfl, Below.refl _ _⟩) | (obtain ⟨hcW, hfW⟩ := bcell hW; have hsW := hW.size; (try simp at hsW); (try have hsW0 := lt_of_succ_le hsW); (try (have hsW1 := lt_pred hsW; (try (have hsW2 := lt_pred hsW1)))); go_wp2_with fail; exact ⟨rfl, rfl, Below.refl _ _⟩))
              apply Exists.intro
              refine And.intro ?_ ?_
              · (intro W hW; (try simp only [Act.put, List.setIfInBounds_toArray, List.set_cons_zero, List.set_cons_succ]); first | (exact wpList_skip rfl ⟨rfl, rfl, Below.refl _ _⟩) | (obtain ⟨hcW, hfW⟩ := bcell hW; have hsW := hW.size; (try simp at hsW); (try have hsW0 := lt_of_succ_le hsW); (try (have hsW1 := lt_pred hsW; (try (have hsW2 := lt_pred hsW1)))); go_wp2_with fail; exact ⟨rfl, rfl, bel⟩))
              apply Exists.intro
              refine And.intro ?_ ?_
              · (intro W hW; (try simp only [Act.put, List.setIfInBounds_toArray, List.set_cons_zero, List.set_cons_succ]); first | (go_wp2_with fail; exact ⟨rfl, rfl, Below.refl _ _⟩))
              intro w1 hb
              (first | (have hcu2 := Cum.join hcu hb; (try clear hcu); (try clear hc); (try clear hfz); (try clear hsz); (try clear hs0); (try clear hs1); (try clear hs2); (try clear hs3); (try clear hs4); ) | have hcu2 := Cum.mk hb); have hcu := hcu2; clear hcu2; obtain ⟨hc, hfz⟩ := bcell hcu.h; have hsz := hcu.h.size; (try simp at hsz); (try have hs0 := lt_of_succ_le hsz); (try (have hs1 := lt_pred hsz; (try (have hs2 := lt_pred hs1; (try (have hs3 := lt_pred hs2; (try have hs4 := lt_pred hs3)))))))
              (try simp only [Act.put, List.setIfInBounds_toArray, List.set_cons_zero, List.set_cons_succ])
              (try simp only [List.drop_succ_cons, List.drop_nil])
              have Bn := hbm.trans (hb.mono hbm.size)
              have r0 := (hb.cell (p := ⟨q, 0, none⟩) (by simpa using hql)).trans x0
              have r1 := (hb.cell (p := ⟨q, 1, none⟩) (by simpa using hql)).trans x1'
              have r2 := (hb.cell (p := ⟨q, 2, none⟩) (by simpa using hql)).trans x2'
              have hql3 := Nat.lt_of_lt_of_le hql hb.size
              clear x0 x1' x2' xf hql hcu hc hfz hb hbx' HXm
              go_wp2_with fail
              refine wp_region_det 13 (by kernel_rfl) (by kernel_rfl) (by decide) ?_
              apply Exists.intro
              refine And.intro ?_ ?_
              · (intro W hW; (try simp only [Act.put, List.setIfInBounds_toArray, List.set_cons_zero, List.set_cons_succ]); first | (go_wp2_with fail; exact ⟨rfl, rfl, Below.refl _ _⟩))
              apply Exists.intro
              refine And.intro ?_ ?_
              · (intro W hW; (try simp only [Act.put, List.setIfInBounds_toArray, List.set_cons_zero, List.set_cons_succ]); first | (go_wp2_with fail; exact ⟨rfl, rfl, Below.refl _ _⟩))
              apply Exists.intro
              refine And.intro ?_ ?_
              · (intro W hW; (try simp only [Act.put, List.setIfInBounds_toArray, List.set_cons_zero, List.set_cons_succ]); first | (go_wp2_with fail; exact ⟨rfl, rfl, Below.refl _ _⟩))
              apply Exists.intro
              refine And.intro ?_ ?_
              · (intro W hW; (try simp only [Act.put, List.setIfInBounds_toArray, List.set_cons_zero, List.set_cons_succ]); first | (go_wp2_with fail; exact ⟨rfl, rfl, Below.refl _ _⟩))
              apply Exists.intro
              refine And.intro ?_ ?_
              · (intro W hW; (try simp only [Act.put, List.setIfInBounds_toArray, List.set_cons_zero, List.set_cons_succ]); first | (go_wp2_with fail; exact ⟨rfl, rfl, Below.refl _ _⟩))
              apply Exists.intro
              refine And.intro ?_ ?_
              · (intro W hW; (try simp only [Act.put, List.setIfInBounds_toArray, List.set_cons_zero, List.set_cons_succ]); first | (exact wpList_skip rfl ⟨rfl, rfl, Below.refl _ _⟩) | (obtain ⟨hcW, hfW⟩ := bcell hW; have hsW := hW.size; (try simp at hsW); (try have hsW0 := lt_of_succ_le hsW); (try (have hsW1 := lt_pred hsW; (try (have hsW2 := lt_pred hsW1)))); go_wp2_with fail; exact ⟨rfl, rfl, Below.refl _ _⟩))
              apply Exists.intro
              refine And.intro ?_ ?_
              · (intro W hW; (try simp only [Act.put, List.setIfInBounds_toArray, List.set_cons_zero, List.set_cons_succ]); first | (exact wpList_skip rfl ⟨rfl, rfl, Below.refl _ _⟩) | (go_wp2_with fail; exact ⟨rfl, rfl, Below.refl _ _⟩))
              apply Exists.intro
              refine And.intro ?_ ?_
              · (intro W hW; (try simp only [Act.put, List.setIfInBounds_toArray, List.set_cons_zero, List.set_cons_succ]); first | (exact wpList_skip rfl ⟨rfl, rfl, Below.refl _ _⟩) | (go_wp2_with fail; exact ⟨rfl, rfl, Below.refl _ _⟩))
              apply Exists.intro
              refine And.intro ?_ ?_
              · (intro W hW; (try simp only [Act.put, List.setIfInBounds_toArray, List.set_cons_zero, List.set_cons_succ]); first | (exact wpList_skip rfl ⟨rfl, rfl, Below.refl _ _⟩) | (go_wp2_with fail; exact ⟨rfl, rfl, Below.refl _ _⟩))
              apply Exists.intro
              refine And.intro ?_ ?_
              · (intro W hW; (try simp only [Act.put, List.setIfInBounds_toArray, List.set_cons_zero, List.set_cons_succ]); first | (exact wpList_skip rfl ⟨rfl, rfl, Below.refl _ _⟩) | (obtain ⟨hcW, hfW⟩ := bcell hW; have hsW := hW.size; (try simp at hsW); (try have hsW0 := lt_of_succ_le hsW); (try (have hsW1 := lt_pred hsW; (try (have hsW2 := lt_pred hsW1)))); go_wp2_with fail; exact ⟨rfl, rfl, Below.refl _ _⟩))
              apply Exists.intro
              refine And.intro ?_ ?_
              · (intro W hW; (try simp only [Act.put, List.setIfInBounds_toArray, List.set_cons_zero, List.set_cons_succ]); first | (exact wpList_skip rfl ⟨rfl, rfl, Below.refl _ _⟩) | (obtain ⟨hcW, hfW⟩ := bcell hW; have hsW := hW.size; (try simp at hsW); (try have hsW0 := lt_of_succ_le hsW); (try (have hsW1 := lt_pred hsW; (try (have hsW2 := lt_pred hsW1)))); go_wp2_with fail; exact ⟨rfl, rfl, bel⟩))
              apply Exists.intro
              refine And.intro ?_ ?_
              · (intro W hW; (try simp only [Act.put, List.setIfInBounds_toArray, List.set_cons_zero, List.set_cons_succ]); first | (exact wpList_skip rfl ⟨rfl, rfl, Below.refl _ _⟩) | (go_wp2_with fail; exact ⟨rfl, rfl, Below.refl _ _⟩))
              apply Exists.intro
              refine And.intro ?_ ?_
              · (intro W hW; (try simp only [Act.put, List.setIfInBounds_toArray, List.set_cons_zero, List.set_cons_succ]); first | (go_wp2_with fail; exact ⟨rfl, rfl, Below.refl _ _⟩))
              intro w1 hb
              (first | (have hcu2 := Cum.join hcu hb; (try clear hcu); (try clear hc); (try clear hfz); (try clear hsz); (try clear hs0); (try clear hs1); (try clear hs2); (try clear hs3); (try clear hs4); ) | have hcu2 := Cum.mk hb); have hcu := hcu2; clear hcu2; obtain ⟨hc, hfz⟩ := bcell hcu.h; have hsz := hcu.h.size; (try simp at hsz); (try have hs0 := lt_of_succ_le hsz); (try (have hs1 := lt_pred hsz; (try (have hs2 := lt_pred hs1; (try (have hs3 := lt_pred hs2; (try have hs4 := lt_pred hs3)))))))
              (try simp only [Act.put, List.setIfInBounds_toArray, List.set_cons_zero, List.set_cons_succ])
              (try simp only [List.drop_succ_cons, List.drop_nil])
              have Bq := Bn.trans (hb.mono Bn.size)
              have f0 := (hb.cell (p := ⟨q, 0, none⟩) (by simpa using hql3)).trans r0
              have f1 := (hb.cell (p := ⟨q, 1, none⟩) (by simpa using hql3)).trans r1
              have f2 := (hb.cell (p := ⟨q, 2, none⟩) (by simpa using hql3)).trans r2
              have fql := Nat.lt_of_lt_of_le hql3 hb.size
              obtain ⟨w4, hw4⟩ : ∃ w4, w4 = w1 := ⟨_, rfl⟩
              rw [← hw4] at Bq f0 f1 f2 fql ⊢
              (try clear hcu); (try clear hc); (try clear hfz); (try clear hs0); (try clear hs1); (try clear hsz); (try clear hb)
              clear r0 r1 r2 hql3 Bn hw4 hnn hn2
              have hcO : L.length ≤ c5 := (HR3.out.at encN_len).2.2.1
              rcases Nat.lt_or_ge m c5 with hmcl | hmcl
              · have hmcI : (m : Int) < c5 := by omega
                have hmcn2 : ¬ c5 = m := by omega
                go_wp2_with fail
                have hR4 := HR3.out.below Bq
                have hN4 := HN3.out.below Bq
                have hX4 := HX.out.below Bq
                have HX4 := Lib.hid hX4
                have HN4 := Lib.hid hN4
                have B4 : Below w.heap.size w w4 := HBF.out.trans (Bq.mono HBF.out.size)
                have HS := Lib.hid (RowE.sl (C := C_E) encN_len hR4 (fun _ _ => rfl))
                have hcapL := (hR4.at encN_len).2.2.1
                have HSt := Lib.hid (SlOf.take HS.out (k := m) (by omega))
                have HSd := Lib.hid (SlOf.drop HS.out (k := m) (by omega))
                clear hR4 hN4 hX4
                have htl : (L.take m).length = m := by rw [List.length_take]; omega
                have Htl := Lib.hid htl
                have hm9 : (m : Int) ≤ L.length := by omega
                have hm0 : (0 : Int) ≤ m := by omega
                have hmc : (m : Int) ≤ c5 := by omega
                clear htl
                go_upto_region 15 with fail
                go_cut [8] from 68 to 75 (fun s8 wx => ∃ g5 cap5 : Nat, s8 = .slice (some ⟨g5, 0, none⟩) (m + 1) cap5 ∧ RowE encN 3 31 w4.heap.size wx (L.take m ++ [x]) (.slice (some ⟨g5, 0, none⟩) (m + 1) cap5) ∧ Below w4.heap.size w4 wx)
                case first =>
                  go_region_held3 (fun w' => Below w4.heap.size w4 w' ∧ (∀ xb xo, xb < w4.heap.size → w'.cell? ⟨xb, xo, none⟩ = w4.cell? ⟨xb, xo, none⟩)) (first | exact keep_drew _ | exact keep_at (by assumption) | exact keep_same (by assumption) | exact keep_alloc (by assumption) _) (first | (refine step_append_rows (C := C_E) rfl (.tmp 68) (.tmp 71) 24 rfl w4.heap.size 31 i0 (.agg #[.string ⟨#[]⟩, .int .i64 0, .slice none 0 0]) 3 48 Tryz.underlying24 hi hz0 hz1 hz2 rfl (by decide) encN_len encN_one encN_C (.slice (some ⟨_, 0, none⟩) 0 0) 0 [] rfl rfl (by first | exact own_eq (own_empty (w := w4) rfl (Nat.le_refl _)) rfl | exact own_eq ((own_empty (w := w4) rfl (Nat.le_refl _)).alloc (.cells #[.string x.d.key, .int .i64 x.d.op, .slice x.A x.d.values.length x.c] 31)) rfl | exact own_eq (own_empty (w := w4.alloc (.cells #[.string x.d.key, .int .i64 x.d.op, .slice x.A x.d.values.length x.c] 31)) (by simp) (by simp)) rfl) (L.take m) (some ⟨g, 0, none⟩) m c5 _ _ rfl Htl.out (SlOf.now' HSt.out bel) (by unfold maxLen; omega) (by omega) (by simp <;> omega) ?_; intro v3 w9 ho3 hg3 ha3; rw [List.nil_append] at ho3; obtain ⟨E5, e5, he3⟩ := RowE.form ho3; rw [Htl.out] at he3; subst he3; have hb3 : Below w4.heap.size w4 w9 := Below.grown (bel : Below w4.heap.size w4 _) hg3 (by simp <;> omega) (fun q hq => (by simp [Value.ownBlock] at hq; omega)); have ho4 : w9.ownsRow w4.heap.size 31 3 (.slice E5 m e5) m (flatE encN (L.take m)) := (by have h9 := ho3; unfold RowE at h9; rw [Htl.out] at h9; exact h9)) | (refine step_append_lies _ rfl (.tmp 72) (.tmp 74) 24 rfl w4.heap.size 31 i0 (.agg #[.string ⟨#[]⟩, .int .i64 0, .slice none 0 0]) 3 48 Tryz.underlying24 hi hz0 hz1 hz2 rfl (by decide) (.slice E5 m e5) m (flatE encN (L.take m)) rfl (by first | exact ho4 | exact ho4.alloc _) _ 1 1 [.string x.d.key, .int .i64 x.d.op, .slice x.A x.d.values.length x.c] rfl rfl (by first | exact World.news_of_block (heap_alloc_new _ _) | exact World.news_of_block ((hg3.block _ (by simp <;> omega) (by simp [Value.ownBlock] <;> omega)).trans (heap_at (by simp))) | exact World.news_of_block ((hg3.block _ (by simp <;> omega) (by simp [Value.ownBlock] <;> omega)).trans ((Below.heap_alloc _ _ _ (by simp)).trans (heap_at (by simp))))) (encN_one x) (by decide) (by unfold maxLen; omega) (by omega) (by have := hb3.size; simp; omega) _ rfl ?_; intro g5 cap5 w10 ho5 hg5 ha5 hl7; have hb4 : Below w4.heap.size w4 w10 := Below.grown (bel : Below w4.heap.size w4 _) hg5 (by have := hb3.size; first | omega | (simp; omega)) (fun q hq => (World.ownsRow.lt ho4 q hq).1)))
                  all_goals
                    have ho6 := Lib.hid (rowSnoc (enc := encN) (x := x) ho5 Htl.out)
                    clear ho5 hg5 ha5 ho3 hg3 ha3 ho4
                    go_wp2_with fail
                    go_meet
                    exact ⟨g5, cap5, rfl, ho6.out, hb4⟩
                case rest =>
                  obtain ⟨g5, cap5, rfl, hR5, hb5⟩ := hcut
                  have HSd4 := SlOf.now' HSd.out hb5
                  rw [Nat.zero_add] at HSd4
                  obtain ⟨v6, w6, hr6, hR6, hg6, ha6⟩ := run_append_rows (P := Tryz.prog) (enc := encN) (C := C_E) wc 24 24 w4.heap.size 31 i0 (.agg #[.string ⟨#[]⟩, .int .i64 0, .slice none 0 0]) 3 48 Tryz.underlying24 hi hz0 hz1 hz2 rfl (by decide) encN_len encN_one encN_C (.slice (some ⟨g5, 0, none⟩) (m + 1) cap5) (m + 1) (L.take m ++ [x]) (by rw [List.length_append, Htl.out]; rfl) hR5 (L.drop m) (some ⟨g, m * 3, none⟩) (L.length - m) (c5 - m) _ _ (by rw [List.length_drop]) HSd4 (by unfold maxLen; omega) (by omega) hb5.size
                  have hb6 := Below.grown hb5 hg6 hb5.size (fun q hq => (World.ownsRow.lt hR5 q hq).1)
                  skip
                  obtain ⟨g6, c6, -, he6, -, -, -, -, -, -⟩ := hR6.row encN_len (by simp <;> omega)
                  subst he6
                  have HR6 := Lib.hid (hR6.less B4.size)
                  have HN6 := Lib.hid ((HN4.out.below hb6).insert (m := m) (HX4.out.below hb6))
                  have Bq6 := Lib.hid (B4.trans (hb6.mono B4.size))
                  have HLi := Lib.hid (show (L.take m ++ [x] ++ L.drop m).map (·.d) = ordN (l.take (k + 1)) by rw [hins.out]; exact insert_map HO.out)
                  have Hsm2 := Lib.hid (show ∀ d ∈ l.take (k + 1), d.values.length ≤ 40 from fun d hd => by rw [List.take_add_one, Hzm.out] at hd; simp at hd; rcases hd with hd | rfl; exact Hsm.out d hd; exact hv40)
                  have hOc1 : (L.length : Int) ≤ c5 := by omega
                  have HlenN := Lib.hid (show (L.take m ++ [x] ++ L.drop m).length = L.length + 1 by simp; omega)
                  clear hR6 hg6 ha6 hR5 hb6 HSd4
                  go_wp2_with (at_builtin; refine wpList_append_of rfl (.tmp 76) (.tmp 79) 24 rfl _ _ _ w6 rfl rfl hr6 ?_)
                  clear hr6
                  go_roundw
                  case rel => exact ⟨k + 1, L.take m ++ [x] ++ L.drop m, g6, c6, by omega, by go_num, by rw [HlenN.out]; congr 1; omega, HLi.out, HR6.out, HN6.out, Bq6.out, Hsm2.out⟩
                  case measure => simp [intOf]; omega
              · have HcM := Lib.hid (show m = c5 by have := HmL.out; omega)
                obtain rfl := HcM.out
                go_wp2_with fail
                have hR4 := HR3.out.below Bq
                have hN4 := HN3.out.below Bq
                have hX4 := HX.out.below Bq
                have HX4 := Lib.hid hX4
                have HN4 := Lib.hid hN4
                have B4 : Below w.heap.size w w4 := HBF.out.trans (Bq.mono HBF.out.size)
                have HS := Lib.hid (RowE.sl (C := C_E) encN_len hR4 (fun _ _ => rfl))
                have hcapL := (hR4.at encN_len).2.2.1
                have HSt := Lib.hid (SlOf.take HS.out (k := m) (by omega))
                have HSd := Lib.hid (show SlOf C_E 3 0 w4.heap.size w4 [] (.slice (some ⟨g, 0, none⟩) 0 0) from ⟨_, 0, rfl, by simp, by omega, fun h => by simp at h⟩)
                clear hR4 hN4 hX4
                have htl : (L.take m).length = m := by rw [List.length_take]; omega
                have Htl := Lib.hid htl
                have hm9 : (m : Int) ≤ L.length := by omega
                have hm0 : (0 : Int) ≤ m := by omega
                have hmc : (m : Int) ≤ m := by omega
                clear htl
                go_upto_region 15 with fail
                go_cut [8] from 68 to 75 (fun s8 wx => ∃ g5 cap5 : Nat, s8 = .slice (some ⟨g5, 0, none⟩) (m + 1) cap5 ∧ RowE encN 3 31 w4.heap.size wx (L.take m ++ [x]) (.slice (some ⟨g5, 0, none⟩) (m + 1) cap5) ∧ Below w4.heap.size w4 wx)
                case first =>
                  go_region_held3 (fun w' => Below w4.heap.size w4 w' ∧ (∀ xb xo, xb < w4.heap.size → w'.cell? ⟨xb, xo, none⟩ = w4.cell? ⟨xb, xo, none⟩)) (first | exact keep_drew _ | exact keep_at (by assumption) | exact keep_same (by assumption) | exact keep_alloc (by assumption) _) (first | (refine step_append_rows (C := C_E) rfl (.tmp 68) (.tmp 71) 24 rfl w4.heap.size 31 i0 (.agg #[.string ⟨#[]⟩, .int .i64 0, .slice none 0 0]) 3 48 Tryz.underlying24 hi hz0 hz1 hz2 rfl (by decide) encN_len encN_one encN_C (.slice (some ⟨_, 0, none⟩) 0 0) 0 [] rfl rfl (by first | exact own_eq (own_empty (w := w4) rfl (Nat.le_refl _)) rfl | exact own_eq ((own_empty (w := w4) rfl (Nat.le_refl _)).alloc (.cells #[.string x.d.key, .int .i64 x.d.op, .slice x.A x.d.values.length x.c] 31)) rfl | exact own_eq (own_empty (w := w4.alloc (.cells #[.string x.d.key, .int .i64 x.d.op, .slice x.A x.d.values.length x.c] 31)) (by simp) (by simp)) rfl) (L.take m) (some ⟨g, 0, none⟩) m m _ _ rfl Htl.out (SlOf.now' HSt.out bel) (by unfold maxLen; omega) (by omega) (by simp <;> omega) ?_; intro v3 w9 ho3 hg3 ha3; rw [List.nil_append] at ho3; obtain ⟨E5, e5, he3⟩ := RowE.form ho3; rw [Htl.out] at he3; subst he3; have hb3 : Below w4.heap.size w4 w9 := Below.grown (bel : Below w4.heap.size w4 _) hg3 (by simp <;> omega) (fun q hq => (by simp [Value.ownBlock] at hq; omega)); have ho4 : w9.ownsRow w4.heap.size 31 3 (.slice E5 m e5) m (flatE encN (L.take m)) := (by have h9 := ho3; unfold RowE at h9; rw [Htl.out] at h9; exact h9)) | (refine step_append_lies _ rfl (.tmp 72) (.tmp 74) 24 rfl w4.heap.size 31 i0 (.agg #[.string ⟨#[]⟩, .int .i64 0, .slice none 0 0]) 3 48 Tryz.underlying24 hi hz0 hz1 hz2 rfl (by decide) (.slice E5 m e5) m (flatE encN (L.take m)) rfl (by first | exact ho4 | exact ho4.alloc _) _ 1 1 [.string x.d.key, .int .i64 x.d.op, .slice x.A x.d.values.length x.c] rfl rfl (by first | exact World.news_of_block (heap_alloc_new _ _) | exact World.news_of_block ((hg3.block _ (by simp <;> omega) (by simp [Value.ownBlock] <;> omega)).trans (heap_at (by simp))) | exact World.news_of_block ((hg3.block _ (by simp <;> omega) (by simp [Value.ownBlock] <;> omega)).trans ((Below.heap_alloc _ _ _ (by simp)).trans (heap_at (by simp))))) (encN_one x) (by decide) (by unfold maxLen; omega) (by omega) (by have := hb3.size; simp; omega) _ rfl ?_; intro g5 cap5 w10 ho5 hg5 ha5 hl7; have hb4 : Below w4.heap.size w4 w10 := Below.grown (bel : Below w4.heap.size w4 _) hg5 (by have := hb3.size; first | omega | (simp; omega)) (fun q hq => (World.ownsRow.lt ho4 q hq).1)))
                  all_goals
                    have ho6 := Lib.hid (rowSnoc (enc := encN) (x := x) ho5 Htl.out)
                    clear ho5 hg5 ha5 ho3 hg3 ha3 ho4
                    go_wp2_with fail
                    go_meet
                    exact ⟨g5, cap5, rfl, ho6.out, hb4⟩
                case rest =>
                  obtain ⟨g5, cap5, rfl, hR5, hb5⟩ := hcut
                  have HSd4 := SlOf.now' HSd.out hb5
                  skip
                  obtain ⟨v6, w6, hr6, hR6, hg6, ha6⟩ := run_append_rows (P := Tryz.prog) (enc := encN) (C := C_E) wc 24 24 w4.heap.size 31 i0 (.agg #[.string ⟨#[]⟩, .int .i64 0, .slice none 0 0]) 3 48 Tryz.underlying24 hi hz0 hz1 hz2 rfl (by decide) encN_len encN_one encN_C (.slice (some ⟨g5, 0, none⟩) (m + 1) cap5) (m + 1) (L.take m ++ [x]) (by rw [List.length_append, Htl.out]; rfl) hR5 [] (some ⟨g, 0, none⟩) 0 0 _ _ rfl HSd4 (by unfold maxLen; omega) (by omega) hb5.size
                  have hb6 := Below.grown hb5 hg6 hb5.size (fun q hq => (World.ownsRow.lt hR5 q hq).1)
                  rw [show L.take m ++ [x] ++ [] = L.take m ++ [x] ++ L.drop m by rw [List.drop_eq_nil_of_le (by rw [← HOL.out, ← HmO.out]; exact Nat.le_refl _)]] at hR6
                  obtain ⟨g6, c6, -, he6, -, -, -, -, -, -⟩ := hR6.row encN_len (by simp <;> omega)
                  subst he6
                  have HR6 := Lib.hid (hR6.less B4.size)
                  have HN6 := Lib.hid ((HN4.out.below hb6).insert (m := m) (HX4.out.below hb6))
                  have Bq6 := Lib.hid (B4.trans (hb6.mono B4.size))
                  have HLi := Lib.hid (show (L.take m ++ [x] ++ L.drop m).map (·.d) = ordN (l.take (k + 1)) by rw [hins.out]; exact insert_map HO.out)
                  have Hsm2 := Lib.hid (show ∀ d ∈ l.take (k + 1), d.values.length ≤ 40 from fun d hd => by rw [List.take_add_one, Hzm.out] at hd; simp at hd; rcases hd with hd | rfl; exact Hsm.out d hd; exact hv40)
                  have hOc1 : (L.length : Int) ≤ m := by omega
                  have HlenN := Lib.hid (show (L.take m ++ [x] ++ L.drop m).length = L.length + 1 by simp; omega)
                  clear hR6 hg6 ha6 hR5 hb6 HSd4
                  go_wp2_with (at_builtin; refine wpList_append_of rfl (.tmp 76) (.tmp 79) 24 rfl _ _ _ w6 rfl rfl hr6 ?_)
                  clear hr6
                  go_roundw
                  case rel => exact ⟨k + 1, L.take m ++ [x] ++ L.drop m, g6, c6, by omega, by go_num, by rw [HlenN.out]; congr 1; have := HmL.out; omega, HLi.out, HR6.out, HN6.out, Bq6.out, Hsm2.out⟩
                  case measure => simp [intOf]; omega
      · obtain rfl : k = l.length := by omega
        have HO2 := Lib.hid (show L.map (·.d) = ordN l by have h9 := HLm.out; rw [List.take_length] at h9; exact h9)
        have HLg := Lib.hid (longN_no (l := l) (by have h9 := Hsm.out; rw [List.take_length] at h9; exact h9))
        have HSx := Lib.hid (row_needs HR.out HN.out)
        obtain ⟨O, hO⟩ : ∃ O, O = ordN l := ⟨_, rfl⟩
        have HOO := Lib.hid hO
        rw [← hO] at HO2
        have hOL : L.length = O.length := by rw [← HO2.out, List.length_map]
        rw [HO2.out] at HSx
        rw [hOL] at HR HSx ⊢
        have HOL := Lib.hid hOL
        clear hO hOL
        have hwr := hbr.size
        go_wp2_with fail
        refine (c_spec_SelectorOk O _ _ _ HSx.out).mono ?_
        rintro e w9 ⟨rfl, hb9⟩
        have Bw9 := hbr.trans (hb9.mono hwr)
        have HR9 := Lib.hid (HR.out.below hb9)
        have HN9 := Lib.hid (HN.out.below hb9)
        rcases ht : selB O with _ | _
        · have Hf := Lib.hid (show sortNB l = (l, false) by unfold sortNB; rw [if_neg (by omega), HLg.out, ← HOO.out, ht]; rfl)
          go_wp2_with fail
          refine (c_l15Copy l _ _ _ (Sl_Need.now HSl.out Bw9) hn Hv.out).mono ?_
          rintro e w1 ⟨L1, B, b1, rfl, hL, hR, hN, hb⟩
          have HL := Lib.hid hL
          have HR1 := Lib.hid (hR.less Bw9.size)
          have HN1 := Lib.hid (hN.less Bw9.size)
          clear hL hR hN
          have Bf := Bw9.trans (hb.mono Bw9.size)
          go_wp2_with fail
          go_ret2
          exact ⟨L1, B, b1, by rw [Hf.out]; rfl, by rw [Hf.out]; exact HL.out, by rw [Hf.out]; exact HR1.out, HN1.out, Bf⟩
        · have Hf := Lib.hid (show sortNB l = (O, true) by unfold sortNB; rw [if_neg (by omega), HLg.out, ← HOO.out, ht]; rfl)
          go_wp2_with fail
          go_ret2
          exact ⟨L, some ⟨g, 0, none⟩, c5, by rw [Hf.out]; rfl, by rw [Hf.out]; exact HO2.out, by rw [Hf.out]; exact HR9.out, HN9.out, Bw9⟩
end Go.Proofs.YtmhlnbihppojmaaGreat
