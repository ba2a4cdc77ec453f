/- Written by wip/tools/pack.py: the texts that FnExactPodTree needs, without what it does not need. No conditions. -/
import Derived.Test.YteecgklmdfockaaGreatDoorKFnExactPodTree5
import Derived.Test.YteecgklmdfockaaGreatDoorKFnExactPodTree6
import Derived.Test.YteecgklmdfockaaGreatDoorKFnExactPodTree7
namespace Go.Proofs.YteecgklmdfockaaGreatDoor
open Go.RowKit
def opW (x : Int) : ByteArray := if x = 1 then ⟨#[105, 110]⟩ else if x = 2 then ⟨#[110, 111, 116, 105, 110]⟩ else if x = 3 then ⟨#[104, 97, 115]⟩ else if x = 4 then ⟨#[104, 97, 115, 110, 111, 116]⟩ else ⟨#[]⟩
def wOp : ByteArray := ⟨#[111, 112]⟩
def wValues : ByteArray := ⟨#[118, 97, 108, 117, 101, 115]⟩
def listT (vs : List ByteArray) : TreeD := ⟨5, false, 0, ⟨#[]⟩, [], vs.map leafD⟩
def needT (d : Need) : TreeD := if needOkB d = true then (if d.values.length = 0 then pairT [wKey, wOp] [d.key, opW d.op] else ⟨6, false, 0, ⟨#[]⟩, [wKey, wOp, wValues], [leafD d.key, leafD (opW d.op), listT d.values]⟩) else tree0
theorem own_list {n base : Nat} {w : World} {vs : List ByteArray} {vl : Value} (h : w.ownsRow base 30 6 vl (vs.map leafC).length (vs.map leafC).flatten) (hv : ∀ t ∈ vs, t.size ≤ 9223372036854775807) :
    OwnT (n + 2) (fun b => vl.ownBlock = some b) w (listT vs) [.int .i64 5, .bool false, .int .i64 0, .string ⟨#[]⟩, .slice none 0 0, vl] := by
  refine OwnT.into ⟨.slice none 0 0, vl, fun _ => False, fun b => vl.ownBlock = some b ∨ ∃ i : Nat, False, rfl, (show I64 5 from by unfold I64; decide), (show I64 0 from by unfold I64; decide), (show ByteArray.size ⟨#[]⟩ ≤ 9223372036854775807 from by decide), fun _ h => h.elim, ?_, ⟨none, 0, rfl, Nat.le_refl _, by decide, fun h => by simp [listT] at h⟩, own_K (css := vs.map leafC) (fun _ _ => False) (by simp [listT]) (leaf_six vs) h (fun _ _ h => h.elim) (fun _ _ _ h => h.elim) ?_⟩
  · rintro b (h1 | ⟨_, h1⟩)
    · exact h1
    · exact h1.elim
  · intro i d es h1 h2
    have h1 : (vs.map leafD)[i]? = some d := h1
    rw [List.getElem?_map] at h1 h2
    rcases hi : vs[i]? with _ | t
    · rw [hi] at h1; cases h1
    · rw [hi] at h1 h2
      simp at h1 h2
      subst h1 h2
      exact own_leafT (hv t (List.mem_of_getElem? hi))
theorem leaf_one (t : ByteArray) : ∀ x ∈ leafC t, x.oneCell' = true := by intro u hu; simp [leafC] at hu; rcases hu with rfl | rfl | rfl | rfl | rfl <;> rfl
theorem take_leaf2 {l : List ByteArray} {k : Nat} {d : ByteArray} (h : l[k]? = some d) : ((l.take (k + 1)).map leafC).flatten = ((l.take k).map leafC).flatten ++ leafC d := by
  rw [List.take_add_one, h]; simp
set_option maxHeartbeats 2000000 in
set_option maxRecDepth 10000 in
theorem c_listOfS (vs : List ByteArray) (v : Value) (w : World) (lo : Nat) (hs : Sl_Str lo w.heap.size w vs v) (hn : vs.length ≤ 1048576) :
    Calls Tryz.prog 102 #[v, .func (.func 81) #[] #[]] w fun e w' => ∃ vl, e = .returned (.agg #[.int .i64 5, .bool false, .int .i64 0, .string ⟨#[]⟩, .slice none 0 0, vl]) ∧ w'.ownsRow w.heap.size 30 6 vl (vs.map leafC).length (vs.map leafC).flatten ∧ Below w.heap.size w w' := by
  obtain ⟨i0, hi, hz0, hz1, hz2⟩ := info_parts (show (Tryz.prog.info? 30).map (fun i => (i.zero, i.size, i.bytes)) = some (some (.agg #[.int .i64 0, .bool false, .int .i64 0, .string ⟨#[]⟩, .slice none 0 0, .slice none 0 0]), 6, 88) from by kernel_rfl)
  obtain ⟨A, c, rfl, hlc, hcc, hA⟩ := hs
  go_enter Tryz.func102, Tryz.ntmps102
  go_wp2_with fail
  go_loopw [11] (fun i wr => ∃ (k : Nat) (K : Option Addr) (c5 : Nat), k ≤ vs.length ∧ i = .int .i64 k ∧ wr.heap[w.heap.size + 1]? = some (.cells #[.int .i64 5, .bool false, .int .i64 0, .string ⟨#[]⟩, .slice none 0 0, .slice K k c5] 30 (0, 0)) ∧ wr.heap[w.heap.size]? = some (.cells #[.int .i64 0, .bool false, .int .i64 0, .string ⟨#[]⟩, .slice none 0 0, .slice none 0 0] 30 (0, 0)) ∧ wr.ownsRow (w.heap.size + 2) 30 6 (.slice K k c5) k ((vs.take k).map leafC).flatten ∧ Below w.heap.size w wr) (fun i _ => vs.length - (intOf i).toNat)
  case atStart => exact ⟨0, none, 0, Nat.zero_le _, rfl, heap_at (by simp), (Below.heap_alloc _ _ _ (by simp)).trans (heap_at (by simp)), ⟨rfl, .inl ⟨rfl, rfl⟩⟩, bel⟩
  case round =>
    obtain ⟨k, K, c5, hk, rfl, hT1, hZ1, hown, hbr⟩ := hrel
    obtain ⟨t0, t1, t2, t3, t4, t5, tf⟩ := row6 hT1
    have tl := row_lt hT1
    have zl := row_lt hZ1
    have RT := Lib.hid hT1
    have RZ := Lib.hid hZ1
    have HO := Lib.hid hown
    by_cases hlt : k < vs.length
    · obtain ⟨b, o, rfl, -, hb2, hcell⟩ := hA (by omega)
      obtain ⟨d, hd⟩ := exists_at hlt
      obtain ⟨es, -, hcs, rfl, hd2⟩ := hcell k d hd
      have hc0 := (hbr.cell (p := ⟨b, o + k * 1 + 0, none⟩) (by simp; omega)).trans (hcs 0 (by omega))
      simp at hc0
      have hbl : b < wr.heap.size := Nat.lt_of_lt_of_le hb2 hbr.size
      have hk0 : (0 : Int) ≤ k := by omega
      have hk1 : (k : Int) < vs.length := by omega
      obtain ⟨r, hr⟩ : ∃ r, r = (Value.slice K k c5).ownBlock := ⟨_, rfl⟩
      have hrl : ∀ q, r = some q → w.heap.size + 2 ≤ q := fun q hq => (hown.lt q (by rw [← hr]; exact hq)).1
      have hn0 : r ≠ some w.heap.size := fun h => by have := hrl _ h; omega
      have hn1 : r ≠ some (w.heap.size + 1) := fun h => by have := hrl _ h; omega
      have Hrl := Lib.hid hrl
      have Hr := Lib.hid hr
      have Hd := Lib.hid hd
      clear hcs hcell hA hd hT1 hZ1 hown hrl hr
      go_wp2_with fail
      go_region_law (first | (go_simp; go_at_call 81; refine (c_impl_TextTree _ _).mono ?_; rintro e w9 ⟨rfl, hb9⟩; unfold leafC; obtain ⟨-, -, -, -, -, p5, -⟩ := row6 ((hb9.block (w.heap.size + 1) tl).trans RT.out); have p9 : w.heap.size + 1 < w9.heap.size := Nat.lt_of_lt_of_le tl hb9.size) | (refine step_append_lies _ rfl _ _ 28 rfl (w.heap.size + 2) 30 i0 (.agg #[.int .i64 0, .bool false, .int .i64 0, .string ⟨#[]⟩, .slice none 0 0, .slice none 0 0]) 6 88 Tryz.underlying28 hi hz0 hz1 hz2 rfl (by decide) _ k ((vs.take k).map leafC).flatten rfl (own9 HO.out hb9 rfl rfl) ⟨w9.heap.size, 0, none⟩ 1 1 (leafC d) rfl rfl (World.news_of_block (heap_alloc_new w9 _)) (leaf_one d) (by decide) (by unfold maxLen; omega) (by omega) (by have := hb9.size; simp at this ⊢; omega) _ rfl ?_; intro g cap w2 hown2 hgrow2 hat2 hlt2; have hgrow3 := grown_at Hr.out hgrow2; obtain ⟨-, -, -, -, -, q5, qf⟩ := row6 (row9 RT.out hb9 rfl hgrow2 Hr.out hn1)))
      all_goals
        have hs9 : wr.heap.size ≤ w9.heap.size := hb9.size
        have hB9 : Below w.heap.size w w9 := bel
        have hB2 := Below.grown (hB9.alloc (by omega) (.cells #[.int .i64 4, .bool false, .int .i64 0, .string d, .slice none 0 0, .slice none 0 0] 30)) hgrow2 (by simp; omega) (fun q hq => by have := Hrl.out q (Hr.out.trans hq); omega)
        have RZ2 := row9 RZ.out hb9 rfl hgrow2 Hr.out hn0
        have RT2 := row9 RT.out hb9 rfl hgrow2 Hr.out hn1
        have hs2 := hgrow2.size
        simp at hs2
        rw [← take_leaf2 Hd.out] at hown2
        have HN := Lib.hid hown2
        clear hgrow2 hgrow3 hown2 hat2
        go_wp2_with fail
        go_roundw
        case rel => exact ⟨k + 1, some ⟨g, 0, none⟩, cap, by omega, by go_num, heap_setCell_same w2 (w.heap.size + 1) 5 _ _ _ RT2, (Below.heap_setCell _ _ _ _ (by simp; try omega)).trans RZ2, ownsRow_setCell_below HN.out (by simp) _, Below.setCell hB2 (by simp) _⟩
        case measure => simp [intOf]; omega
    · obtain rfl : k = vs.length := by omega
      obtain ⟨z0, z1, z2, z3, z4, z5, zf⟩ := row6 RZ.out
      have ho2 := hown
      rw [List.take_length] at ho2
      have Ho2 := Lib.hid ho2
      clear hA hown ho2 hT1 hZ1
      go_wp2_with fail
      refine bodyPost_ret (v := .agg #[.int .i64 5, .bool false, .int .i64 0, .string ⟨#[]⟩, .slice none 0 0, .slice K vs.length c5]) (by simp only [results, Tryz.results102]; go_simp) rfl ⟨_, rfl, ?_, bel⟩
      rw [List.length_map]
      exact own_less (ownsRow_carry Ho2.out (fun q hq => Aside.block (S := fun b => b = w.heap.size) (w := wr) (by repeat (first | (with_reducible exact Aside.refl _ _) | ((with_reducible refine aside_set ?_ ?_); (focus (simp; done))) | (with_reducible refine aside_alloc ?_))) q (Ho2.out.lt q hq).2 (by have := (Ho2.out.lt q hq).1; omega))) (by omega)
theorem c_needWord (x : Int) (w : World) : Calls Tryz.prog 101 #[.int .i64 x] w fun e w' => e = .returned (.string (opW x)) ∧ Below w.heap.size w w' := by
  by_cases h1 : x = 1
  · subst h1
    go_enter Tryz.func101, Tryz.ntmps101
    go_wp2_with fail
    go_ret
    exact ⟨rfl, bel⟩
  by_cases h2 : x = 2
  · subst h2
    go_enter Tryz.func101, Tryz.ntmps101
    go_wp2_with fail
    go_ret
    exact ⟨rfl, bel⟩
  by_cases h3 : x = 3
  · subst h3
    go_enter Tryz.func101, Tryz.ntmps101
    go_wp2_with fail
    go_ret
    exact ⟨rfl, bel⟩
  by_cases h4 : x = 4
  · subst h4
    go_enter Tryz.func101, Tryz.ntmps101
    go_wp2_with fail
    go_ret
    exact ⟨rfl, bel⟩
  have g1 : (x == 1) = false := beq_eq_false_iff_ne.2 h1
  have g2 : (x == 2) = false := beq_eq_false_iff_ne.2 h2
  have g3 : (x == 3) = false := beq_eq_false_iff_ne.2 h3
  have g4 : (x == 4) = false := beq_eq_false_iff_ne.2 h4
  have Hf := Lib.hid (show opW x = ⟨#[]⟩ by unfold opW; rw [if_neg h1, if_neg h2, if_neg h3, if_neg h4])
  clear h1 h2 h3 h4
  go_enter Tryz.func101, Tryz.ntmps101
  go_wp2_with fail
  go_ret
  exact ⟨by rw [Hf.out]; rfl, bel⟩
theorem c_l15Ops (w : World) : Calls Tryz.prog 94 #[] w fun e w' => e = .returned (.slice (some ⟨w.heap.size, 0, none⟩) 5 5) ∧ w'.heap[w.heap.size]? = some (.cells #[.string ⟨#[]⟩, .string ⟨#[105, 110]⟩, .string ⟨#[110, 111, 116, 105, 110]⟩, .string ⟨#[104, 97, 115]⟩, .string ⟨#[104, 97, 115, 110, 111, 116]⟩] 9 (0, 0)) ∧ Below w.heap.size w w' := by
  go_enter Tryz.func94, Tryz.ntmps94
  go_wp2_with fail
  go_ret
  exact ⟨rfl, heap_at (by simp), bel⟩
set_option maxRecDepth 10000 in
theorem c_ListTree (n : Nat) (vs : List ByteArray) (K : Option Addr) (c5 : Nat) (w : World) (lo : Nat) (h : C_Tree (n + 2) lo w.heap.size w (listT vs) [.int .i64 5, .bool false, .int .i64 0, .string ⟨#[]⟩, .slice none 0 0, .slice K vs.length c5]) (hn : nTree (n + 2) (listT vs) ≤ 1048576) :
    Calls Tryz.prog 27 #[.slice K vs.length c5] w fun e w' => ∃ cs', e = .returned (.agg cs'.toArray) ∧ OwnT (n + 2) (fun b => w.heap.size < b ∧ b < w'.heap.size) w' (listT vs) cs' ∧ Below w.heap.size w w' := by
  go_enter Tryz.func27, Tryz.ntmps27
  go_wp2_with fail
  refine (all_l08 (n + 2) (listT vs) _ _ lo (h.now bel) hn).mono ?_
  rintro e w1 ⟨cs1, rfl, hO, hb⟩
  obtain ⟨A4, c4, A5, c6, rfl, -⟩ := hO.flat
  have Z := (hb.block w.heap.size (by simp)).trans (heap_at (by simp))
  have hl := row_lt Z
  obtain ⟨x0, x1, x2, x3, x4, x5, xf⟩ := row6 Z
  have HO := Lib.hid hO
  have Bw : Below w.heap.size w w1 := Below.trans bel (hb.mono (by simp))
  clear Z hO hb
  go_wp2_with fail
  refine bodyPost_ret (v := .agg #[.int .i64 (listT vs).kind, .bool (listT vs).flag, .int .i64 (listT vs).num, .string (listT vs).text, .slice A4 (listT vs).keys.length c4, .slice A5 (listT vs).kids.length c6]) (by simp only [results, Tryz.results27]; go_simp) rfl ⟨_, rfl, HO.out.carry (fun b hb => Aside.block (S := fun b => b = w.heap.size) (w := w1) (by repeat (first | (with_reducible exact Aside.refl _ _) | ((with_reducible refine aside_set ?_ ?_); (focus (simp; done))) | (with_reducible refine aside_alloc ?_))) b hb.2 (by have := hb.1; simp at this; omega)) (fun b hb => by simp at hb ⊢; omega), Bw.trans (Aside.below (S := fun b => b = w.heap.size) (by repeat (first | (with_reducible exact Aside.refl _ _) | ((with_reducible refine aside_set ?_ ?_); (focus (simp; done))) | (with_reducible refine aside_alloc ?_))) Bw.size (fun i hi => by omega))⟩
end Go.Proofs.YteecgklmdfockaaGreatDoor
