/- Written by wip/tools/pack.py: the texts that FnExactHostTree needs, without what it does not need. No conditions. -/
import Derived.Test.YteecgklmdfockaaGreatDoorKFnExactHostTree8
import Derived.Test.YteecgklmdfockaaGreatDoorKFnExactHostTree5
import Derived.Test.YteecgklmdfockaaGreatDoorKFnExactHostTree9
import Derived.Test.YteecgklmdfockaaGreatDoorKFnExactHostTree1
namespace Go.Proofs.YteecgklmdfockaaGreatDoor
open Go.RowKit
def lstD (l : List TreeD) : TreeD := ⟨5, false, 0, ⟨#[]⟩, [], l⟩
def taintTD (d : Taint) : TreeD := taintT d.key d.value d.effect
theorem own_lstD {n base hi : Nat} {w wF : World} {l : List TreeD} {v : Value} {S : Nat → Prop} (h : GrowK n base hi w l v) (hF : ∀ q, base ≤ q → q < hi → wF.heap[q]? = w.heap[q]?) (hS : ∀ b, base ≤ b → b < hi → S b) :
    OwnT (n + 1) S wF (lstD l) [.int .i64 5, .bool false, .int .i64 0, .string ⟨#[]⟩, .slice none 0 0, v] :=
  OwnT.into ⟨_, _, fun _ => False, fun b => base ≤ b ∧ b < hi, rfl, (show I64 5 from by unfold I64; decide), (show I64 0 from by unfold I64; decide), (show ByteArray.size ⟨#[]⟩ ≤ 9223372036854775807 from by decide), fun _ h => h.elim, fun b hb => hS b hb.1 hb.2,
    ⟨none, 0, rfl, Nat.le_refl _, by decide, fun h => by simp [lstD] at h⟩, h.own.keep (fun b hb => hF b hb.1 hb.2) (fun _ h => h)⟩
set_option maxHeartbeats 4000000 in
set_option maxRecDepth 20000 in
theorem c_listOf_Taint (n : Nat) (l : List Taint) (v : Value) (w : World) (lo : Nat) (hs : Sl_Taint lo w.heap.size w l v) (hn : l.length ≤ 1048576) :
    Calls Tryz.prog 34 #[v, .func (.func 35) #[] #[]] w fun e w' => ∃ cs, e = .returned (.agg cs.toArray) ∧ OwnT (n + 2 + 1) (fun b => w.heap.size ≤ b ∧ b < w'.heap.size) w' (lstD (l.map taintTD)) cs ∧ Below w.heap.size w w' := by
  obtain ⟨i0, hi, hz0, hz1, hz2⟩ := info_parts (show (Tryz.prog.info? 30).map (fun i => (i.zero, i.size, i.bytes)) = some (some (.agg #[.int .i64 0, .bool false, .int .i64 0, .string ⟨#[]⟩, .slice none 0 0, .slice none 0 0]), 6, 88) from by kernel_rfl)
  obtain ⟨A, c, rfl, hlc, hcc, hA⟩ := hs
  go_enter Tryz.func34, Tryz.ntmps34
  go_wp2_with fail
  go_loopw [11] (fun i wr => ∃ (k : Nat) (K : Option Addr) (c5 : Nat), k ≤ l.length ∧ i = .int .i64 k ∧ wr.heap[w.heap.size + 1]? = some (.cells #[.int .i64 5, .bool false, .int .i64 0, .string ⟨#[]⟩, .slice none 0 0, .slice K k c5] 30 (0, 0)) ∧ wr.heap[w.heap.size]? = some (.cells #[.int .i64 0, .bool false, .int .i64 0, .string ⟨#[]⟩, .slice none 0 0, .slice none 0 0] 30 (0, 0)) ∧ GrowK (n + 2) (w.heap.size + 2) wr.heap.size wr ((l.take k).map taintTD) (.slice K k c5) ∧ Below w.heap.size w wr) (fun i _ => l.length - (intOf i).toNat)
  case atStart => exact ⟨0, none, 0, Nat.zero_le _, rfl, heap_at (by simp), (Below.heap_alloc _ _ _ (by simp)).trans (heap_at (by simp)), GrowK.nil _ _ _ _, bel⟩
  case round =>
    obtain ⟨k, K, c5, hk, rfl, hT1, hZ1, hgk, hbr⟩ := hrel
    have tl := row_lt hT1
    have zl := row_lt hZ1
    have RT := Lib.hid hT1
    have RZ := Lib.hid hZ1
    have Hg := Lib.hid hgk
    have HBr := Lib.hid hbr
    have hbs := hbr.size
    by_cases hlt : k < l.length
    · obtain ⟨b, o, rfl, -, hb2, hcell⟩ := hA (by omega)
      obtain ⟨d, hd⟩ := exists_at hlt
      obtain ⟨es, -, hcs, hC⟩ := hcell k d hd
      obtain ⟨rfl, q1, q2, -⟩ := hC
      have HC := Lib.hid (And.intro q1 q2)
      have hc0 := (hbr.cell (p := ⟨b, o + k * 3 + 0, none⟩) (by simp; omega)).trans (hcs 0 (by omega))
      have hc1 := (hbr.cell (p := ⟨b, o + k * 3 + 1, none⟩) (by simp; omega)).trans (hcs 1 (by omega))
      have hc2 := (hbr.cell (p := ⟨b, o + k * 3 + 2, none⟩) (by simp; omega)).trans (hcs 2 (by omega))
      simp at hc0 hc1 hc2
      have hbl : b < wr.heap.size := Nat.lt_of_lt_of_le hb2 hbr.size
      have hk0 : (0 : Int) ≤ k := by omega
      have hk1 : (k : Int) < l.length := by omega
      have Htk := Lib.hid (show (l.take (k + 1)).map taintTD = (l.take k).map taintTD ++ [taintTD d] by rw [List.take_add_one, hd]; simp)
      have Hlen := Lib.hid (show ((l.take k).map taintTD).length = k by rw [List.length_map, List.length_take]; omega)
      clear hcs hcell hA hd hT1 hZ1 hgk hbr q1 q2
      go_wp2_with fail
      obtain ⟨w4, hW⟩ : ∃ x, x = wr.alloc (.cells #[.string d.key, .string d.value, .int .i64 d.effect] 64) := ⟨_, rfl⟩
      rw [← hW]
      have hb4 : Below wr.heap.size wr w4 := by rw [hW]; exact bel
      have hz4 : w4.heap.size = wr.heap.size + 1 := by rw [hW]; simp
      have X4 : w4.heap[wr.heap.size]? = some (.cells #[.string d.key, .string d.value, .int .i64 d.effect] 64 (0, 0)) := by rw [hW]; exact heap_at rfl
      have RT4 := Lib.hid ((hb4.block _ tl).trans RT.out)
      have RZ4 := Lib.hid ((hb4.block _ zl).trans RZ.out)
      have HB4 := Lib.hid (HBr.out.trans (hb4.mono HBr.out.size))
      have HG4 := Lib.hid (Hg.out.carry (Nat.le_refl _) (fun g _ hg => hb4.block g hg) : GrowK (n + 2) (w.heap.size + 2) wr.heap.size w4 _ _)
      clear hW hc0 hc1 hc2
      obtain ⟨t0, t1, t2, t3, t4, t5, tf⟩ := row6 RT4.out
      obtain ⟨v0, v1, v2, vf⟩ := row3 X4
      have tl4 := row_lt RT4.out
      have xl4 := row_lt X4
      obtain ⟨ess, F, e1, e2, e3, e4, e5, e6, e7⟩ := HG4.out
      rw [Hlen.out] at e3
      have HO := Lib.hid e3
      obtain ⟨r, hr⟩ : ∃ r, r = (Value.slice K k c5).ownBlock := ⟨_, rfl⟩
      have hrl : ∀ q, r = some q → w.heap.size + 2 ≤ q ∧ q < wr.heap.size := fun q hq => ⟨(HO.out.lt q (by rw [← hr]; exact hq)).1, e4 q (by rw [← hr]; exact hq)⟩
      have hn0 : r ≠ some w.heap.size := fun h => by have := (hrl _ h).1; omega
      have hn1 : r ≠ some (w.heap.size + 1) := fun h => by have := (hrl _ h).1; omega
      have Hrl := Lib.hid hrl
      have Hr := Lib.hid hr
      have HE := Lib.hid (And.intro e1 (And.intro e2 (And.intro e4 (And.intro e5 (And.intro e6 e7)))))
      have HB4b : Below w.heap.size w w4 := HB4.out
      clear e1 e2 e3 e4 e5 e6 e7 hrl hr hb4 X4
      go_region_law (first | (go_simp; go_at_call 35; refine (c_impl_TaintTree n d.key d.value d.effect _ HC.out.1 HC.out.2).mono ?_; rintro e w9 ⟨cs9, rfl, hO9, hb9⟩; have hO9f := hO9.flat; obtain ⟨f4, g4, f5, g5, rfl, -⟩ := hO9f; obtain ⟨-, -, -, -, -, p5, -⟩ := row6 ((hb9.block (w.heap.size + 1) tl4).trans RT4.out); have p9 : w.heap.size + 1 < w9.heap.size := Nat.lt_of_lt_of_le tl4 hb9.size; have Hone := Lib.hid hO9.one) | (refine step_append_lies _ rfl _ _ 28 rfl (w.heap.size + 2) 30 i0 (.agg #[.int .i64 0, .bool false, .int .i64 0, .string ⟨#[]⟩, .slice none 0 0, .slice none 0 0]) 6 88 Tryz.underlying28 hi hz0 hz1 hz2 rfl (by decide) _ k ess.flatten rfl (own9 HO.out hb9 rfl rfl) ⟨w9.heap.size, 0, none⟩ 1 1 [.int .i64 (taintTD d).kind, .bool (taintTD d).flag, .int .i64 (taintTD d).num, .string (taintTD d).text, .slice f4 (taintTD d).keys.length g4, .slice f5 (taintTD d).kids.length g5] rfl rfl (World.news_of_block (heap_alloc_new w9 _)) Hone.out (by decide) (by unfold maxLen; omega) (by omega) (by have := hb9.size; simp at this ⊢; omega) _ rfl ?_; intro g cap w2 hown2 hgrow2 hat2 hlt2; have hgrow3 := grown_at Hr.out hgrow2; obtain ⟨-, -, -, -, -, q5, qf⟩ := row6 (row9 RT4.out hb9 rfl hgrow2 Hr.out hn1)))
      all_goals
        have hs9 : w4.heap.size ≤ w9.heap.size := hb9.size
        have hB9 : Below w.heap.size w w9 := bel
        have hb49 : ∀ q, q < w4.heap.size → w9.heap[q]? = w4.heap[q]? := fun q hq => hb9.block q hq
        have hB2 := Below.grown (hB9.alloc (by omega) (.cells #[.int .i64 (taintTD d).kind, .bool (taintTD d).flag, .int .i64 (taintTD d).num, .string (taintTD d).text, .slice f4 (taintTD d).keys.length g4, .slice f5 (taintTD d).kids.length g5] 30)) hgrow2 (by simp; omega) (fun q hq => by have := (Hrl.out q (Hr.out.trans hq)).1; omega)
        have RZ2 := row9 RZ4.out hb9 rfl hgrow2 Hr.out hn0
        have RT2 := row9 RT4.out hb9 rfl hgrow2 Hr.out hn1
        obtain ⟨e1, e2, e4, e5, e6, e7⟩ := HE.out
        have Hp := Lib.hid (GrowK.push (hi := wr.heap.size) (w := w9.alloc (.cells #[.int .i64 (taintTD d).kind, .bool (taintTD d).flag, .int .i64 (taintTD d).num, .string (taintTD d).text, .slice f4 (taintTD d).keys.length g4, .slice f5 (taintTD d).kids.length g5] 30)) (S := fun b => wr.heap.size ≤ b ∧ b < w9.heap.size) k Hlen.out (by simp; omega) (hO9.carry (fun b hb => Below.heap_alloc _ _ b hb.2) (fun b hb => by have := hb.1; (try simp at this); exact ⟨by omega, hb.2⟩)) (fun b hb => by simp; omega) (by omega) ess F e1 e2 e4 e5 e6
          (fun i d' es' h1 h2 => (e7 i d' es' h1 h2).carry (fun b hb => (Below.heap_alloc _ _ b (by have := (e5 i b hb).2.1; omega)).trans (hb49 b (by have := (e5 i b hb).2.1; omega))) (fun _ h => h)) hown2 hgrow2 (by rcases hat2 with h | h; exact .inl h; exact .inr (by simp at h ⊢; omega)) hlt2)
        have hs2 := hgrow2.size
        simp at hs2
        clear hgrow2 hgrow3 hown2 hat2 e1 e2 e4 e5 e6 e7 hO9
        go_wp2_with fail
        go_roundw
        case rel => exact ⟨k + 1, some ⟨g, 0, none⟩, cap, by omega, by go_num, heap_setCell_same w2 (w.heap.size + 1) 5 _ _ _ RT2, (Below.heap_setCell _ _ _ _ (by simp; try omega)).trans RZ2, by rw [Htk.out]; exact Hp.out.carry (by simp) (fun q q1 _ => Below.heap_setCell _ _ _ _ (by simp; omega)), Below.setCell hB2 (by simp) _⟩
        case measure => simp [intOf]; omega
    · obtain rfl : k = l.length := by omega
      obtain ⟨z0, z1, z2, z3, z4, z5, zf⟩ := row6 RZ.out
      obtain ⟨t0, t1, t2, t3, t4, t5, tf⟩ := row6 RT.out
      rw [List.take_length] at hgk
      have Hg2 := Lib.hid hgk
      clear hA hgk hT1 hZ1 hbr
      go_wp2_with fail
      exact bodyPost_ret (v := .agg #[.int .i64 5, .bool false, .int .i64 0, .string ⟨#[]⟩, .slice none 0 0, .slice K l.length c5]) (by simp only [results, Tryz.results34]; go_simp) rfl ⟨[.int .i64 5, .bool false, .int .i64 0, .string ⟨#[]⟩, .slice none 0 0, .slice K l.length c5], rfl, own_lstD Hg2.out (fun q q1 q2 => Aside.block (S := fun b => b = w.heap.size) (w := wr) (by repeat (first | (with_reducible exact Aside.refl _ _) | ((with_reducible refine aside_set ?_ ?_); (focus (simp; done))) | (with_reducible refine aside_alloc ?_))) q q2 (by omega)) (fun b q1 q2 => ⟨by omega, Nat.lt_of_lt_of_le q2 (Aside.size (S := fun b => b = w.heap.size) (w := wr) (by repeat (first | (with_reducible exact Aside.refl _ _) | ((with_reducible refine aside_set ?_ ?_); (focus (simp; done))) | (with_reducible refine aside_alloc ?_))))⟩), HBr.out.trans (Aside.below (S := fun b => b = w.heap.size) (a := wr) (by repeat (first | (with_reducible exact Aside.refl _ _) | ((with_reducible refine aside_set ?_ ?_); (focus (simp; done))) | (with_reducible refine aside_alloc ?_))) HBr.out.size (fun i hi => by omega))⟩
end Go.Proofs.YteecgklmdfockaaGreatDoor
namespace Go.Proofs.YteecgklmdfockaaGreatDoor
open Go.RowKit
set_option maxHeartbeats 2000000 in
set_option maxRecDepth 10000 in
theorem c_ListTreeD (n : Nat) (ts : List TreeD) (K : Option Addr) (m c5 : Nat) (w : World) (lo : Nat) (h : C_Tree (n + 1) lo w.heap.size w (lstD ts) [.int .i64 5, .bool false, .int .i64 0, .string ⟨#[]⟩, .slice none 0 0, .slice K m c5]) (hn : nTree (n + 1) (lstD ts) ≤ 1048576) :
    Calls Tryz.prog 27 #[.slice K m c5] w fun e w' => ∃ cs', e = .returned (.agg cs'.toArray) ∧ OwnT (n + 1) (fun b => w.heap.size ≤ b ∧ b < w'.heap.size) w' (lstD ts) cs' ∧ Below w.heap.size w w' := by
  go_enter Tryz.func27, Tryz.ntmps27
  go_wp2_with fail
  refine (all_l08 (n + 1) (lstD ts) _ _ lo (h.now bel) hn).mono ?_
  rintro e w1 ⟨cs1, rfl, hO, hb⟩
  obtain ⟨A4, c4, A5, c6, rfl, -⟩ := hO.flat
  have Z := (hb.block w.heap.size (by simp)).trans (heap_at (by simp))
  have hl := row_lt Z
  obtain ⟨x0, x1, x2, x3, x4, x5, xf⟩ := row6 Z
  have HO := Lib.hid hO
  have Bw : Below w.heap.size w w1 := Below.trans bel (hb.mono (by simp))
  clear Z hO hb
  go_wp2_with fail
  refine bodyPost_ret (v := .agg #[.int .i64 (lstD ts).kind, .bool (lstD ts).flag, .int .i64 (lstD ts).num, .string (lstD ts).text, .slice A4 (lstD ts).keys.length c4, .slice A5 (lstD ts).kids.length c6]) (by simp only [results, Tryz.results27]; go_simp) rfl ⟨_, rfl, HO.out.carry (fun b hb => Aside.block (S := fun b => b = w.heap.size) (w := w1) (by repeat (first | (with_reducible exact Aside.refl _ _) | ((with_reducible refine aside_set ?_ ?_); (focus (simp; done))) | (with_reducible refine aside_alloc ?_))) b hb.2 (by have := hb.1; simp at this; omega)) (fun b hb => by simp at hb ⊢; omega), Bw.trans (Aside.below (S := fun b => b = w.heap.size) (by repeat (first | (with_reducible exact Aside.refl _ _) | ((with_reducible refine aside_set ?_ ?_); (focus (simp; done))) | (with_reducible refine aside_alloc ?_))) Bw.size (fun i hi => by omega))⟩
theorem nL_le {D : Type} (f : D → Nat) (B : Nat) : ∀ (l : List D), (∀ x ∈ l, f x ≤ B) → nL f l ≤ l.length * (B + 1)
  | [], _ => by rw [nL_def]; simp [szL]
  | x :: l, h => by
    have ih := nL_le f B l (fun y hy => h y (by simp [hy]))
    have hx := h x (by simp)
    rw [nL_def] at ih ⊢
    simp only [List.length_cons, szL, Nat.succ_mul]
    omega
theorem nTree_pairT (n : Nat) (ks ts : List ByteArray) (hk : ∀ x ∈ ks, x.size ≤ 40) (ht : ∀ x ∈ ts, x.size ≤ 40) (h1 : ks.length ≤ 4) (h2 : ts.length ≤ 4) : nTree (n + 2) (pairT ks ts) ≤ 400 := by
  rw [nTree_succ]
  have e1 := nL_le ByteArray.size 40 ks hk
  have e2 := nL_le (nTree (n + 1)) 40 (ts.map leafD) (by
    intro x hx
    obtain ⟨t, h3, rfl⟩ := List.mem_map.1 hx
    rw [nTree_leaf]
    exact ht t h3)
  rw [List.length_map] at e2
  show (⟨#[]⟩ : ByteArray).size + nL ByteArray.size ks + nL (nTree (n + 1)) (ts.map leafD) ≤ 400
  have e3 : (⟨#[]⟩ : ByteArray).size = 0 := rfl
  have e4 : ks.length * 41 ≤ 4 * 41 := Nat.mul_le_mul_right _ h1
  have e5 : ts.length * 41 ≤ 4 * 41 := Nat.mul_le_mul_right _ h2
  omega
theorem nTree_none (n : Nat) : nTree (n + 1) tree0 ≤ 400 := by
  rw [nTree_succ]
  show (⟨#[]⟩ : ByteArray).size + nL ByteArray.size [] + nL (nTree n) [] ≤ 400
  simp [nL_def, szL]
  decide
theorem lk_size {s : ByteArray} (h : lkB s = true) : s.size ≤ 40 := by
  unfold lkB at h
  simp only [Bool.and_eq_true, decide_eq_true_eq] at h
  omega
theorem lv_size {s : ByteArray} (h : lvB s = true) : s.size ≤ 40 := by
  unfold lvB at h
  simp only [Bool.or_eq_true, Bool.and_eq_true, decide_eq_true_eq] at h
  rcases h with h | h
  · have : s.size = 0 := by
      have h9 := List.isEmpty_iff.1 h
      rw [Lib.toList_data] at h9
      have : s.data.toList.length = 0 := by rw [h9]; rfl
      rw [Array.length_toList] at this
      exact this
    omega
  · omega
theorem eff_size40 (x : Int) : (effW x).size ≤ 40 := by unfold effW; split <;> decide
theorem nTree_taint (n : Nat) (d : Taint) : nTree (n + 2) (taintTD d) ≤ 400 := by
  unfold taintTD taintT
  split
  · rename_i h
    unfold taintB at h
    simp only [Bool.and_eq_true] at h
    have a1 := lk_size h.1.1
    have a2 := lv_size h.1.2
    have a3 := eff_size40 d.effect
    refine nTree_pairT n _ _ ?_ ?_ ?_ ?_
    · intro x hx
      unfold optL at hx
      split at hx <;> simp at hx
      · rcases hx with rfl | rfl | rfl <;> decide
      · rcases hx with rfl | rfl <;> decide
    · intro x hx
      unfold optL at hx
      split at hx <;> simp at hx
      · rcases hx with rfl | rfl | rfl <;> assumption
      · rcases hx with rfl | rfl <;> assumption
    · unfold optL; split <;> simp
    · unfold optL; split <;> simp
  · exact nTree_none (n + 1)
theorem nTree_lst {n B : Nat} {ts : List TreeD} (h : ∀ t ∈ ts, nTree n t ≤ B) (hl : ts.length ≤ 4) (hB : B ≤ 1000) : nTree (n + 1) (lstD ts) ≤ 1048576 := by
  rw [nTree_succ]
  have e1 := nL_le (nTree n) B ts h
  show (⟨#[]⟩ : ByteArray).size + nL ByteArray.size [] + nL (nTree n) ts ≤ 1048576
  have e2 : nL ByteArray.size [] = 0 := rfl
  have e3 : (⟨#[]⟩ : ByteArray).size = 0 := rfl
  have e4 : ts.length * (B + 1) ≤ 4 * (B + 1) := Nat.mul_le_mul_right _ hl
  omega
end Go.Proofs.YteecgklmdfockaaGreatDoor
namespace Go.Proofs.YteecgklmdfockaaGreatDoor
open Go.RowKit
def nLabel (d : Label) : Nat := d.key.size + d.value.size
theorem c_laws_szLabel (d : Label) (cs : List Value) (left : Int) (w : World) (h : C_Label d cs) (h3 : 0 ≤ left) (h4 : left ≤ 1048576) :
    Calls Tryz.prog 62 #[.agg cs.toArray, .int .i64 left] w fun e w' => e = .returned (.int .i64 (szI left (nLabel d))) ∧ Below w.heap.size w w' := by
  obtain ⟨rfl, a0, a1⟩ := h
  by_cases g_key : left - (d.key.size : Nat) < 0
  · have Hf := Lib.hid (show szI left (nLabel d) = -1 by unfold nLabel szI; rw [if_neg (by omega)])
    go_enter Tryz.func62, Tryz.ntmps62
    go_wp2_with fail
    go_ret
    exact ⟨ret_int Hf.out.symm, bel⟩
  by_cases g_value : left - (d.key.size : Nat) - (d.value.size : Nat) < 0
  · have Hf := Lib.hid (show szI left (nLabel d) = -1 by unfold nLabel szI; rw [if_neg (by omega)])
    go_enter Tryz.func62, Tryz.ntmps62
    go_wp2_with fail
    go_ret
    exact ⟨ret_int Hf.out.symm, bel⟩
  have Hf := Lib.hid (show szI left (nLabel d) = left - (d.key.size : Nat) - (d.value.size : Nat) by unfold nLabel szI; rw [if_pos (by omega)]; omega)
  go_enter Tryz.func62, Tryz.ntmps62
  go_wp2_with fail
  go_ret
  exact ⟨ret_int Hf.out.symm, bel⟩
theorem c_laws_toLabel (d : Label) (cs : List Value) (w : World) (h : C_Label d cs) :
    Calls Tryz.prog 75 #[.agg cs.toArray] w fun e w' => e = .returned (.agg cs.toArray) ∧ Below w.heap.size w w' := by
  obtain ⟨rfl, a0, a1⟩ := h
  go_enter Tryz.func75, Tryz.ntmps75
  go_wp2_with fail
  exact bodyPost_ret (v := .agg #[.string d.key, .string d.value]) (by simp [results, Tryz.results75, go_sem]) rfl ⟨rfl, bel⟩
theorem c_laws_eqLabel (d : Label) (cs cs' : List Value) (w : World) (h : C_Label d cs) (h' : C_Label d cs') :
    Calls Tryz.prog 86 #[.agg cs.toArray, .agg cs'.toArray] w fun e w' => e = .returned (.bool true) ∧ Below w.heap.size w w' := by
  obtain ⟨rfl, a0, a1⟩ := h
  obtain ⟨rfl, za0, za1⟩ := h'
  go_enter Tryz.func86, Tryz.ntmps86
  go_wp2_with fail
  go_ret
  exact ⟨rfl, bel⟩
theorem c_laws_szLabelS (l : List Label) (v : Value) (left : Int) (w : World) (lo : Nat) (hs : Sl_Label lo w.heap.size w l v) (h3 : 0 ≤ left) (h4 : left ≤ 1048576) :
    Calls Tryz.prog 20 #[v, .int .i64 left] w fun e w' => e = .returned (.int .i64 (szI left (nL nLabel l))) ∧ Below w.heap.size w w' := by
  obtain ⟨A, c, rfl, hlc, hc, hA⟩ := hs
  by_cases hlt : left - l.length < 0
  · have Hf := Lib.hid (show szI left (nL nLabel l) = -1 by rw [nL_def]; unfold szI; rw [if_neg (by omega)])
    go_enter Tryz.func20, Tryz.ntmps20
    go_wp2_with fail
    go_ret
    exact ⟨ret_int Hf.out.symm, bel⟩
  · go_enter Tryz.func20, Tryz.ntmps20
    go_wp2_with fail
    go_loopw [1, 5] (fun x i wr => ∃ k : Nat, k ≤ l.length ∧ i = .int .i64 k ∧ x = .int .i64 (left - l.length - szL nLabel (l.take k)) ∧ 0 ≤ left - l.length - szL nLabel (l.take k) ∧ Below w.heap.size w wr) (fun _ i _ => l.length - (intOf i).toNat)
    case atStart => exact ⟨0, Nat.zero_le _, rfl, by simp [szL], by simp [szL]; omega, bel⟩
    case round =>
      obtain ⟨k, hk, rfl, rfl, hge, hbr⟩ := hrel
      by_cases hlt : k < l.length
      · obtain ⟨b, o, rfl, -, hb2, hcell⟩ := hA (by omega)
        obtain ⟨d, hd⟩ := exists_at hlt
        obtain ⟨cs, -, hcs, hC⟩ := hcell k d hd
        have hC' := hC
        obtain ⟨rfl, ea0, ea1⟩ := hC'
        have hc0 := (hbr.cell (p := ⟨b, o + k * 2 + 0, none⟩) (by simp; omega)).trans (hcs 0 (by omega))
        simp at hc0
        have hc1 := (hbr.cell (p := ⟨b, o + k * 2 + 1, none⟩) (by simp; omega)).trans (hcs 1 (by omega))
        simp at hc1
        clear hcs hcell hA
        have Hs := Lib.hid (szL_take_succ nLabel l k d hd)
        have hle := szL_take_le nLabel l (k+1)
        by_cases hneg : left - l.length - szL nLabel (l.take k) - nLabel d < 0
        · have hz : szI (left - l.length - szL nLabel (l.take k)) (nLabel d) = -1 := szI_neg (by omega)
          have Hf := Lib.hid (show szI left (nL nLabel l) = -1 by rw [nL_def]; unfold szI; have := Hs.out; rw [if_neg (by omega)])
          go_wp2_with (go_at_call 62; refine (c_laws_szLabel d _ _ _ hC (by omega) (by omega)).mono ?_; rintro e w1 ⟨rfl, hb⟩; (first | (have hcu2 := Cum.join hcu hb; (try clear hcu); (try clear hc); (try clear hfz); (try clear hsz); (try clear hs0); (try clear hs1); (try clear hs2); (try clear hs3); (try clear hs4); ) | have hcu2 := Cum.mk hb); have hcu := hcu2; clear hcu2; obtain ⟨hc, hfz⟩ := bcell hcu.h; have hsz := hcu.h.size; (try simp at hsz); (try have hs0 := lt_of_succ_le hsz); (try (have hs1 := lt_pred hsz; (try (have hs2 := lt_pred hs1; (try (have hs3 := lt_pred hs2; (try have hs4 := lt_pred hs3))))))))
          go_ret
          exact ⟨ret_int Hf.out.symm, bel⟩
        · have hz : szI (left - l.length - szL nLabel (l.take k)) (nLabel d) = left - l.length - szL nLabel (l.take k) - nLabel d := szI_pos (by omega)
          go_wp2_with (go_at_call 62; refine (c_laws_szLabel d _ _ _ hC (by omega) (by omega)).mono ?_; rintro e w1 ⟨rfl, hb⟩; (first | (have hcu2 := Cum.join hcu hb; (try clear hcu); (try clear hc); (try clear hfz); (try clear hsz); (try clear hs0); (try clear hs1); (try clear hs2); (try clear hs3); (try clear hs4); ) | have hcu2 := Cum.mk hb); have hcu := hcu2; clear hcu2; obtain ⟨hc, hfz⟩ := bcell hcu.h; have hsz := hcu.h.size; (try simp at hsz); (try have hs0 := lt_of_succ_le hsz); (try (have hs1 := lt_pred hsz; (try (have hs2 := lt_pred hs1; (try (have hs3 := lt_pred hs2; (try have hs4 := lt_pred hs3))))))))
          go_roundw
          case rel => exact ⟨k + 1, by omega, by go_num, by rw [Hs.out]; go_num, by rw [Hs.out]; omega, bel⟩
          case measure => simp [intOf]; omega
      · obtain rfl : k = l.length := by omega
        rw [List.take_length] at *
        have Hf := Lib.hid (show szI left (nL nLabel l) = left - l.length - szL nLabel l by rw [nL_def]; unfold szI; rw [if_pos (by omega)]; omega)
        clear hA
        go_wp2_with fail
        go_ret
        exact ⟨ret_int Hf.out.symm, bel⟩
theorem c_laws_toLabelS (l : List Label) (v : Value) (w : World) (lo : Nat) (hs : Sl_Label lo w.heap.size w l v) (hn : l.length ≤ 1048576) :
    Calls Tryz.prog 28 #[v] w fun e w' => ∃ A c, e = .returned (.slice A l.length c) ∧ Sl_Label w.heap.size w'.heap.size w' l (.slice A l.length c) ∧ Below w.heap.size w w' := by
  obtain ⟨A, c, rfl, hlc, hc, hA⟩ := hs
  have hmk := run_make_slice (P := Tryz.prog) (z := .agg #[.string ⟨#[]⟩, .string ⟨#[]⟩]) (size := 2) (bytes := 32) Tryz.underlying32 (by kernel_rfl) l.length (by omega) (by omega)
  go_enter Tryz.func28, Tryz.ntmps28
  go_wp2_with fail
  go_loopw [4] (fun i wr => ∃ (k : Nat) (cs : Array Value), k ≤ l.length ∧ i = .int .i64 k ∧ Below w.heap.size w wr ∧ wr.heap[w.heap.size]? = some (.cells cs 111 (0, 0)) ∧ Part (C_Label) 2 l k cs) (fun i _ => l.length - (intOf i).toNat)
  case atStart => exact ⟨0, _, Nat.zero_le _, rfl, bel, heap_alloc_new _ _, Part.zero (by simp [size_madeCells])⟩
  case round =>
    obtain ⟨k, cs, hk, rfl, hbr, hg, hp⟩ := hrel
    by_cases hlt : k < l.length
    · obtain ⟨b, o, rfl, -, hb2, hcell⟩ := hA (by omega)
      obtain ⟨d, hd⟩ := exists_at hlt
      obtain ⟨es, -, hcs, hC⟩ := hcell k d hd
      have hC' := hC
      obtain ⟨rfl, ea0, ea1⟩ := hC'
      have hc0 := (hbr.cell (p := ⟨b, o + k * 2 + 0, none⟩) (by simp; omega)).trans (hcs 0 (by omega))
      simp at hc0
      have hc1 := (hbr.cell (p := ⟨b, o + k * 2 + 1, none⟩) (by simp; omega)).trans (hcs 1 (by omega))
      simp at hc1
      obtain ⟨x0, hx0⟩ := row_cell hg (o := k * 2 + 0) (by rw [hp.1]; omega)
      have hf0 := frozen_row hg (k * 2 + 0)
      rw [Nat.add_zero] at hx0 hf0
      obtain ⟨x1, hx1⟩ := row_cell hg (o := k * 2 + 1) (by rw [hp.1]; omega)
      have hf1 := frozen_row hg (k * 2 + 1)
      have hgl := row_lt hg
      clear hcs hcell hA
      go_wp2_with (go_at_call 75; refine (c_laws_toLabel d _ _ hC).mono ?_; rintro e w1 ⟨rfl, hb⟩; (first | (have hcu2 := Cum.join hcu hb; (try clear hcu); (try clear hc); (try clear hfz); (try clear hsz); (try clear hs0); (try clear hs1); (try clear hs2); (try clear hs3); (try clear hs4); ) | have hcu2 := Cum.mk hb); have hcu := hcu2; clear hcu2; obtain ⟨hc, hfz⟩ := bcell hcu.h; have hsz := hcu.h.size; (try simp at hsz); (try have hs0 := lt_of_succ_le hsz); (try (have hs1 := lt_pred hsz; (try (have hs2 := lt_pred hs1; (try (have hs3 := lt_pred hs2; (try have hs4 := lt_pred hs3))))))))
      go_roundw
      case rel => exact ⟨k + 1, putAt cs (k * 2) [.string d.key, .string d.value], by omega, by go_num, bel, heap_putCells [.string d.key, .string d.value] _ _ _ _ _ ((hb.block _ hgl).trans hg), hp.store hd rfl hC⟩
      case measure => simp [intOf]; omega
    · obtain rfl : k = l.length := by omega
      clear hA
      go_wp2_with fail
      go_ret
      exact ⟨_, _, rfl, SlOf.of_part hp hg (Nat.le_refl _) (row_lt hg) (Nat.le_refl _) (by omega), bel⟩
theorem c_laws_eqLabelS (l : List Label) (va vb : Value) (w : World) (lo lo' : Nat) (ha : Sl_Label lo w.heap.size w l va) (hb : Sl_Label lo' w.heap.size w l vb) :
    Calls Tryz.prog 38 #[va, vb] w fun e w' => e = .returned (.bool true) ∧ Below w.heap.size w w' := by
  obtain ⟨A, c, rfl, hlc, hc, hA⟩ := ha
  obtain ⟨B, c', rfl, hlc', hc', hB⟩ := hb
  go_enter Tryz.func38, Tryz.ntmps38
  go_wp2_with fail
  go_loopw [5] (fun i wr => ∃ k : Nat, k ≤ l.length ∧ i = .int .i64 k ∧ Below w.heap.size w wr) (fun i _ => l.length - (intOf i).toNat)
  case atStart => exact ⟨0, Nat.zero_le _, rfl, bel⟩
  case round =>
    obtain ⟨k, hk, rfl, hbr⟩ := hrel
    by_cases hlt : k < l.length
    · obtain ⟨b, o, rfl, -, hb2, hcell⟩ := hA (by omega)
      obtain ⟨b', o', rfl, -, hb2', hcell'⟩ := hB (by omega)
      obtain ⟨d, hd⟩ := exists_at hlt
      obtain ⟨es, -, hcs, hC⟩ := hcell k d hd
      obtain ⟨es', -, hcs', hD⟩ := hcell' k d hd
      have hC' := hC
      have hD' := hD
      obtain ⟨rfl, ea0, ea1⟩ := hC'
      obtain ⟨rfl, fa0, fa1⟩ := hD'
      have hc0 := (hbr.cell (p := ⟨b, o + k * 2 + 0, none⟩) (by simp; omega)).trans (hcs 0 (by omega))
      simp at hc0
      have hc1 := (hbr.cell (p := ⟨b, o + k * 2 + 1, none⟩) (by simp; omega)).trans (hcs 1 (by omega))
      simp at hc1
      have hd0 := (hbr.cell (p := ⟨b', o' + k * 2 + 0, none⟩) (by simp; omega)).trans (hcs' 0 (by omega))
      simp at hd0
      have hd1 := (hbr.cell (p := ⟨b', o' + k * 2 + 1, none⟩) (by simp; omega)).trans (hcs' 1 (by omega))
      simp at hd1
      have hk0 : (0 : Int) ≤ k := by omega
      have hk1 : (k : Int) < l.length := by omega
      have hbl : b < wr.heap.size := Nat.lt_of_lt_of_le hb2 hbr.size
      have hbl' : b' < wr.heap.size := Nat.lt_of_lt_of_le hb2' hbr.size
      clear hcs hcell hA hcs' hcell' hB hd
      go_wp2_with fail
      go_region_held3 (fun w' => Below (wr).heap.size (wr) w' ∧ (∀ xb xo, xb < (wr).heap.size → w'.cell? ⟨xb, xo, none⟩ = (wr).cell? ⟨xb, xo, none⟩)) (first | exact keep_drew _ | exact keep_ext (by assumption) (by assumption) | exact keep_same (by assumption) | exact keep_alloc (by assumption) _) (first | (go_at_call 86; refine (c_laws_eqLabel d _ _ _ hC hD).mono ?_; rintro e w9 ⟨rfl, hb9⟩))
      (have hb := held_step (by assumption); (first | (have hcu2 := Cum.join hcu hb; (try clear hcu); (try clear hc); (try clear hfz); (try clear hsz); (try clear hs0); (try clear hs1); (try clear hs2); (try clear hs3); (try clear hs4); ) | have hcu2 := Cum.mk hb); have hcu := hcu2; clear hcu2; obtain ⟨hc, hfz⟩ := bcell hcu.h; have hsz := hcu.h.size; (try simp at hsz); (try have hs0 := lt_of_succ_le hsz); (try (have hs1 := lt_pred hsz; (try (have hs2 := lt_pred hs1; (try (have hs3 := lt_pred hs2; (try have hs4 := lt_pred hs3))))))))
      go_wp2_with fail
      go_roundw
      case rel => exact ⟨k + 1, by omega, by go_num, bel⟩
      case measure => simp [intOf]; omega
    · obtain rfl : k = l.length := by omega
      clear hA hB
      go_wp2_with fail
      go_ret
      exact ⟨rfl, bel⟩
end Go.Proofs.YteecgklmdfockaaGreatDoor
namespace Go.Proofs.YteecgklmdfockaaGreatDoor
open Go.RowKit
def nTaint (d : Taint) : Nat := d.key.size + d.value.size
theorem c_laws_szTaint (d : Taint) (cs : List Value) (left : Int) (w : World) (h : C_Taint d cs) (h3 : 0 ≤ left) (h4 : left ≤ 1048576) :
    Calls Tryz.prog 63 #[.agg cs.toArray, .int .i64 left] w fun e w' => e = .returned (.int .i64 (szI left (nTaint d))) ∧ Below w.heap.size w w' := by
  obtain ⟨rfl, a0, a1, a2⟩ := h
  unfold I64 at a2
  by_cases g_key : left - (d.key.size : Nat) < 0
  · have Hf := Lib.hid (show szI left (nTaint d) = -1 by unfold nTaint szI; rw [if_neg (by omega)])
    go_enter Tryz.func63, Tryz.ntmps63
    go_wp2_with fail
    go_ret
    exact ⟨ret_int Hf.out.symm, bel⟩
  by_cases g_value : left - (d.key.size : Nat) - (d.value.size : Nat) < 0
  · have Hf := Lib.hid (show szI left (nTaint d) = -1 by unfold nTaint szI; rw [if_neg (by omega)])
    go_enter Tryz.func63, Tryz.ntmps63
    go_wp2_with fail
    go_ret
    exact ⟨ret_int Hf.out.symm, bel⟩
  have Hf := Lib.hid (show szI left (nTaint d) = left - (d.key.size : Nat) - (d.value.size : Nat) by unfold nTaint szI; rw [if_pos (by omega)]; omega)
  go_enter Tryz.func63, Tryz.ntmps63
  go_wp2_with fail
  go_ret
  exact ⟨ret_int Hf.out.symm, bel⟩
theorem c_laws_toTaint (d : Taint) (cs : List Value) (w : World) (h : C_Taint d cs) :
    Calls Tryz.prog 76 #[.agg cs.toArray] w fun e w' => e = .returned (.agg cs.toArray) ∧ Below w.heap.size w w' := by
  obtain ⟨rfl, a0, a1, a2⟩ := h
  unfold I64 at a2
  go_enter Tryz.func76, Tryz.ntmps76
  go_wp2_with fail
  exact bodyPost_ret (v := .agg #[.string d.key, .string d.value, .int .i64 d.effect]) (by simp [results, Tryz.results76, go_sem]) rfl ⟨rfl, bel⟩
theorem c_laws_eqTaint (d : Taint) (cs cs' : List Value) (w : World) (h : C_Taint d cs) (h' : C_Taint d cs') :
    Calls Tryz.prog 87 #[.agg cs.toArray, .agg cs'.toArray] w fun e w' => e = .returned (.bool true) ∧ Below w.heap.size w w' := by
  obtain ⟨rfl, a0, a1, a2⟩ := h
  unfold I64 at a2
  obtain ⟨rfl, za0, za1, za2⟩ := h'
  unfold I64 at za2
  go_enter Tryz.func87, Tryz.ntmps87
  go_wp2_with fail
  go_ret
  exact ⟨rfl, bel⟩
theorem c_laws_szTaintS (l : List Taint) (v : Value) (left : Int) (w : World) (lo : Nat) (hs : Sl_Taint lo w.heap.size w l v) (h3 : 0 ≤ left) (h4 : left ≤ 1048576) :
    Calls Tryz.prog 21 #[v, .int .i64 left] w fun e w' => e = .returned (.int .i64 (szI left (nL nTaint l))) ∧ Below w.heap.size w w' := by
  obtain ⟨A, c, rfl, hlc, hc, hA⟩ := hs
  by_cases hlt : left - l.length < 0
  · have Hf := Lib.hid (show szI left (nL nTaint l) = -1 by rw [nL_def]; unfold szI; rw [if_neg (by omega)])
    go_enter Tryz.func21, Tryz.ntmps21
    go_wp2_with fail
    go_ret
    exact ⟨ret_int Hf.out.symm, bel⟩
  · go_enter Tryz.func21, Tryz.ntmps21
    go_wp2_with fail
    go_loopw [1, 5] (fun x i wr => ∃ k : Nat, k ≤ l.length ∧ i = .int .i64 k ∧ x = .int .i64 (left - l.length - szL nTaint (l.take k)) ∧ 0 ≤ left - l.length - szL nTaint (l.take k) ∧ Below w.heap.size w wr) (fun _ i _ => l.length - (intOf i).toNat)
    case atStart => exact ⟨0, Nat.zero_le _, rfl, by simp [szL], by simp [szL]; omega, bel⟩
    case round =>
      obtain ⟨k, hk, rfl, rfl, hge, hbr⟩ := hrel
      by_cases hlt : k < l.length
      · obtain ⟨b, o, rfl, -, hb2, hcell⟩ := hA (by omega)
        obtain ⟨d, hd⟩ := exists_at hlt
        obtain ⟨cs, -, hcs, hC⟩ := hcell k d hd
        have hC' := hC
        obtain ⟨rfl, ea0, ea1, ea2⟩ := hC'
        have hc0 := (hbr.cell (p := ⟨b, o + k * 3 + 0, none⟩) (by simp; omega)).trans (hcs 0 (by omega))
        simp at hc0
        have hc1 := (hbr.cell (p := ⟨b, o + k * 3 + 1, none⟩) (by simp; omega)).trans (hcs 1 (by omega))
        simp at hc1
        have hc2 := (hbr.cell (p := ⟨b, o + k * 3 + 2, none⟩) (by simp; omega)).trans (hcs 2 (by omega))
        simp at hc2
        clear hcs hcell hA
        have Hs := Lib.hid (szL_take_succ nTaint l k d hd)
        have hle := szL_take_le nTaint l (k+1)
        by_cases hneg : left - l.length - szL nTaint (l.take k) - nTaint d < 0
        · have hz : szI (left - l.length - szL nTaint (l.take k)) (nTaint d) = -1 := szI_neg (by omega)
          have Hf := Lib.hid (show szI left (nL nTaint l) = -1 by rw [nL_def]; unfold szI; have := Hs.out; rw [if_neg (by omega)])
          go_wp2_with (go_at_call 63; refine (c_laws_szTaint d _ _ _ hC (by omega) (by omega)).mono ?_; rintro e w1 ⟨rfl, hb⟩; (first | (have hcu2 := Cum.join hcu hb; (try clear hcu); (try clear hc); (try clear hfz); (try clear hsz); (try clear hs0); (try clear hs1); (try clear hs2); (try clear hs3); (try clear hs4); ) | have hcu2 := Cum.mk hb); have hcu := hcu2; clear hcu2; obtain ⟨hc, hfz⟩ := bcell hcu.h; have hsz := hcu.h.size; (try simp at hsz); (try have hs0 := lt_of_succ_le hsz); (try (have hs1 := lt_pred hsz; (try (have hs2 := lt_pred hs1; (try (have hs3 := lt_pred hs2; (try have hs4 := lt_pred hs3))))))))
          go_ret
          exact ⟨ret_int Hf.out.symm, bel⟩
        · have hz : szI (left - l.length - szL nTaint (l.take k)) (nTaint d) = left - l.length - szL nTaint (l.take k) - nTaint d := szI_pos (by omega)
          go_wp2_with (go_at_call 63; refine (c_laws_szTaint d _ _ _ hC (by omega) (by omega)).mono ?_; rintro e w1 ⟨rfl, hb⟩; (first | (have hcu2 := Cum.join hcu hb; (try clear hcu); (try clear hc); (try clear hfz); (try clear hsz); (try clear hs0); (try clear hs1); (try clear hs2); (try clear hs3); (try clear hs4); ) | have hcu2 := Cum.mk hb); have hcu := hcu2; clear hcu2; obtain ⟨hc, hfz⟩ := bcell hcu.h; have hsz := hcu.h.size; (try simp at hsz); (try have hs0 := lt_of_succ_le hsz); (try (have hs1 := lt_pred hsz; (try (have hs2 := lt_pred hs1; (try (have hs3 := lt_pred hs2; (try have hs4 := lt_pred hs3))))))))
          go_roundw
          case rel => exact ⟨k + 1, by omega, by go_num, by rw [Hs.out]; go_num, by rw [Hs.out]; omega, bel⟩
          case measure => simp [intOf]; omega
      · obtain rfl : k = l.length := by omega
        rw [List.take_length] at *
        have Hf := Lib.hid (show szI left (nL nTaint l) = left - l.length - szL nTaint l by rw [nL_def]; unfold szI; rw [if_pos (by omega)]; omega)
        clear hA
        go_wp2_with fail
        go_ret
        exact ⟨ret_int Hf.out.symm, bel⟩
theorem c_laws_toTaintS (l : List Taint) (v : Value) (w : World) (lo : Nat) (hs : Sl_Taint lo w.heap.size w l v) (hn : l.length ≤ 1048576) :
    Calls Tryz.prog 29 #[v] w fun e w' => ∃ A c, e = .returned (.slice A l.length c) ∧ Sl_Taint w.heap.size w'.heap.size w' l (.slice A l.length c) ∧ Below w.heap.size w w' := by
  obtain ⟨A, c, rfl, hlc, hc, hA⟩ := hs
  have hmk := run_make_slice (P := Tryz.prog) (z := .agg #[.string ⟨#[]⟩, .string ⟨#[]⟩, .int .i64 0]) (size := 3) (bytes := 40) Tryz.underlying33 (by kernel_rfl) l.length (by omega) (by omega)
  go_enter Tryz.func29, Tryz.ntmps29
  go_wp2_with fail
  go_loopw [4] (fun i wr => ∃ (k : Nat) (cs : Array Value), k ≤ l.length ∧ i = .int .i64 k ∧ Below w.heap.size w wr ∧ wr.heap[w.heap.size]? = some (.cells cs 64 (0, 0)) ∧ Part (C_Taint) 3 l k cs) (fun i _ => l.length - (intOf i).toNat)
  case atStart => exact ⟨0, _, Nat.zero_le _, rfl, bel, heap_alloc_new _ _, Part.zero (by simp [size_madeCells])⟩
  case round =>
    obtain ⟨k, cs, hk, rfl, hbr, hg, hp⟩ := hrel
    by_cases hlt : k < l.length
    · obtain ⟨b, o, rfl, -, hb2, hcell⟩ := hA (by omega)
      obtain ⟨d, hd⟩ := exists_at hlt
      obtain ⟨es, -, hcs, hC⟩ := hcell k d hd
      have hC' := hC
      obtain ⟨rfl, ea0, ea1, ea2⟩ := hC'
      have hc0 := (hbr.cell (p := ⟨b, o + k * 3 + 0, none⟩) (by simp; omega)).trans (hcs 0 (by omega))
      simp at hc0
      have hc1 := (hbr.cell (p := ⟨b, o + k * 3 + 1, none⟩) (by simp; omega)).trans (hcs 1 (by omega))
      simp at hc1
      have hc2 := (hbr.cell (p := ⟨b, o + k * 3 + 2, none⟩) (by simp; omega)).trans (hcs 2 (by omega))
      simp at hc2
      obtain ⟨x0, hx0⟩ := row_cell hg (o := k * 3 + 0) (by rw [hp.1]; omega)
      have hf0 := frozen_row hg (k * 3 + 0)
      rw [Nat.add_zero] at hx0 hf0
      obtain ⟨x1, hx1⟩ := row_cell hg (o := k * 3 + 1) (by rw [hp.1]; omega)
      have hf1 := frozen_row hg (k * 3 + 1)
      obtain ⟨x2, hx2⟩ := row_cell hg (o := k * 3 + 2) (by rw [hp.1]; omega)
      have hf2 := frozen_row hg (k * 3 + 2)
      have hgl := row_lt hg
      clear hcs hcell hA
      go_wp2_with (go_at_call 76; refine (c_laws_toTaint d _ _ hC).mono ?_; rintro e w1 ⟨rfl, hb⟩; (first | (have hcu2 := Cum.join hcu hb; (try clear hcu); (try clear hc); (try clear hfz); (try clear hsz); (try clear hs0); (try clear hs1); (try clear hs2); (try clear hs3); (try clear hs4); ) | have hcu2 := Cum.mk hb); have hcu := hcu2; clear hcu2; obtain ⟨hc, hfz⟩ := bcell hcu.h; have hsz := hcu.h.size; (try simp at hsz); (try have hs0 := lt_of_succ_le hsz); (try (have hs1 := lt_pred hsz; (try (have hs2 := lt_pred hs1; (try (have hs3 := lt_pred hs2; (try have hs4 := lt_pred hs3))))))))
      go_roundw
      case rel => exact ⟨k + 1, putAt cs (k * 3) [.string d.key, .string d.value, .int .i64 d.effect], by omega, by go_num, bel, heap_putCells [.string d.key, .string d.value, .int .i64 d.effect] _ _ _ _ _ ((hb.block _ hgl).trans hg), hp.store hd rfl hC⟩
      case measure => simp [intOf]; omega
    · obtain rfl : k = l.length := by omega
      clear hA
      go_wp2_with fail
      go_ret
      exact ⟨_, _, rfl, SlOf.of_part hp hg (Nat.le_refl _) (row_lt hg) (Nat.le_refl _) (by omega), bel⟩
theorem c_laws_eqTaintS (l : List Taint) (va vb : Value) (w : World) (lo lo' : Nat) (ha : Sl_Taint lo w.heap.size w l va) (hb : Sl_Taint lo' w.heap.size w l vb) :
    Calls Tryz.prog 39 #[va, vb] w fun e w' => e = .returned (.bool true) ∧ Below w.heap.size w w' := by
  obtain ⟨A, c, rfl, hlc, hc, hA⟩ := ha
  obtain ⟨B, c', rfl, hlc', hc', hB⟩ := hb
  go_enter Tryz.func39, Tryz.ntmps39
  go_wp2_with fail
  go_loopw [5] (fun i wr => ∃ k : Nat, k ≤ l.length ∧ i = .int .i64 k ∧ Below w.heap.size w wr) (fun i _ => l.length - (intOf i).toNat)
  case atStart => exact ⟨0, Nat.zero_le _, rfl, bel⟩
  case round =>
    obtain ⟨k, hk, rfl, hbr⟩ := hrel
    by_cases hlt : k < l.length
    · obtain ⟨b, o, rfl, -, hb2, hcell⟩ := hA (by omega)
      obtain ⟨b', o', rfl, -, hb2', hcell'⟩ := hB (by omega)
      obtain ⟨d, hd⟩ := exists_at hlt
      obtain ⟨es, -, hcs, hC⟩ := hcell k d hd
      obtain ⟨es', -, hcs', hD⟩ := hcell' k d hd
      have hC' := hC
      have hD' := hD
      obtain ⟨rfl, ea0, ea1, ea2⟩ := hC'
      obtain ⟨rfl, fa0, fa1, fa2⟩ := hD'
      have hc0 := (hbr.cell (p := ⟨b, o + k * 3 + 0, none⟩) (by simp; omega)).trans (hcs 0 (by omega))
      simp at hc0
      have hc1 := (hbr.cell (p := ⟨b, o + k * 3 + 1, none⟩) (by simp; omega)).trans (hcs 1 (by omega))
      simp at hc1
      have hc2 := (hbr.cell (p := ⟨b, o + k * 3 + 2, none⟩) (by simp; omega)).trans (hcs 2 (by omega))
      simp at hc2
      have hd0 := (hbr.cell (p := ⟨b', o' + k * 3 + 0, none⟩) (by simp; omega)).trans (hcs' 0 (by omega))
      simp at hd0
      have hd1 := (hbr.cell (p := ⟨b', o' + k * 3 + 1, none⟩) (by simp; omega)).trans (hcs' 1 (by omega))
      simp at hd1
      have hd2 := (hbr.cell (p := ⟨b', o' + k * 3 + 2, none⟩) (by simp; omega)).trans (hcs' 2 (by omega))
      simp at hd2
      have hk0 : (0 : Int) ≤ k := by omega
      have hk1 : (k : Int) < l.length := by omega
      have hbl : b < wr.heap.size := Nat.lt_of_lt_of_le hb2 hbr.size
      have hbl' : b' < wr.heap.size := Nat.lt_of_lt_of_le hb2' hbr.size
      clear hcs hcell hA hcs' hcell' hB hd
      go_wp2_with fail
      go_region_held3 (fun w' => Below (wr).heap.size (wr) w' ∧ (∀ xb xo, xb < (wr).heap.size → w'.cell? ⟨xb, xo, none⟩ = (wr).cell? ⟨xb, xo, none⟩)) (first | exact keep_drew _ | exact keep_ext (by assumption) (by assumption) | exact keep_same (by assumption) | exact keep_alloc (by assumption) _) (first | (go_at_call 87; refine (c_laws_eqTaint d _ _ _ hC hD).mono ?_; rintro e w9 ⟨rfl, hb9⟩))
      (have hb := held_step (by assumption); (first | (have hcu2 := Cum.join hcu hb; (try clear hcu); (try clear hc); (try clear hfz); (try clear hsz); (try clear hs0); (try clear hs1); (try clear hs2); (try clear hs3); (try clear hs4); ) | have hcu2 := Cum.mk hb); have hcu := hcu2; clear hcu2; obtain ⟨hc, hfz⟩ := bcell hcu.h; have hsz := hcu.h.size; (try simp at hsz); (try have hs0 := lt_of_succ_le hsz); (try (have hs1 := lt_pred hsz; (try (have hs2 := lt_pred hs1; (try (have hs3 := lt_pred hs2; (try have hs4 := lt_pred hs3))))))))
      go_wp2_with fail
      go_roundw
      case rel => exact ⟨k + 1, by omega, by go_num, bel⟩
      case measure => simp [intOf]; omega
    · obtain rfl : k = l.length := by omega
      clear hA hB
      go_wp2_with fail
      go_ret
      exact ⟨rfl, bel⟩
end Go.Proofs.YteecgklmdfockaaGreatDoor
namespace Go.Proofs.YteecgklmdfockaaGreatDoor
open Go.RowKit
def nHost (d : Host) : Nat := d.name.size + nL nLabel d.labels + nL nTaint d.taints
theorem C_Host.open {lo hi : Nat} {w : World} {d : Host} {cs : List Value} (h : C_Host lo hi w d cs) : ∃ A1 c1 A5 c5, cs = [.string d.name, .slice A1 d.labels.length c1, .int .i64 d.cpu, .int .i64 d.mem, .int .i64 d.slots, .slice A5 d.taints.length c5] := by
  obtain ⟨v1, v5, rfl, a0, a1, a2, a3, a4, a5⟩ := h
  obtain ⟨A1, c1, rfl⟩ := a1.form
  obtain ⟨A5, c5, rfl⟩ := a5.form
  exact ⟨A1, c1, A5, c5, rfl⟩
theorem c_laws_szHost (d : Host) (cs : List Value) (left : Int) (w : World) (lo : Nat) (h : C_Host lo w.heap.size w d cs) (h3 : 0 ≤ left) (h4 : left ≤ 1048576) :
    Calls Tryz.prog 5 #[.agg cs.toArray, .int .i64 left] w fun e w' => e = .returned (.int .i64 (szI left (nHost d))) ∧ Below w.heap.size w w' := by
  obtain ⟨v1, v5, rfl, a0, a1, a2, a3, a4, a5⟩ := h
  obtain ⟨A1, c1, rfl⟩ := a1.form
  obtain ⟨A5, c5, rfl⟩ := a5.form
  unfold I64 at a2
  unfold I64 at a3
  unfold I64 at a4
  by_cases g_name : left - (d.name.size : Nat) < 0
  · have Hf := Lib.hid (show szI left (nHost d) = -1 by unfold nHost szI; rw [if_neg (by omega)])
    go_enter Tryz.func5, Tryz.ntmps5
    go_wp2_with (first | (go_at_call 20; refine (c_laws_szLabelS _ _ _ _ _ (Sl_Label.now (by assumption) bel) (by omega) (by omega)).mono ?_; rintro e w1 ⟨rfl, hb⟩; (first | (have hcu2 := Cum.join hcu hb; (try clear hcu); (try clear hc); (try clear hfz); (try clear hsz); (try clear hs0); (try clear hs1); (try clear hs2); (try clear hs3); (try clear hs4); ) | have hcu2 := Cum.mk hb); have hcu := hcu2; clear hcu2; obtain ⟨hc, hfz⟩ := bcell hcu.h; have hsz := hcu.h.size; (try simp at hsz); (try have hs0 := lt_of_succ_le hsz); (try (have hs1 := lt_pred hsz; (try (have hs2 := lt_pred hs1; (try (have hs3 := lt_pred hs2; (try have hs4 := lt_pred hs3)))))))) | (go_at_call 21; refine (c_laws_szTaintS _ _ _ _ _ (Sl_Taint.now (by assumption) bel) (by omega) (by omega)).mono ?_; rintro e w1 ⟨rfl, hb⟩; (first | (have hcu2 := Cum.join hcu hb; (try clear hcu); (try clear hc); (try clear hfz); (try clear hsz); (try clear hs0); (try clear hs1); (try clear hs2); (try clear hs3); (try clear hs4); ) | have hcu2 := Cum.mk hb); have hcu := hcu2; clear hcu2; obtain ⟨hc, hfz⟩ := bcell hcu.h; have hsz := hcu.h.size; (try simp at hsz); (try have hs0 := lt_of_succ_le hsz); (try (have hs1 := lt_pred hsz; (try (have hs2 := lt_pred hs1; (try (have hs3 := lt_pred hs2; (try have hs4 := lt_pred hs3)))))))))
    go_ret
    exact ⟨ret_int Hf.out.symm, bel⟩
  by_cases g_labels : left - (d.name.size : Nat) - (nL nLabel d.labels : Nat) < 0
  · have Hf := Lib.hid (show szI left (nHost d) = -1 by unfold nHost szI; rw [if_neg (by omega)])
    have z_labels : szI (left - (d.name.size : Nat)) (nL nLabel d.labels) = -1 := szI_neg (by omega)
    go_enter Tryz.func5, Tryz.ntmps5
    go_wp2_with (first | (go_at_call 20; refine (c_laws_szLabelS _ _ _ _ _ (Sl_Label.now (by assumption) bel) (by omega) (by omega)).mono ?_; rintro e w1 ⟨rfl, hb⟩; (first | (have hcu2 := Cum.join hcu hb; (try clear hcu); (try clear hc); (try clear hfz); (try clear hsz); (try clear hs0); (try clear hs1); (try clear hs2); (try clear hs3); (try clear hs4); ) | have hcu2 := Cum.mk hb); have hcu := hcu2; clear hcu2; obtain ⟨hc, hfz⟩ := bcell hcu.h; have hsz := hcu.h.size; (try simp at hsz); (try have hs0 := lt_of_succ_le hsz); (try (have hs1 := lt_pred hsz; (try (have hs2 := lt_pred hs1; (try (have hs3 := lt_pred hs2; (try have hs4 := lt_pred hs3)))))))) | (go_at_call 21; refine (c_laws_szTaintS _ _ _ _ _ (Sl_Taint.now (by assumption) bel) (by omega) (by omega)).mono ?_; rintro e w1 ⟨rfl, hb⟩; (first | (have hcu2 := Cum.join hcu hb; (try clear hcu); (try clear hc); (try clear hfz); (try clear hsz); (try clear hs0); (try clear hs1); (try clear hs2); (try clear hs3); (try clear hs4); ) | have hcu2 := Cum.mk hb); have hcu := hcu2; clear hcu2; obtain ⟨hc, hfz⟩ := bcell hcu.h; have hsz := hcu.h.size; (try simp at hsz); (try have hs0 := lt_of_succ_le hsz); (try (have hs1 := lt_pred hsz; (try (have hs2 := lt_pred hs1; (try (have hs3 := lt_pred hs2; (try have hs4 := lt_pred hs3)))))))))
    go_ret
    exact ⟨ret_int Hf.out.symm, bel⟩
  have z_labels : szI (left - (d.name.size : Nat)) (nL nLabel d.labels) = left - (d.name.size : Nat) - (nL nLabel d.labels : Nat) := szI_pos (by omega)
  by_cases g_taints : left - (d.name.size : Nat) - (nL nLabel d.labels : Nat) - (nL nTaint d.taints : Nat) < 0
  · have Hf := Lib.hid (show szI left (nHost d) = -1 by unfold nHost szI; rw [if_neg (by omega)])
    have z_taints : szI (left - (d.name.size : Nat) - (nL nLabel d.labels : Nat)) (nL nTaint d.taints) = -1 := szI_neg (by omega)
    go_enter Tryz.func5, Tryz.ntmps5
    go_wp2_with (first | (go_at_call 20; refine (c_laws_szLabelS _ _ _ _ _ (Sl_Label.now (by assumption) bel) (by omega) (by omega)).mono ?_; rintro e w1 ⟨rfl, hb⟩; (first | (have hcu2 := Cum.join hcu hb; (try clear hcu); (try clear hc); (try clear hfz); (try clear hsz); (try clear hs0); (try clear hs1); (try clear hs2); (try clear hs3); (try clear hs4); ) | have hcu2 := Cum.mk hb); have hcu := hcu2; clear hcu2; obtain ⟨hc, hfz⟩ := bcell hcu.h; have hsz := hcu.h.size; (try simp at hsz); (try have hs0 := lt_of_succ_le hsz); (try (have hs1 := lt_pred hsz; (try (have hs2 := lt_pred hs1; (try (have hs3 := lt_pred hs2; (try have hs4 := lt_pred hs3)))))))) | (go_at_call 21; refine (c_laws_szTaintS _ _ _ _ _ (Sl_Taint.now (by assumption) bel) (by omega) (by omega)).mono ?_; rintro e w1 ⟨rfl, hb⟩; (first | (have hcu2 := Cum.join hcu hb; (try clear hcu); (try clear hc); (try clear hfz); (try clear hsz); (try clear hs0); (try clear hs1); (try clear hs2); (try clear hs3); (try clear hs4); ) | have hcu2 := Cum.mk hb); have hcu := hcu2; clear hcu2; obtain ⟨hc, hfz⟩ := bcell hcu.h; have hsz := hcu.h.size; (try simp at hsz); (try have hs0 := lt_of_succ_le hsz); (try (have hs1 := lt_pred hsz; (try (have hs2 := lt_pred hs1; (try (have hs3 := lt_pred hs2; (try have hs4 := lt_pred hs3)))))))))
    go_ret
    exact ⟨ret_int Hf.out.symm, bel⟩
  have z_taints : szI (left - (d.name.size : Nat) - (nL nLabel d.labels : Nat)) (nL nTaint d.taints) = left - (d.name.size : Nat) - (nL nLabel d.labels : Nat) - (nL nTaint d.taints : Nat) := szI_pos (by omega)
  have Hf := Lib.hid (show szI left (nHost d) = left - (d.name.size : Nat) - (nL nLabel d.labels : Nat) - (nL nTaint d.taints : Nat) by unfold nHost szI; rw [if_pos (by omega)]; omega)
  go_enter Tryz.func5, Tryz.ntmps5
  go_wp2_with (first | (go_at_call 20; refine (c_laws_szLabelS _ _ _ _ _ (Sl_Label.now (by assumption) bel) (by omega) (by omega)).mono ?_; rintro e w1 ⟨rfl, hb⟩; (first | (have hcu2 := Cum.join hcu hb; (try clear hcu); (try clear hc); (try clear hfz); (try clear hsz); (try clear hs0); (try clear hs1); (try clear hs2); (try clear hs3); (try clear hs4); ) | have hcu2 := Cum.mk hb); have hcu := hcu2; clear hcu2; obtain ⟨hc, hfz⟩ := bcell hcu.h; have hsz := hcu.h.size; (try simp at hsz); (try have hs0 := lt_of_succ_le hsz); (try (have hs1 := lt_pred hsz; (try (have hs2 := lt_pred hs1; (try (have hs3 := lt_pred hs2; (try have hs4 := lt_pred hs3)))))))) | (go_at_call 21; refine (c_laws_szTaintS _ _ _ _ _ (Sl_Taint.now (by assumption) bel) (by omega) (by omega)).mono ?_; rintro e w1 ⟨rfl, hb⟩; (first | (have hcu2 := Cum.join hcu hb; (try clear hcu); (try clear hc); (try clear hfz); (try clear hsz); (try clear hs0); (try clear hs1); (try clear hs2); (try clear hs3); (try clear hs4); ) | have hcu2 := Cum.mk hb); have hcu := hcu2; clear hcu2; obtain ⟨hc, hfz⟩ := bcell hcu.h; have hsz := hcu.h.size; (try simp at hsz); (try have hs0 := lt_of_succ_le hsz); (try (have hs1 := lt_pred hsz; (try (have hs2 := lt_pred hs1; (try (have hs3 := lt_pred hs2; (try have hs4 := lt_pred hs3)))))))))
  go_ret
  exact ⟨ret_int Hf.out.symm, bel⟩
set_option maxHeartbeats 1000000 in
theorem c_laws_toHost (d : Host) (cs : List Value) (w : World) (lo : Nat) (h : C_Host lo w.heap.size w d cs) (hn : nHost d ≤ 1048576) :
    Calls Tryz.prog 7 #[.agg cs.toArray] w fun e w' => ∃ cs', e = .returned (.agg cs'.toArray) ∧ C_Host w.heap.size w'.heap.size w' d cs' ∧ Below w.heap.size w w' := by
  obtain ⟨v1, v5, rfl, a0, a1, a2, a3, a4, a5⟩ := h
  obtain ⟨A1, c1, rfl⟩ := a1.form
  obtain ⟨A5, c5, rfl⟩ := a5.form
  unfold I64 at a2
  unfold I64 at a3
  unfold I64 at a4
  unfold nHost at hn
  have m1 : d.labels.length ≤ 1048576 := by have := nL_def nLabel d.labels; omega
  have m5 : d.taints.length ≤ 1048576 := by have := nL_def nTaint d.taints; omega
  go_enter Tryz.func7, Tryz.ntmps7
  go_wp2_with fail
  refine (c_laws_toLabelS _ _ _ _ (Sl_Label.now (by assumption) bel) (by omega)).mono ?_
  rintro e w1 ⟨B1, b1, rfl, r1, hb⟩
  (first | (have hcu2 := Cum.join hcu hb; (try clear hcu); (try clear hc); (try clear hfz); (try clear hsz); (try clear hs0); (try clear hs1); (try clear hs2); (try clear hs3); (try clear hs4); ) | have hcu2 := Cum.mk hb); have hcu := hcu2; clear hcu2; obtain ⟨hc, hfz⟩ := bcell hcu.h; have hsz := hcu.h.size; (try simp at hsz); (try have hs0 := lt_of_succ_le hsz); (try (have hs1 := lt_pred hsz; (try (have hs2 := lt_pred hs1; (try (have hs3 := lt_pred hs2; (try have hs4 := lt_pred hs3)))))))
  have st1 := hb.size
  (try simp at st1)
  go_wp2_with fail
  refine (c_laws_toTaintS _ _ _ _ (Sl_Taint.now (by assumption) bel) (by omega)).mono ?_
  rintro e w5 ⟨B5, b5, rfl, r5, hb⟩
  (first | (have hcu2 := Cum.join hcu hb; (try clear hcu); (try clear hc); (try clear hfz); (try clear hsz); (try clear hs0); (try clear hs1); (try clear hs2); (try clear hs3); (try clear hs4); ) | have hcu2 := Cum.mk hb); have hcu := hcu2; clear hcu2; obtain ⟨hc, hfz⟩ := bcell hcu.h; have hsz := hcu.h.size; (try simp at hsz); (try have hs0 := lt_of_succ_le hsz); (try (have hs1 := lt_pred hsz; (try (have hs2 := lt_pred hs1; (try (have hs3 := lt_pred hs2; (try have hs4 := lt_pred hs3)))))))
  have st5 := hb.size
  (try simp at st5)
  go_wp2_with fail
  exact bodyPost_ret (v := .agg #[.string d.name, .slice B1 d.labels.length b1, .int .i64 d.cpu, .int .i64 d.mem, .int .i64 d.slots, .slice B5 d.taints.length b5]) (by simp only [results, Tryz.results7]; go_simp) rfl ⟨[.string d.name, .slice B1 d.labels.length b1, .int .i64 d.cpu, .int .i64 d.mem, .int .i64 d.slots, .slice B5 d.taints.length b5], rfl, ⟨_, _, rfl, a0, SlOf.keep r1 (by repeat (first | (with_reducible exact Same.refl _ _ _) | ((with_reducible refine same_setCell ?_ ?_); focus (simp; (try omega))) | ((with_reducible refine same_alloc ?_ ?_); focus (simp; (try omega))) | (with_reducible refine same_drewN ?_ _) | ((with_reducible (apply same_step; assumption)); focus (simp; (try omega))))) (by simp; try omega) (by simp; try omega) (fun _ _ _ h => h), a2, a3, a4, SlOf.keep r5 (by repeat (first | (with_reducible exact Same.refl _ _ _) | ((with_reducible refine same_setCell ?_ ?_); focus (simp; (try omega))) | ((with_reducible refine same_alloc ?_ ?_); focus (simp; (try omega))) | (with_reducible refine same_drewN ?_ _) | ((with_reducible (apply same_step; assumption)); focus (simp; (try omega))))) (by simp; try omega) (by simp; try omega) (fun _ _ _ h => h)⟩, bel⟩
theorem c_laws_eqHost (d : Host) (cs cs' : List Value) (w : World) (lo lo' : Nat) (h : C_Host lo w.heap.size w d cs) (h' : C_Host lo' w.heap.size w d cs') :
    Calls Tryz.prog 10 #[.agg cs.toArray, .agg cs'.toArray] w fun e w' => e = .returned (.bool true) ∧ Below w.heap.size w w' := by
  obtain ⟨v1, v5, rfl, a0, a1, a2, a3, a4, a5⟩ := h
  obtain ⟨A1, c1, rfl⟩ := a1.form
  obtain ⟨A5, c5, rfl⟩ := a5.form
  unfold I64 at a2
  unfold I64 at a3
  unfold I64 at a4
  obtain ⟨zv1, zv5, rfl, za0, za1, za2, za3, za4, za5⟩ := h'
  obtain ⟨zA1, zc1, rfl⟩ := za1.form
  obtain ⟨zA5, zc5, rfl⟩ := za5.form
  unfold I64 at za2
  unfold I64 at za3
  unfold I64 at za4
  go_enter Tryz.func10, Tryz.ntmps10
  go_wp2_with (first | (go_at_call 38; refine (c_laws_eqLabelS _ _ _ _ _ _ (Sl_Label.now (by assumption) bel) (Sl_Label.now (by assumption) bel)).mono ?_; rintro e w1 ⟨rfl, hb⟩; (first | (have hcu2 := Cum.join hcu hb; (try clear hcu); (try clear hc); (try clear hfz); (try clear hsz); (try clear hs0); (try clear hs1); (try clear hs2); (try clear hs3); (try clear hs4); ) | have hcu2 := Cum.mk hb); have hcu := hcu2; clear hcu2; obtain ⟨hc, hfz⟩ := bcell hcu.h; have hsz := hcu.h.size; (try simp at hsz); (try have hs0 := lt_of_succ_le hsz); (try (have hs1 := lt_pred hsz; (try (have hs2 := lt_pred hs1; (try (have hs3 := lt_pred hs2; (try have hs4 := lt_pred hs3)))))))) | (go_at_call 39; refine (c_laws_eqTaintS _ _ _ _ _ _ (Sl_Taint.now (by assumption) bel) (Sl_Taint.now (by assumption) bel)).mono ?_; rintro e w1 ⟨rfl, hb⟩; (first | (have hcu2 := Cum.join hcu hb; (try clear hcu); (try clear hc); (try clear hfz); (try clear hsz); (try clear hs0); (try clear hs1); (try clear hs2); (try clear hs3); (try clear hs4); ) | have hcu2 := Cum.mk hb); have hcu := hcu2; clear hcu2; obtain ⟨hc, hfz⟩ := bcell hcu.h; have hsz := hcu.h.size; (try simp at hsz); (try have hs0 := lt_of_succ_le hsz); (try (have hs1 := lt_pred hsz; (try (have hs2 := lt_pred hs1; (try (have hs3 := lt_pred hs2; (try have hs4 := lt_pred hs3)))))))))
  go_ret
  exact ⟨rfl, bel⟩
end Go.Proofs.YteecgklmdfockaaGreatDoor
