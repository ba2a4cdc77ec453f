/- Written by wip/tools/pack.py: the texts that FnExactPodTree needs, without what it does not need. No conditions. -/
import Derived.Test.YteecgklmdfockaaGreatDoorKFnExactPodTree13
import Derived.Test.YteecgklmdfockaaGreatDoorKFnExactPodTree1
namespace Go.Proofs.YteecgklmdfockaaGreatDoor
open Go.RowKit
set_option maxHeartbeats 2000000 in
set_option maxRecDepth 10000 in
theorem c_ListTreeD (n : Nat) (ts : List TreeD) (K : Option Addr) (m c5 : Nat) (w : World) (lo : Nat) (h : C_Tree (n + 1) lo w.heap.size w (lstD ts) [.int .i64 5, .bool false, .int .i64 0, .string ⟨#[]⟩, .slice none 0 0, .slice K m c5]) (hn : nTree (n + 1) (lstD ts) ≤ 1048576) :
    Calls Tryz.prog 27 #[.slice K m c5] w fun e w' => ∃ cs', e = .returned (.agg cs'.toArray) ∧ OwnT (n + 1) (fun b => w.heap.size ≤ b ∧ b < w'.heap.size) w' (lstD ts) cs' ∧ Below w.heap.size w w' := by
  go_enter Tryz.func27, Tryz.ntmps27
  go_wp2_with fail
  refine (all_l08 (n + 1) (lstD ts) _ _ lo (h.now bel) hn).mono ?_
  rintro e w1 ⟨cs1, rfl, hO, hb⟩
  obtain ⟨A4, c4, A5, c6, rfl, -⟩ := hO.flat
  have Z := (hb.block w.heap.size (by simp)).trans (heap_at (by simp))
  have hl := row_lt Z
  obtain ⟨x0, x1, x2, x3, x4, x5, xf⟩ := row6 Z
  have HO := Lib.hid hO
  have Bw : Below w.heap.size w w1 := Below.trans bel (hb.mono (by simp))
  clear Z hO hb
  go_wp2_with fail
  refine bodyPost_ret (v := .agg #[.int .i64 (lstD ts).kind, .bool (lstD ts).flag, .int .i64 (lstD ts).num, .string (lstD ts).text, .slice A4 (lstD ts).keys.length c4, .slice A5 (lstD ts).kids.length c6]) (by simp only [results, Tryz.results27]; go_simp) rfl ⟨_, rfl, HO.out.carry (fun b hb => Aside.block (S := fun b => b = w.heap.size) (w := w1) (by repeat (first | (with_reducible exact Aside.refl _ _) | ((with_reducible refine aside_set ?_ ?_); (focus (simp; done))) | (with_reducible refine aside_alloc ?_))) b hb.2 (by have := hb.1; simp at this; omega)) (fun b hb => by simp at hb ⊢; omega), Bw.trans (Aside.below (S := fun b => b = w.heap.size) (by repeat (first | (with_reducible exact Aside.refl _ _) | ((with_reducible refine aside_set ?_ ?_); (focus (simp; done))) | (with_reducible refine aside_alloc ?_))) Bw.size (fun i hi => by omega))⟩
theorem nL_le {D : Type} (f : D → Nat) (B : Nat) : ∀ (l : List D), (∀ x ∈ l, f x ≤ B) → nL f l ≤ l.length * (B + 1)
  | [], _ => by rw [nL_def]; simp [szL]
  | x :: l, h => by
    have ih := nL_le f B l (fun y hy => h y (by simp [hy]))
    have hx := h x (by simp)
    rw [nL_def] at ih ⊢
    simp only [List.length_cons, szL, Nat.succ_mul]
    omega
theorem nTree_pairT (n : Nat) (ks ts : List ByteArray) (hk : ∀ x ∈ ks, x.size ≤ 40) (ht : ∀ x ∈ ts, x.size ≤ 40) (h1 : ks.length ≤ 4) (h2 : ts.length ≤ 4) : nTree (n + 2) (pairT ks ts) ≤ 400 := by
  rw [nTree_succ]
  have e1 := nL_le ByteArray.size 40 ks hk
  have e2 := nL_le (nTree (n + 1)) 40 (ts.map leafD) (by
    intro x hx
    obtain ⟨t, h3, rfl⟩ := List.mem_map.1 hx
    rw [nTree_leaf]
    exact ht t h3)
  rw [List.length_map] at e2
  show (⟨#[]⟩ : ByteArray).size + nL ByteArray.size ks + nL (nTree (n + 1)) (ts.map leafD) ≤ 400
  have e3 : (⟨#[]⟩ : ByteArray).size = 0 := rfl
  have e4 : ks.length * 41 ≤ 4 * 41 := Nat.mul_le_mul_right _ h1
  have e5 : ts.length * 41 ≤ 4 * 41 := Nat.mul_le_mul_right _ h2
  omega
theorem nTree_none (n : Nat) : nTree (n + 1) tree0 ≤ 400 := by
  rw [nTree_succ]
  show (⟨#[]⟩ : ByteArray).size + nL ByteArray.size [] + nL (nTree n) [] ≤ 400
  simp [nL_def, szL]
  decide
theorem lk_size {s : ByteArray} (h : lkB s = true) : s.size ≤ 40 := by
  unfold lkB at h
  simp only [Bool.and_eq_true, decide_eq_true_eq] at h
  omega
theorem lv_size {s : ByteArray} (h : lvB s = true) : s.size ≤ 40 := by
  unfold lvB at h
  simp only [Bool.or_eq_true, Bool.and_eq_true, decide_eq_true_eq] at h
  rcases h with h | h
  · have : s.size = 0 := by
      have h9 := List.isEmpty_iff.1 h
      rw [Lib.toList_data] at h9
      have : s.data.toList.length = 0 := by rw [h9]; rfl
      rw [Array.length_toList] at this
      exact this
    omega
  · omega
theorem eff_size40 (x : Int) : (effW x).size ≤ 40 := by unfold effW; split <;> decide
theorem op_size40 (x : Int) : (opW x).size ≤ 40 := by
  unfold opW
  repeat' split
  all_goals decide
theorem nTree_tol (n : Nat) (d : Tolerance) : nTree (n + 2) (tolTD d) ≤ 400 := by
  unfold tolTD tolT
  split
  · rename_i h
    unfold tolB at h
    simp only [Bool.and_eq_true, Bool.or_eq_true] at h
    have a1 : d.key.size ≤ 40 := by
      rcases h.1.1.1 with h1 | ⟨h1, -⟩
      · exact lk_size h1
      · exact lv_size (by unfold lvB; rw [h1]; rfl)
    have a2 := lv_size h.1.1.2
    have a3 := eff_size40 d.effect
    have key : ∀ (b : Bool) (s x : ByteArray), x ∈ optL b s → x = s := by
      intro b s x hx
      unfold optL at hx
      split at hx
      · simpa using hx
      · cases hx
    have len : ∀ (b : Bool) (s : ByteArray), (optL b s).length ≤ 1 := by
      intro b s
      unfold optL
      split <;> simp
    refine nTree_pairT n _ _ ?_ ?_ ?_ ?_
    · intro x hx
      simp only [List.mem_append] at hx
      rcases hx with (hx | hx) | hx
      · rw [key _ _ _ hx]; decide
      · rw [key _ _ _ hx]; decide
      · rw [key _ _ _ hx]; decide
    · intro x hx
      simp only [List.mem_append] at hx
      rcases hx with (hx | hx) | hx
      · rw [key _ _ _ hx]; exact a3
      · rw [key _ _ _ hx]; exact a1
      · rw [key _ _ _ hx]; exact a2
    · simp only [List.length_append]
      have h1 := len (d.effect != 0) wEffect
      have h2 := len (!d.key.toList.isEmpty) wKey
      have h3 := len d.equal wValue
      omega
    · simp only [List.length_append]
      have h1 := len (d.effect != 0) (effW d.effect)
      have h2 := len (!d.key.toList.isEmpty) d.key
      have h3 := len d.equal d.value
      omega
  · exact nTree_none (n + 1)
theorem chain_ok {D : Type} {ok : D → Bool} {lt : D → D → Bool} {l : List D} (h : chainB ok lt l = true) : ∀ x ∈ l, ok x = true := by
  intro x hx
  obtain ⟨k, hk⟩ := List.mem_iff_getElem?.1 hx
  have hkl := (List.getElem?_eq_some_iff.1 hk).1
  unfold chainB at h
  have h1 := List.all_eq_true.1 h k (List.mem_range.2 hkl)
  unfold stepB at h1
  rw [hk] at h1
  simp only [Bool.and_eq_true] at h1
  exact h1.1
theorem need_vals {d : Need} (h : needOkB d = true) : ∀ x ∈ d.values, x.size ≤ 40 := by
  intro x hx
  unfold needOkB at h
  simp only [Bool.and_eq_true] at h
  have h2 := h.2
  split at h2
  · have : d.values.length = 0 := by simpa using h2
    rw [List.eq_nil_of_length_eq_zero this] at hx
    cases hx
  · simp only [Bool.and_eq_true] at h2
    exact lv_size (chain_ok h2.2 x hx)
theorem nTree_need (n : Nat) (d : Need) : nTree (n + 3) (needT d) ≤ 1000 := by
  rcases h : needOkB d with _ | _
  · rw [needT_none h]
    exact Nat.le_trans (nTree_none (n + 2)) (by decide)
  · have hf := need_few h
    have hv := need_vals h
    have hk : d.key.size ≤ 40 := by
      have h9 := h
      unfold needOkB at h9
      simp only [Bool.and_eq_true] at h9
      exact lk_size h9.1.1
    have ho := op_size40 d.op
    by_cases h0 : d.values.length = 0
    · rw [needT_two h h0]
      refine Nat.le_trans (nTree_pairT (n + 1) [wKey, wOp] [d.key, opW d.op] (by intro x hx; simp at hx; rcases hx with rfl | rfl <;> decide) (by intro x hx; simp at hx; rcases hx with rfl | rfl <;> assumption) (by decide) (by simp)) (by decide)
    · rw [needT_three h h0, nTree_succ]
      have e1 := nL_le ByteArray.size 40 d.values hv
      have e2 := nTree_list n d.values
      show (⟨#[]⟩ : ByteArray).size + nL ByteArray.size wordsN + nL (nTree (n + 2)) [leafD d.key, leafD (opW d.op), listT d.values] ≤ 1000
      have e3 : nL ByteArray.size wordsN ≤ 20 := by decide
      have e4 := nL_def (nTree (n + 2)) [leafD d.key, leafD (opW d.op), listT d.values]
      rw [e4]
      simp only [szL, List.length_cons, List.length_nil]
      rw [nTree_leaf, nTree_leaf, e2]
      have e5 : (⟨#[]⟩ : ByteArray).size = 0 := rfl
      have e6 : d.values.length * 41 ≤ 4 * 41 := Nat.mul_le_mul_right _ hf.1
      omega
theorem nTree_lst {n B : Nat} {ts : List TreeD} (h : ∀ t ∈ ts, nTree n t ≤ B) (hl : ts.length ≤ 4) (hB : B ≤ 1000) : nTree (n + 1) (lstD ts) ≤ 1048576 := by
  rw [nTree_succ]
  have e1 := nL_le (nTree n) B ts h
  show (⟨#[]⟩ : ByteArray).size + nL ByteArray.size [] + nL (nTree n) ts ≤ 1048576
  have e2 : nL ByteArray.size [] = 0 := rfl
  have e3 : (⟨#[]⟩ : ByteArray).size = 0 := rfl
  have e4 : ts.length * (B + 1) ≤ 4 * (B + 1) := Nat.mul_le_mul_right _ hl
  omega
end Go.Proofs.YteecgklmdfockaaGreatDoor
namespace Go.Proofs.YteecgklmdfockaaGreatDoor
open Go.RowKit
def nLabel (d : Label) : Nat := d.key.size + d.value.size
theorem c_laws_szLabel (d : Label) (cs : List Value) (left : Int) (w : World) (h : C_Label d cs) (h3 : 0 ≤ left) (h4 : left ≤ 1048576) :
    Calls Tryz.prog 62 #[.agg cs.toArray, .int .i64 left] w fun e w' => e = .returned (.int .i64 (szI left (nLabel d))) ∧ Below w.heap.size w w' := by
  obtain ⟨rfl, a0, a1⟩ := h
  by_cases g_key : left - (d.key.size : Nat) < 0
  · have Hf := Lib.hid (show szI left (nLabel d) = -1 by unfold nLabel szI; rw [if_neg (by omega)])
    go_enter Tryz.func62, Tryz.ntmps62
    go_wp2_with fail
    go_ret
    exact ⟨ret_int Hf.out.symm, bel⟩
  by_cases g_value : left - (d.key.size : Nat) - (d.value.size : Nat) < 0
  · have Hf := Lib.hid (show szI left (nLabel d) = -1 by unfold nLabel szI; rw [if_neg (by omega)])
    go_enter Tryz.func62, Tryz.ntmps62
    go_wp2_with fail
    go_ret
    exact ⟨ret_int Hf.out.symm, bel⟩
  have Hf := Lib.hid (show szI left (nLabel d) = left - (d.key.size : Nat) - (d.value.size : Nat) by unfold nLabel szI; rw [if_pos (by omega)]; omega)
  go_enter Tryz.func62, Tryz.ntmps62
  go_wp2_with fail
  go_ret
  exact ⟨ret_int Hf.out.symm, bel⟩
theorem c_laws_toLabel (d : Label) (cs : List Value) (w : World) (h : C_Label d cs) :
    Calls Tryz.prog 75 #[.agg cs.toArray] w fun e w' => e = .returned (.agg cs.toArray) ∧ Below w.heap.size w w' := by
  obtain ⟨rfl, a0, a1⟩ := h
  go_enter Tryz.func75, Tryz.ntmps75
  go_wp2_with fail
  exact bodyPost_ret (v := .agg #[.string d.key, .string d.value]) (by simp [results, Tryz.results75, go_sem]) rfl ⟨rfl, bel⟩
theorem c_laws_eqLabel (d : Label) (cs cs' : List Value) (w : World) (h : C_Label d cs) (h' : C_Label d cs') :
    Calls Tryz.prog 86 #[.agg cs.toArray, .agg cs'.toArray] w fun e w' => e = .returned (.bool true) ∧ Below w.heap.size w w' := by
  obtain ⟨rfl, a0, a1⟩ := h
  obtain ⟨rfl, za0, za1⟩ := h'
  go_enter Tryz.func86, Tryz.ntmps86
  go_wp2_with fail
  go_ret
  exact ⟨rfl, bel⟩
theorem c_laws_szLabelS (l : List Label) (v : Value) (left : Int) (w : World) (lo : Nat) (hs : Sl_Label lo w.heap.size w l v) (h3 : 0 ≤ left) (h4 : left ≤ 1048576) :
    Calls Tryz.prog 20 #[v, .int .i64 left] w fun e w' => e = .returned (.int .i64 (szI left (nL nLabel l))) ∧ Below w.heap.size w w' := by
  obtain ⟨A, c, rfl, hlc, hc, hA⟩ := hs
  by_cases hlt : left - l.length < 0
  · have Hf := Lib.hid (show szI left (nL nLabel l) = -1 by rw [nL_def]; unfold szI; rw [if_neg (by omega)])
    go_enter Tryz.func20, Tryz.ntmps20
    go_wp2_with fail
    go_ret
    exact ⟨ret_int Hf.out.symm, bel⟩
  · go_enter Tryz.func20, Tryz.ntmps20
    go_wp2_with fail
    go_loopw [1, 5] (fun x i wr => ∃ k : Nat, k ≤ l.length ∧ i = .int .i64 k ∧ x = .int .i64 (left - l.length - szL nLabel (l.take k)) ∧ 0 ≤ left - l.length - szL nLabel (l.take k) ∧ Below w.heap.size w wr) (fun _ i _ => l.length - (intOf i).toNat)
    case atStart => exact ⟨0, Nat.zero_le _, rfl, by simp [szL], by simp [szL]; omega, bel⟩
    case round =>
      obtain ⟨k, hk, rfl, rfl, hge, hbr⟩ := hrel
      by_cases hlt : k < l.length
      · obtain ⟨b, o, rfl, -, hb2, hcell⟩ := hA (by omega)
        obtain ⟨d, hd⟩ := exists_at hlt
        obtain ⟨cs, -, hcs, hC⟩ := hcell k d hd
        have hC' := hC
        obtain ⟨rfl, ea0, ea1⟩ := hC'
        have hc0 := (hbr.cell (p := ⟨b, o + k * 2 + 0, none⟩) (by simp; omega)).trans (hcs 0 (by omega))
        simp at hc0
        have hc1 := (hbr.cell (p := ⟨b, o + k * 2 + 1, none⟩) (by simp; omega)).trans (hcs 1 (by omega))
        simp at hc1
        clear hcs hcell hA
        have Hs := Lib.hid (szL_take_succ nLabel l k d hd)
        have hle := szL_take_le nLabel l (k+1)
        by_cases hneg : left - l.length - szL nLabel (l.take k) - nLabel d < 0
        · have hz : szI (left - l.length - szL nLabel (l.take k)) (nLabel d) = -1 := szI_neg (by omega)
          have Hf := Lib.hid (show szI left (nL nLabel l) = -1 by rw [nL_def]; unfold szI; have := Hs.out; rw [if_neg (by omega)])
          go_wp2_with (go_at_call 62; refine (c_laws_szLabel d _ _ _ hC (by omega) (by omega)).mono ?_; rintro e w1 ⟨rfl, hb⟩; (first | (have hcu2 := Cum.join hcu hb; (try clear hcu); (try clear hc); (try clear hfz); (try clear hsz); (try clear hs0); (try clear hs1); (try clear hs2); (try clear hs3); (try clear hs4); ) | have hcu2 := Cum.mk hb); have hcu := hcu2; clear hcu2; obtain ⟨hc, hfz⟩ := bcell hcu.h; have hsz := hcu.h.size; (try simp at hsz); (try have hs0 := lt_of_succ_le hsz); (try (have hs1 := lt_pred hsz; (try (have hs2 := lt_pred hs1; (try (have hs3 := lt_pred hs2; (try have hs4 := lt_pred hs3))))))))
          go_ret
          exact ⟨ret_int Hf.out.symm, bel⟩
        · have hz : szI (left - l.length - szL nLabel (l.take k)) (nLabel d) = left - l.length - szL nLabel (l.take k) - nLabel d := szI_pos (by omega)
          go_wp2_with (go_at_call 62; refine (c_laws_szLabel d _ _ _ hC (by omega) (by omega)).mono ?_; rintro e w1 ⟨rfl, hb⟩; (first | (have hcu2 := Cum.join hcu hb; (try clear hcu); (try clear hc); (try clear hfz); (try clear hsz); (try clear hs0); (try clear hs1); (try clear hs2); (try clear hs3); (try clear hs4); ) | have hcu2 := Cum.mk hb); have hcu := hcu2; clear hcu2; obtain ⟨hc, hfz⟩ := bcell hcu.h; have hsz := hcu.h.size; (try simp at hsz); (try have hs0 := lt_of_succ_le hsz); (try (have hs1 := lt_pred hsz; (try (have hs2 := lt_pred hs1; (try (have hs3 := lt_pred hs2; (try have hs4 := lt_pred hs3))))))))
          go_roundw
          case rel => exact ⟨k + 1, by omega, by go_num, by rw [Hs.out]; go_num, by rw [Hs.out]; omega, bel⟩
          case measure => simp [intOf]; omega
      · obtain rfl : k = l.length := by omega
        rw [List.take_length] at *
        have Hf := Lib.hid (show szI left (nL nLabel l) = left - l.length - szL nLabel l by rw [nL_def]; unfold szI; rw [if_pos (by omega)]; omega)
        clear hA
        go_wp2_with fail
        go_ret
        exact ⟨ret_int Hf.out.symm, bel⟩
theorem c_laws_toLabelS (l : List Label) (v : Value) (w : World) (lo : Nat) (hs : Sl_Label lo w.heap.size w l v) (hn : l.length ≤ 1048576) :
    Calls Tryz.prog 28 #[v] w fun e w' => ∃ A c, e = .returned (.slice A l.length c) ∧ Sl_Label w.heap.size w'.heap.size w' l (.slice A l.length c) ∧ Below w.heap.size w w' := by
  obtain ⟨A, c, rfl, hlc, hc, hA⟩ := hs
  have hmk := run_make_slice (P := Tryz.prog) (z := .agg #[.string ⟨#[]⟩, .string ⟨#[]⟩]) (size := 2) (bytes := 32) Tryz.underlying32 (by kernel_rfl) l.length (by omega) (by omega)
  go_enter Tryz.func28, Tryz.ntmps28
  go_wp2_with fail
  go_loopw [4] (fun i wr => ∃ (k : Nat) (cs : Array Value), k ≤ l.length ∧ i = .int .i64 k ∧ Below w.heap.size w wr ∧ wr.heap[w.heap.size]? = some (.cells cs 111 (0, 0)) ∧ Part (C_Label) 2 l k cs) (fun i _ => l.length - (intOf i).toNat)
  case atStart => exact ⟨0, _, Nat.zero_le _, rfl, bel, heap_alloc_new _ _, Part.zero (by simp [size_madeCells])⟩
  case round =>
    obtain ⟨k, cs, hk, rfl, hbr, hg, hp⟩ := hrel
    by_cases hlt : k < l.length
    · obtain ⟨b, o, rfl, -, hb2, hcell⟩ := hA (by omega)
      obtain ⟨d, hd⟩ := exists_at hlt
      obtain ⟨es, -, hcs, hC⟩ := hcell k d hd
      have hC' := hC
      obtain ⟨rfl, ea0, ea1⟩ := hC'
      have hc0 := (hbr.cell (p := ⟨b, o + k * 2 + 0, none⟩) (by simp; omega)).trans (hcs 0 (by omega))
      simp at hc0
      have hc1 := (hbr.cell (p := ⟨b, o + k * 2 + 1, none⟩) (by simp; omega)).trans (hcs 1 (by omega))
      simp at hc1
      obtain ⟨x0, hx0⟩ := row_cell hg (o := k * 2 + 0) (by rw [hp.1]; omega)
      have hf0 := frozen_row hg (k * 2 + 0)
      rw [Nat.add_zero] at hx0 hf0
      obtain ⟨x1, hx1⟩ := row_cell hg (o := k * 2 + 1) (by rw [hp.1]; omega)
      have hf1 := frozen_row hg (k * 2 + 1)
      have hgl := row_lt hg
      clear hcs hcell hA
      go_wp2_with (go_at_call 75; refine (c_laws_toLabel d _ _ hC).mono ?_; rintro e w1 ⟨rfl, hb⟩; (first | (have hcu2 := Cum.join hcu hb; (try clear hcu); (try clear hc); (try clear hfz); (try clear hsz); (try clear hs0); (try clear hs1); (try clear hs2); (try clear hs3); (try clear hs4); ) | have hcu2 := Cum.mk hb); have hcu := hcu2; clear hcu2; obtain ⟨hc, hfz⟩ := bcell hcu.h; have hsz := hcu.h.size; (try simp at hsz); (try have hs0 := lt_of_succ_le hsz); (try (have hs1 := lt_pred hsz; (try (have hs2 := lt_pred hs1; (try (have hs3 := lt_pred hs2; (try have hs4 := lt_pred hs3))))))))
      go_roundw
      case rel => exact ⟨k + 1, putAt cs (k * 2) [.string d.key, .string d.value], by omega, by go_num, bel, heap_putCells [.string d.key, .string d.value] _ _ _ _ _ ((hb.block _ hgl).trans hg), hp.store hd rfl hC⟩
      case measure => simp [intOf]; omega
    · obtain rfl : k = l.length := by omega
      clear hA
      go_wp2_with fail
      go_ret
      exact ⟨_, _, rfl, SlOf.of_part hp hg (Nat.le_refl _) (row_lt hg) (Nat.le_refl _) (by omega), bel⟩
theorem c_laws_eqLabelS (l : List Label) (va vb : Value) (w : World) (lo lo' : Nat) (ha : Sl_Label lo w.heap.size w l va) (hb : Sl_Label lo' w.heap.size w l vb) :
    Calls Tryz.prog 38 #[va, vb] w fun e w' => e = .returned (.bool true) ∧ Below w.heap.size w w' := by
  obtain ⟨A, c, rfl, hlc, hc, hA⟩ := ha
  obtain ⟨B, c', rfl, hlc', hc', hB⟩ := hb
  go_enter Tryz.func38, Tryz.ntmps38
  go_wp2_with fail
  go_loopw [5] (fun i wr => ∃ k : Nat, k ≤ l.length ∧ i = .int .i64 k ∧ Below w.heap.size w wr) (fun i _ => l.length - (intOf i).toNat)
  case atStart => exact ⟨0, Nat.zero_le _, rfl, bel⟩
  case round =>
    obtain ⟨k, hk, rfl, hbr⟩ := hrel
    by_cases hlt : k < l.length
    · obtain ⟨b, o, rfl, -, hb2, hcell⟩ := hA (by omega)
      obtain ⟨b', o', rfl, -, hb2', hcell'⟩ := hB (by omega)
      obtain ⟨d, hd⟩ := exists_at hlt
      obtain ⟨es, -, hcs, hC⟩ := hcell k d hd
      obtain ⟨es', -, hcs', hD⟩ := hcell' k d hd
      have hC' := hC
      have hD' := hD
      obtain ⟨rfl, ea0, ea1⟩ := hC'
      obtain ⟨rfl, fa0, fa1⟩ := hD'
      have hc0 := (hbr.cell (p := ⟨b, o + k * 2 + 0, none⟩) (by simp; omega)).trans (hcs 0 (by omega))
      simp at hc0
      have hc1 := (hbr.cell (p := ⟨b, o + k * 2 + 1, none⟩) (by simp; omega)).trans (hcs 1 (by omega))
      simp at hc1
      have hd0 := (hbr.cell (p := ⟨b', o' + k * 2 + 0, none⟩) (by simp; omega)).trans (hcs' 0 (by omega))
      simp at hd0
      have hd1 := (hbr.cell (p := ⟨b', o' + k * 2 + 1, none⟩) (by simp; omega)).trans (hcs' 1 (by omega))
      simp at hd1
      have hk0 : (0 : Int) ≤ k := by omega
      have hk1 : (k : Int) < l.length := by omega
      have hbl : b < wr.heap.size := Nat.lt_of_lt_of_le hb2 hbr.size
      have hbl' : b' < wr.heap.size := Nat.lt_of_lt_of_le hb2' hbr.size
      clear hcs hcell hA hcs' hcell' hB hd
      go_wp2_with fail
      go_region_held3 (fun w' => Below (wr).heap.size (wr) w' ∧ (∀ xb xo, xb < (wr).heap.size → w'.cell? ⟨xb, xo, none⟩ = (wr).cell? ⟨xb, xo, none⟩)) (first | exact keep_drew _ | exact keep_ext (by assumption) (by assumption) | exact keep_same (by assumption) | exact keep_alloc (by assumption) _) (first | (go_at_call 86; refine (c_laws_eqLabel d _ _ _ hC hD).mono ?_; rintro e w9 ⟨rfl, hb9⟩))
      (have hb := held_step (by assumption); (first | (have hcu2 := Cum.join hcu hb; (try clear hcu); (try clear hc); (try clear hfz); (try clear hsz); (try clear hs0); (try clear hs1); (try clear hs2); (try clear hs3); (try clear hs4); ) | have hcu2 := Cum.mk hb); have hcu := hcu2; clear hcu2; obtain ⟨hc, hfz⟩ := bcell hcu.h; have hsz := hcu.h.size; (try simp at hsz); (try have hs0 := lt_of_succ_le hsz); (try (have hs1 := lt_pred hsz; (try (have hs2 := lt_pred hs1; (try (have hs3 := lt_pred hs2; (try have hs4 := lt_pred hs3))))))))
      go_wp2_with fail
      go_roundw
      case rel => exact ⟨k + 1, by omega, by go_num, bel⟩
      case measure => simp [intOf]; omega
    · obtain rfl : k = l.length := by omega
      clear hA hB
      go_wp2_with fail
      go_ret
      exact ⟨rfl, bel⟩
end Go.Proofs.YteecgklmdfockaaGreatDoor
namespace Go.Proofs.YteecgklmdfockaaGreatDoor
open Go.RowKit
def nNeed (d : Need) : Nat := d.key.size + nL ByteArray.size d.values
theorem C_Need.open {lo hi : Nat} {w : World} {d : Need} {cs : List Value} (h : C_Need lo hi w d cs) : ∃ A2 c2, cs = [.string d.key, .int .i64 d.op, .slice A2 d.values.length c2] := by
  obtain ⟨v2, rfl, a0, a1, a2⟩ := h
  obtain ⟨A2, c2, rfl⟩ := a2.form
  exact ⟨A2, c2, rfl⟩
theorem c_laws_szNeed (d : Need) (cs : List Value) (left : Int) (w : World) (lo : Nat) (h : C_Need lo w.heap.size w d cs) (h3 : 0 ≤ left) (h4 : left ≤ 1048576) :
    Calls Tryz.prog 89 #[.agg cs.toArray, .int .i64 left] w fun e w' => e = .returned (.int .i64 (szI left (nNeed d))) ∧ Below w.heap.size w w' := by
  obtain ⟨v2, rfl, a0, a1, a2⟩ := h
  obtain ⟨A2, c2, rfl⟩ := a2.form
  unfold I64 at a1
  by_cases g_key : left - (d.key.size : Nat) < 0
  · have Hf := Lib.hid (show szI left (nNeed d) = -1 by unfold nNeed szI; rw [if_neg (by omega)])
    go_enter Tryz.func89, Tryz.ntmps89
    go_wp2_with (first | (go_at_call 117; refine (c_laws_szStringS _ _ _ _ _ (Sl_Str.now (by assumption) bel) (by omega) (by omega)).mono ?_; rintro e w1 ⟨rfl, rfl⟩))
    go_ret
    exact ⟨ret_int Hf.out.symm, bel⟩
  by_cases g_values : left - (d.key.size : Nat) - (nL ByteArray.size d.values : Nat) < 0
  · have Hf := Lib.hid (show szI left (nNeed d) = -1 by unfold nNeed szI; rw [if_neg (by omega)])
    have z_values : szI (left - (d.key.size : Nat)) (nL ByteArray.size d.values) = -1 := szI_neg (by omega)
    go_enter Tryz.func89, Tryz.ntmps89
    go_wp2_with (first | (go_at_call 117; refine (c_laws_szStringS _ _ _ _ _ (Sl_Str.now (by assumption) bel) (by omega) (by omega)).mono ?_; rintro e w1 ⟨rfl, rfl⟩))
    go_ret
    exact ⟨ret_int Hf.out.symm, bel⟩
  have z_values : szI (left - (d.key.size : Nat)) (nL ByteArray.size d.values) = left - (d.key.size : Nat) - (nL ByteArray.size d.values : Nat) := szI_pos (by omega)
  have Hf := Lib.hid (show szI left (nNeed d) = left - (d.key.size : Nat) - (nL ByteArray.size d.values : Nat) by unfold nNeed szI; rw [if_pos (by omega)]; omega)
  go_enter Tryz.func89, Tryz.ntmps89
  go_wp2_with (first | (go_at_call 117; refine (c_laws_szStringS _ _ _ _ _ (Sl_Str.now (by assumption) bel) (by omega) (by omega)).mono ?_; rintro e w1 ⟨rfl, rfl⟩))
  go_ret
  exact ⟨ret_int Hf.out.symm, bel⟩
set_option maxHeartbeats 1000000 in
theorem c_laws_toNeed (d : Need) (cs : List Value) (w : World) (lo : Nat) (h : C_Need lo w.heap.size w d cs) (hn : nNeed d ≤ 1048576) :
    Calls Tryz.prog 96 #[.agg cs.toArray] w fun e w' => ∃ cs', e = .returned (.agg cs'.toArray) ∧ C_Need w.heap.size w'.heap.size w' d cs' ∧ Below w.heap.size w w' := by
  obtain ⟨v2, rfl, a0, a1, a2⟩ := h
  obtain ⟨A2, c2, rfl⟩ := a2.form
  unfold I64 at a1
  unfold nNeed at hn
  have m2 : d.values.length ≤ 1048576 := by have := nL_def ByteArray.size d.values; omega
  go_enter Tryz.func96, Tryz.ntmps96
  go_wp2_with fail
  refine (c_laws_toStringS _ _ _ _ (Sl_Str.now (by assumption) bel) (by omega)).mono ?_
  rintro e w2 ⟨B2, b2, rfl, r2, hb⟩
  (first | (have hcu2 := Cum.join hcu hb; (try clear hcu); (try clear hc); (try clear hfz); (try clear hsz); (try clear hs0); (try clear hs1); (try clear hs2); (try clear hs3); (try clear hs4); ) | have hcu2 := Cum.mk hb); have hcu := hcu2; clear hcu2; obtain ⟨hc, hfz⟩ := bcell hcu.h; have hsz := hcu.h.size; (try simp at hsz); (try have hs0 := lt_of_succ_le hsz); (try (have hs1 := lt_pred hsz; (try (have hs2 := lt_pred hs1; (try (have hs3 := lt_pred hs2; (try have hs4 := lt_pred hs3)))))))
  have st2 := hb.size
  (try simp at st2)
  go_wp2_with fail
  exact bodyPost_ret (v := .agg #[.string d.key, .int .i64 d.op, .slice B2 d.values.length b2]) (by simp only [results, Tryz.results96]; go_simp) rfl ⟨[.string d.key, .int .i64 d.op, .slice B2 d.values.length b2], rfl, ⟨_, rfl, a0, a1, SlOf.keep r2 (by repeat (first | (with_reducible exact Same.refl _ _ _) | ((with_reducible refine same_setCell ?_ ?_); focus (simp; (try omega))) | ((with_reducible refine same_alloc ?_ ?_); focus (simp; (try omega))) | (with_reducible refine same_drewN ?_ _) | ((with_reducible (apply same_step; assumption)); focus (simp; (try omega))))) (by simp; try omega) (by simp; try omega) (fun _ _ _ h => h)⟩, bel⟩
theorem c_laws_eqNeed (d : Need) (cs cs' : List Value) (w : World) (lo lo' : Nat) (h : C_Need lo w.heap.size w d cs) (h' : C_Need lo' w.heap.size w d cs') :
    Calls Tryz.prog 104 #[.agg cs.toArray, .agg cs'.toArray] w fun e w' => e = .returned (.bool true) ∧ Below w.heap.size w w' := by
  obtain ⟨v2, rfl, a0, a1, a2⟩ := h
  obtain ⟨A2, c2, rfl⟩ := a2.form
  unfold I64 at a1
  obtain ⟨zv2, rfl, za0, za1, za2⟩ := h'
  obtain ⟨zA2, zc2, rfl⟩ := za2.form
  unfold I64 at za1
  go_enter Tryz.func104, Tryz.ntmps104
  go_wp2_with (first | (go_at_call 36; refine (c_laws_eqStringS _ _ _ _ _ _ (Sl_Str.now (by assumption) bel) (Sl_Str.now (by assumption) bel)).mono ?_; rintro e w1 ⟨rfl, hb⟩; (first | (have hcu2 := Cum.join hcu hb; (try clear hcu); (try clear hc); (try clear hfz); (try clear hsz); (try clear hs0); (try clear hs1); (try clear hs2); (try clear hs3); (try clear hs4); ) | have hcu2 := Cum.mk hb); have hcu := hcu2; clear hcu2; obtain ⟨hc, hfz⟩ := bcell hcu.h; have hsz := hcu.h.size; (try simp at hsz); (try have hs0 := lt_of_succ_le hsz); (try (have hs1 := lt_pred hsz; (try (have hs2 := lt_pred hs1; (try (have hs3 := lt_pred hs2; (try have hs4 := lt_pred hs3)))))))))
  go_ret
  exact ⟨rfl, bel⟩
theorem c_laws_szNeedS (l : List Need) (v : Value) (left : Int) (w : World) (lo : Nat) (hs : Sl_Need lo w.heap.size w l v) (h3 : 0 ≤ left) (h4 : left ≤ 1048576) :
    Calls Tryz.prog 46 #[v, .int .i64 left] w fun e w' => e = .returned (.int .i64 (szI left (nL nNeed l))) ∧ Below w.heap.size w w' := by
  obtain ⟨A, c, rfl, hlc, hc, hA⟩ := hs
  by_cases hlt : left - l.length < 0
  · have Hf := Lib.hid (show szI left (nL nNeed l) = -1 by rw [nL_def]; unfold szI; rw [if_neg (by omega)])
    go_enter Tryz.func46, Tryz.ntmps46
    go_wp2_with fail
    go_ret
    exact ⟨ret_int Hf.out.symm, bel⟩
  · go_enter Tryz.func46, Tryz.ntmps46
    go_wp2_with fail
    go_loopw [1, 5] (fun x i wr => ∃ k : Nat, k ≤ l.length ∧ i = .int .i64 k ∧ x = .int .i64 (left - l.length - szL nNeed (l.take k)) ∧ 0 ≤ left - l.length - szL nNeed (l.take k) ∧ Below w.heap.size w wr) (fun _ i _ => l.length - (intOf i).toNat)
    case atStart => exact ⟨0, Nat.zero_le _, rfl, by simp [szL], by simp [szL]; omega, bel⟩
    case round =>
      obtain ⟨k, hk, rfl, rfl, hge, hbr⟩ := hrel
      by_cases hlt : k < l.length
      · obtain ⟨b, o, rfl, -, hb2, hcell⟩ := hA (by omega)
        obtain ⟨d, hd⟩ := exists_at hlt
        obtain ⟨cs, -, hcs, hC⟩ := hcell k d hd
        have hC' := hC
        obtain ⟨ev2, rfl, ea0, ea1, ea2⟩ := hC'
        obtain ⟨eA2, ec2, rfl⟩ := ea2.form
        have hc0 := (hbr.cell (p := ⟨b, o + k * 3 + 0, none⟩) (by simp; omega)).trans (hcs 0 (by omega))
        simp at hc0
        have hc1 := (hbr.cell (p := ⟨b, o + k * 3 + 1, none⟩) (by simp; omega)).trans (hcs 1 (by omega))
        simp at hc1
        have hc2 := (hbr.cell (p := ⟨b, o + k * 3 + 2, none⟩) (by simp; omega)).trans (hcs 2 (by omega))
        simp at hc2
        clear hcs hcell hA
        have Hs := Lib.hid (szL_take_succ nNeed l k d hd)
        have hle := szL_take_le nNeed l (k+1)
        by_cases hneg : left - l.length - szL nNeed (l.take k) - nNeed d < 0
        · have hz : szI (left - l.length - szL nNeed (l.take k)) (nNeed d) = -1 := szI_neg (by omega)
          have Hf := Lib.hid (show szI left (nL nNeed l) = -1 by rw [nL_def]; unfold szI; have := Hs.out; rw [if_neg (by omega)])
          go_wp2_with (go_at_call 89; refine (c_laws_szNeed d _ _ _ _ (hC.now bel) (by omega) (by omega)).mono ?_; rintro e w1 ⟨rfl, hb⟩; (first | (have hcu2 := Cum.join hcu hb; (try clear hcu); (try clear hc); (try clear hfz); (try clear hsz); (try clear hs0); (try clear hs1); (try clear hs2); (try clear hs3); (try clear hs4); ) | have hcu2 := Cum.mk hb); have hcu := hcu2; clear hcu2; obtain ⟨hc, hfz⟩ := bcell hcu.h; have hsz := hcu.h.size; (try simp at hsz); (try have hs0 := lt_of_succ_le hsz); (try (have hs1 := lt_pred hsz; (try (have hs2 := lt_pred hs1; (try (have hs3 := lt_pred hs2; (try have hs4 := lt_pred hs3))))))))
          go_ret
          exact ⟨ret_int Hf.out.symm, bel⟩
        · have hz : szI (left - l.length - szL nNeed (l.take k)) (nNeed d) = left - l.length - szL nNeed (l.take k) - nNeed d := szI_pos (by omega)
          go_wp2_with (go_at_call 89; refine (c_laws_szNeed d _ _ _ _ (hC.now bel) (by omega) (by omega)).mono ?_; rintro e w1 ⟨rfl, hb⟩; (first | (have hcu2 := Cum.join hcu hb; (try clear hcu); (try clear hc); (try clear hfz); (try clear hsz); (try clear hs0); (try clear hs1); (try clear hs2); (try clear hs3); (try clear hs4); ) | have hcu2 := Cum.mk hb); have hcu := hcu2; clear hcu2; obtain ⟨hc, hfz⟩ := bcell hcu.h; have hsz := hcu.h.size; (try simp at hsz); (try have hs0 := lt_of_succ_le hsz); (try (have hs1 := lt_pred hsz; (try (have hs2 := lt_pred hs1; (try (have hs3 := lt_pred hs2; (try have hs4 := lt_pred hs3))))))))
          go_roundw
          case rel => exact ⟨k + 1, by omega, by go_num, by rw [Hs.out]; go_num, by rw [Hs.out]; omega, bel⟩
          case measure => simp [intOf]; omega
      · obtain rfl : k = l.length := by omega
        rw [List.take_length] at *
        have Hf := Lib.hid (show szI left (nL nNeed l) = left - l.length - szL nNeed l by rw [nL_def]; unfold szI; rw [if_pos (by omega)]; omega)
        clear hA
        go_wp2_with fail
        go_ret
        exact ⟨ret_int Hf.out.symm, bel⟩
theorem c_laws_toNeedS (l : List Need) (v : Value) (w : World) (lo : Nat) (hs : Sl_Need lo w.heap.size w l v) (hn : nL nNeed l ≤ 1048576) :
    Calls Tryz.prog 51 #[v] w fun e w' => ∃ A c, e = .returned (.slice A l.length c) ∧ Sl_Need w.heap.size w'.heap.size w' l (.slice A l.length c) ∧ Below w.heap.size w w' := by
  obtain ⟨A, c, rfl, hlc, hc, hA⟩ := hs
  have hlen : l.length ≤ 1048576 := by have := nL_def nNeed l; omega
  have hmk := run_make_slice (P := Tryz.prog) (z := .agg #[.string ⟨#[]⟩, .int .i64 0, .slice none 0 0]) (size := 3) (bytes := 48) Tryz.underlying48 (by kernel_rfl) l.length (by omega) (by omega)
  go_enter Tryz.func51, Tryz.ntmps51
  go_wp2_with fail
  go_loopw [4] (fun i wr => ∃ (k : Nat) (cs : Array Value), k ≤ l.length ∧ i = .int .i64 k ∧ Below w.heap.size w wr ∧ wr.heap[w.heap.size]? = some (.cells cs 84 (0, 0)) ∧ Part (C_Need (w.heap.size + 1) wr.heap.size wr) 3 l k cs) (fun i _ => l.length - (intOf i).toNat)
  case atStart => exact ⟨0, _, Nat.zero_le _, rfl, bel, heap_alloc_new _ _, Part.zero (by simp [size_madeCells])⟩
  case round =>
    obtain ⟨k, cs, hk, rfl, hbr, hg, hp⟩ := hrel
    by_cases hlt : k < l.length
    · obtain ⟨b, o, rfl, -, hb2, hcell⟩ := hA (by omega)
      obtain ⟨d, hd⟩ := exists_at hlt
      obtain ⟨es, -, hcs, hC⟩ := hcell k d hd
      have hC' := hC
      obtain ⟨ev2, rfl, ea0, ea1, ea2⟩ := hC'
      obtain ⟨eA2, ec2, rfl⟩ := ea2.form
      have hc0 := (hbr.cell (p := ⟨b, o + k * 3 + 0, none⟩) (by simp; omega)).trans (hcs 0 (by omega))
      simp at hc0
      have hc1 := (hbr.cell (p := ⟨b, o + k * 3 + 1, none⟩) (by simp; omega)).trans (hcs 1 (by omega))
      simp at hc1
      have hc2 := (hbr.cell (p := ⟨b, o + k * 3 + 2, none⟩) (by simp; omega)).trans (hcs 2 (by omega))
      simp at hc2
      obtain ⟨x0, hx0⟩ := row_cell hg (o := k * 3 + 0) (by rw [hp.1]; omega)
      have hf0 := frozen_row hg (k * 3 + 0)
      rw [Nat.add_zero] at hx0 hf0
      obtain ⟨x1, hx1⟩ := row_cell hg (o := k * 3 + 1) (by rw [hp.1]; omega)
      have hf1 := frozen_row hg (k * 3 + 1)
      obtain ⟨x2, hx2⟩ := row_cell hg (o := k * 3 + 2) (by rw [hp.1]; omega)
      have hf2 := frozen_row hg (k * 3 + 2)
      have hgl := row_lt hg
      clear hcs hcell hA
      have hnd : nNeed d ≤ 1048576 := by have := nL_def nNeed l; have := szL_take_succ nNeed l k d hd; have := szL_take_le nNeed l (k+1); omega
      go_wp2_with fail
      refine (c_laws_toNeed d _ _ _ (hC.now bel) hnd).mono ?_
      rintro e w1 ⟨cs1, rfl, hr1, hb⟩
      obtain ⟨fv2, rfl, fa0, fa1, fa2⟩ := hr1
      obtain ⟨fA2, fc2, rfl⟩ := fa2.form
      (first | (have hcu2 := Cum.join hcu hb; (try clear hcu); (try clear hc); (try clear hfz); (try clear hsz); (try clear hs0); (try clear hs1); (try clear hs2); (try clear hs3); (try clear hs4); ) | have hcu2 := Cum.mk hb); have hcu := hcu2; clear hcu2; obtain ⟨hc, hfz⟩ := bcell hcu.h; have hsz := hcu.h.size; (try simp at hsz); (try have hs0 := lt_of_succ_le hsz); (try (have hs1 := lt_pred hsz; (try (have hs2 := lt_pred hs1; (try (have hs3 := lt_pred hs2; (try have hs4 := lt_pred hs3)))))))
      go_wp2_with fail
      go_roundw
      case rel =>
        refine ⟨k + 1, putAt cs (k * 3) [.string d.key, .int .i64 d.op, .slice fA2 d.values.length fc2], by omega, by go_num, bel, heap_putCells [.string d.key, .int .i64 d.op, .slice fA2 d.values.length fc2] _ _ _ _ _ ((hb.block _ hgl).trans hg), ?_⟩
        refine Part.store (hp.mono (fun _ _ h => h.keep ((same_below hb).trans (same_putCells [.string d.key, .int .i64 d.op, .slice fA2 d.values.length fc2] _ _ _ _ _ (.inl (by omega)))) (Nat.le_refl _) (Nat.le_trans hb.size (Nat.le_of_eq (size_putCells [.string d.key, .int .i64 d.op, .slice fA2 d.values.length fc2] _ _ _).symm)))) hd rfl ?_
        have hK : C_Need wr.heap.size w1.heap.size w1 d [.string d.key, .int .i64 d.op, .slice fA2 d.values.length fc2] := ⟨_, rfl, fa0, fa1, fa2⟩
        exact hK.keep (same_putCells [.string d.key, .int .i64 d.op, .slice fA2 d.values.length fc2] _ _ _ _ _ (.inl (by omega))) (by omega) (Nat.le_of_eq (size_putCells [.string d.key, .int .i64 d.op, .slice fA2 d.values.length fc2] _ _ _).symm)
      case measure => simp [intOf]; omega
    · obtain rfl : k = l.length := by omega
      clear hA
      go_wp2_with fail
      go_ret
      exact ⟨_, _, rfl, SlOf.of_part (hp.mono (fun _ _ h => h.keep (Same.refl _ _ _) (by omega) (Nat.le_refl _))) hg (Nat.le_refl _) (row_lt hg) (Nat.le_refl _) (by omega), bel⟩
theorem c_laws_eqNeedS (l : List Need) (va vb : Value) (w : World) (lo lo' : Nat) (ha : Sl_Need lo w.heap.size w l va) (hb : Sl_Need lo' w.heap.size w l vb) :
    Calls Tryz.prog 58 #[va, vb] w fun e w' => e = .returned (.bool true) ∧ Below w.heap.size w w' := by
  obtain ⟨A, c, rfl, hlc, hc, hA⟩ := ha
  obtain ⟨B, c', rfl, hlc', hc', hB⟩ := hb
  go_enter Tryz.func58, Tryz.ntmps58
  go_wp2_with fail
  go_loopw [5] (fun i wr => ∃ k : Nat, k ≤ l.length ∧ i = .int .i64 k ∧ Below w.heap.size w wr) (fun i _ => l.length - (intOf i).toNat)
  case atStart => exact ⟨0, Nat.zero_le _, rfl, bel⟩
  case round =>
    obtain ⟨k, hk, rfl, hbr⟩ := hrel
    by_cases hlt : k < l.length
    · obtain ⟨b, o, rfl, -, hb2, hcell⟩ := hA (by omega)
      obtain ⟨b', o', rfl, -, hb2', hcell'⟩ := hB (by omega)
      obtain ⟨d, hd⟩ := exists_at hlt
      obtain ⟨es, -, hcs, hC⟩ := hcell k d hd
      obtain ⟨es', -, hcs', hD⟩ := hcell' k d hd
      have hC' := hC
      have hD' := hD
      obtain ⟨ev2, rfl, ea0, ea1, ea2⟩ := hC'
      obtain ⟨eA2, ec2, rfl⟩ := ea2.form
      obtain ⟨fv2, rfl, fa0, fa1, fa2⟩ := hD'
      obtain ⟨fA2, fc2, rfl⟩ := fa2.form
      have hc0 := (hbr.cell (p := ⟨b, o + k * 3 + 0, none⟩) (by simp; omega)).trans (hcs 0 (by omega))
      simp at hc0
      have hc1 := (hbr.cell (p := ⟨b, o + k * 3 + 1, none⟩) (by simp; omega)).trans (hcs 1 (by omega))
      simp at hc1
      have hc2 := (hbr.cell (p := ⟨b, o + k * 3 + 2, none⟩) (by simp; omega)).trans (hcs 2 (by omega))
      simp at hc2
      have hd0 := (hbr.cell (p := ⟨b', o' + k * 3 + 0, none⟩) (by simp; omega)).trans (hcs' 0 (by omega))
      simp at hd0
      have hd1 := (hbr.cell (p := ⟨b', o' + k * 3 + 1, none⟩) (by simp; omega)).trans (hcs' 1 (by omega))
      simp at hd1
      have hd2 := (hbr.cell (p := ⟨b', o' + k * 3 + 2, none⟩) (by simp; omega)).trans (hcs' 2 (by omega))
      simp at hd2
      have hk0 : (0 : Int) ≤ k := by omega
      have hk1 : (k : Int) < l.length := by omega
      have hbl : b < wr.heap.size := Nat.lt_of_lt_of_le hb2 hbr.size
      have hbl' : b' < wr.heap.size := Nat.lt_of_lt_of_le hb2' hbr.size
      clear hcs hcell hA hcs' hcell' hB hd
      go_wp2_with fail
      go_region_held3 (fun w' => Below (wr).heap.size (wr) w' ∧ (∀ xb xo, xb < (wr).heap.size → w'.cell? ⟨xb, xo, none⟩ = (wr).cell? ⟨xb, xo, none⟩)) (first | exact keep_drew _ | exact keep_ext (by assumption) (by assumption) | exact keep_same (by assumption) | exact keep_alloc (by assumption) _) (first | (go_at_call 104; refine (c_laws_eqNeed d _ _ _ _ _ (hC.now (ext_trans hbr (by first | (with_reducible exact Below.refl _ _) | exact (keep_same (by assumption)).1))) (hD.now (ext_trans hbr (by first | (with_reducible exact Below.refl _ _) | exact (keep_same (by assumption)).1)))).mono ?_; rintro e w9 ⟨rfl, hb9⟩))
      (have hb := held_step (by assumption); (first | (have hcu2 := Cum.join hcu hb; (try clear hcu); (try clear hc); (try clear hfz); (try clear hsz); (try clear hs0); (try clear hs1); (try clear hs2); (try clear hs3); (try clear hs4); ) | have hcu2 := Cum.mk hb); have hcu := hcu2; clear hcu2; obtain ⟨hc, hfz⟩ := bcell hcu.h; have hsz := hcu.h.size; (try simp at hsz); (try have hs0 := lt_of_succ_le hsz); (try (have hs1 := lt_pred hsz; (try (have hs2 := lt_pred hs1; (try (have hs3 := lt_pred hs2; (try have hs4 := lt_pred hs3))))))))
      go_wp2_with fail
      go_roundw
      case rel => exact ⟨k + 1, by omega, by go_num, bel⟩
      case measure => simp [intOf]; omega
    · obtain rfl : k = l.length := by omega
      clear hA hB
      go_wp2_with fail
      go_ret
      exact ⟨rfl, bel⟩
end Go.Proofs.YteecgklmdfockaaGreatDoor
namespace Go.Proofs.YteecgklmdfockaaGreatDoor
open Go.RowKit
def nTolerance (d : Tolerance) : Nat := d.key.size + d.value.size
theorem c_laws_szTolerance (d : Tolerance) (cs : List Value) (left : Int) (w : World) (h : C_Tolerance d cs) (h3 : 0 ≤ left) (h4 : left ≤ 1048576) :
    Calls Tryz.prog 90 #[.agg cs.toArray, .int .i64 left] w fun e w' => e = .returned (.int .i64 (szI left (nTolerance d))) ∧ Below w.heap.size w w' := by
  obtain ⟨rfl, a0, a2, a3⟩ := h
  unfold I64 at a3
  by_cases g_key : left - (d.key.size : Nat) < 0
  · have Hf := Lib.hid (show szI left (nTolerance d) = -1 by unfold nTolerance szI; rw [if_neg (by omega)])
    go_enter Tryz.func90, Tryz.ntmps90
    go_wp2_with fail
    go_ret
    exact ⟨ret_int Hf.out.symm, bel⟩
  by_cases g_value : left - (d.key.size : Nat) - (d.value.size : Nat) < 0
  · have Hf := Lib.hid (show szI left (nTolerance d) = -1 by unfold nTolerance szI; rw [if_neg (by omega)])
    go_enter Tryz.func90, Tryz.ntmps90
    go_wp2_with fail
    go_ret
    exact ⟨ret_int Hf.out.symm, bel⟩
  have Hf := Lib.hid (show szI left (nTolerance d) = left - (d.key.size : Nat) - (d.value.size : Nat) by unfold nTolerance szI; rw [if_pos (by omega)]; omega)
  go_enter Tryz.func90, Tryz.ntmps90
  go_wp2_with fail
  go_ret
  exact ⟨ret_int Hf.out.symm, bel⟩
theorem c_laws_toTolerance (d : Tolerance) (cs : List Value) (w : World) (h : C_Tolerance d cs) :
    Calls Tryz.prog 97 #[.agg cs.toArray] w fun e w' => e = .returned (.agg cs.toArray) ∧ Below w.heap.size w w' := by
  obtain ⟨rfl, a0, a2, a3⟩ := h
  unfold I64 at a3
  go_enter Tryz.func97, Tryz.ntmps97
  go_wp2_with fail
  exact bodyPost_ret (v := .agg #[.string d.key, .bool d.equal, .string d.value, .int .i64 d.effect]) (by simp [results, Tryz.results97, go_sem]) rfl ⟨rfl, bel⟩
theorem c_laws_eqTolerance (d : Tolerance) (cs cs' : List Value) (w : World) (h : C_Tolerance d cs) (h' : C_Tolerance d cs') :
    Calls Tryz.prog 105 #[.agg cs.toArray, .agg cs'.toArray] w fun e w' => e = .returned (.bool true) ∧ Below w.heap.size w w' := by
  obtain ⟨rfl, a0, a2, a3⟩ := h
  unfold I64 at a3
  obtain ⟨rfl, za0, za2, za3⟩ := h'
  unfold I64 at za3
  go_enter Tryz.func105, Tryz.ntmps105
  go_wp2_with fail
  go_ret
  exact ⟨rfl, bel⟩
theorem c_laws_szToleranceS (l : List Tolerance) (v : Value) (left : Int) (w : World) (lo : Nat) (hs : Sl_Tolerance lo w.heap.size w l v) (h3 : 0 ≤ left) (h4 : left ≤ 1048576) :
    Calls Tryz.prog 47 #[v, .int .i64 left] w fun e w' => e = .returned (.int .i64 (szI left (nL nTolerance l))) ∧ Below w.heap.size w w' := by
  obtain ⟨A, c, rfl, hlc, hc, hA⟩ := hs
  by_cases hlt : left - l.length < 0
  · have Hf := Lib.hid (show szI left (nL nTolerance l) = -1 by rw [nL_def]; unfold szI; rw [if_neg (by omega)])
    go_enter Tryz.func47, Tryz.ntmps47
    go_wp2_with fail
    go_ret
    exact ⟨ret_int Hf.out.symm, bel⟩
  · go_enter Tryz.func47, Tryz.ntmps47
    go_wp2_with fail
    go_loopw [1, 5] (fun x i wr => ∃ k : Nat, k ≤ l.length ∧ i = .int .i64 k ∧ x = .int .i64 (left - l.length - szL nTolerance (l.take k)) ∧ 0 ≤ left - l.length - szL nTolerance (l.take k) ∧ Below w.heap.size w wr) (fun _ i _ => l.length - (intOf i).toNat)
    case atStart => exact ⟨0, Nat.zero_le _, rfl, by simp [szL], by simp [szL]; omega, bel⟩
    case round =>
      obtain ⟨k, hk, rfl, rfl, hge, hbr⟩ := hrel
      by_cases hlt : k < l.length
      · obtain ⟨b, o, rfl, -, hb2, hcell⟩ := hA (by omega)
        obtain ⟨d, hd⟩ := exists_at hlt
        obtain ⟨cs, -, hcs, hC⟩ := hcell k d hd
        have hC' := hC
        obtain ⟨rfl, ea0, ea2, ea3⟩ := hC'
        have hc0 := (hbr.cell (p := ⟨b, o + k * 4 + 0, none⟩) (by simp; omega)).trans (hcs 0 (by omega))
        simp at hc0
        have hc1 := (hbr.cell (p := ⟨b, o + k * 4 + 1, none⟩) (by simp; omega)).trans (hcs 1 (by omega))
        simp at hc1
        have hc2 := (hbr.cell (p := ⟨b, o + k * 4 + 2, none⟩) (by simp; omega)).trans (hcs 2 (by omega))
        simp at hc2
        have hc3 := (hbr.cell (p := ⟨b, o + k * 4 + 3, none⟩) (by simp; omega)).trans (hcs 3 (by omega))
        simp at hc3
        clear hcs hcell hA
        have Hs := Lib.hid (szL_take_succ nTolerance l k d hd)
        have hle := szL_take_le nTolerance l (k+1)
        by_cases hneg : left - l.length - szL nTolerance (l.take k) - nTolerance d < 0
        · have hz : szI (left - l.length - szL nTolerance (l.take k)) (nTolerance d) = -1 := szI_neg (by omega)
          have Hf := Lib.hid (show szI left (nL nTolerance l) = -1 by rw [nL_def]; unfold szI; have := Hs.out; rw [if_neg (by omega)])
          go_wp2_with (go_at_call 90; refine (c_laws_szTolerance d _ _ _ hC (by omega) (by omega)).mono ?_; rintro e w1 ⟨rfl, hb⟩; (first | (have hcu2 := Cum.join hcu hb; (try clear hcu); (try clear hc); (try clear hfz); (try clear hsz); (try clear hs0); (try clear hs1); (try clear hs2); (try clear hs3); (try clear hs4); ) | have hcu2 := Cum.mk hb); have hcu := hcu2; clear hcu2; obtain ⟨hc, hfz⟩ := bcell hcu.h; have hsz := hcu.h.size; (try simp at hsz); (try have hs0 := lt_of_succ_le hsz); (try (have hs1 := lt_pred hsz; (try (have hs2 := lt_pred hs1; (try (have hs3 := lt_pred hs2; (try have hs4 := lt_pred hs3))))))))
          go_ret
          exact ⟨ret_int Hf.out.symm, bel⟩
        · have hz : szI (left - l.length - szL nTolerance (l.take k)) (nTolerance d) = left - l.length - szL nTolerance (l.take k) - nTolerance d := szI_pos (by omega)
          go_wp2_with (go_at_call 90; refine (c_laws_szTolerance d _ _ _ hC (by omega) (by omega)).mono ?_; rintro e w1 ⟨rfl, hb⟩; (first | (have hcu2 := Cum.join hcu hb; (try clear hcu); (try clear hc); (try clear hfz); (try clear hsz); (try clear hs0); (try clear hs1); (try clear hs2); (try clear hs3); (try clear hs4); ) | have hcu2 := Cum.mk hb); have hcu := hcu2; clear hcu2; obtain ⟨hc, hfz⟩ := bcell hcu.h; have hsz := hcu.h.size; (try simp at hsz); (try have hs0 := lt_of_succ_le hsz); (try (have hs1 := lt_pred hsz; (try (have hs2 := lt_pred hs1; (try (have hs3 := lt_pred hs2; (try have hs4 := lt_pred hs3))))))))
          go_roundw
          case rel => exact ⟨k + 1, by omega, by go_num, by rw [Hs.out]; go_num, by rw [Hs.out]; omega, bel⟩
          case measure => simp [intOf]; omega
      · obtain rfl : k = l.length := by omega
        rw [List.take_length] at *
        have Hf := Lib.hid (show szI left (nL nTolerance l) = left - l.length - szL nTolerance l by rw [nL_def]; unfold szI; rw [if_pos (by omega)]; omega)
        clear hA
        go_wp2_with fail
        go_ret
        exact ⟨ret_int Hf.out.symm, bel⟩
theorem c_laws_toToleranceS (l : List Tolerance) (v : Value) (w : World) (lo : Nat) (hs : Sl_Tolerance lo w.heap.size w l v) (hn : l.length ≤ 1048576) :
    Calls Tryz.prog 52 #[v] w fun e w' => ∃ A c, e = .returned (.slice A l.length c) ∧ Sl_Tolerance w.heap.size w'.heap.size w' l (.slice A l.length c) ∧ Below w.heap.size w w' := by
  obtain ⟨A, c, rfl, hlc, hc, hA⟩ := hs
  have hmk := run_make_slice (P := Tryz.prog) (z := .agg #[.string ⟨#[]⟩, .bool false, .string ⟨#[]⟩, .int .i64 0]) (size := 4) (bytes := 48) Tryz.underlying49 (by kernel_rfl) l.length (by omega) (by omega)
  go_enter Tryz.func52, Tryz.ntmps52
  go_wp2_with fail
  go_loopw [4] (fun i wr => ∃ (k : Nat) (cs : Array Value), k ≤ l.length ∧ i = .int .i64 k ∧ Below w.heap.size w wr ∧ wr.heap[w.heap.size]? = some (.cells cs 87 (0, 0)) ∧ Part (C_Tolerance) 4 l k cs) (fun i _ => l.length - (intOf i).toNat)
  case atStart => exact ⟨0, _, Nat.zero_le _, rfl, bel, heap_alloc_new _ _, Part.zero (by simp [size_madeCells])⟩
  case round =>
    obtain ⟨k, cs, hk, rfl, hbr, hg, hp⟩ := hrel
    by_cases hlt : k < l.length
    · obtain ⟨b, o, rfl, -, hb2, hcell⟩ := hA (by omega)
      obtain ⟨d, hd⟩ := exists_at hlt
      obtain ⟨es, -, hcs, hC⟩ := hcell k d hd
      have hC' := hC
      obtain ⟨rfl, ea0, ea2, ea3⟩ := hC'
      have hc0 := (hbr.cell (p := ⟨b, o + k * 4 + 0, none⟩) (by simp; omega)).trans (hcs 0 (by omega))
      simp at hc0
      have hc1 := (hbr.cell (p := ⟨b, o + k * 4 + 1, none⟩) (by simp; omega)).trans (hcs 1 (by omega))
      simp at hc1
      have hc2 := (hbr.cell (p := ⟨b, o + k * 4 + 2, none⟩) (by simp; omega)).trans (hcs 2 (by omega))
      simp at hc2
      have hc3 := (hbr.cell (p := ⟨b, o + k * 4 + 3, none⟩) (by simp; omega)).trans (hcs 3 (by omega))
      simp at hc3
      obtain ⟨x0, hx0⟩ := row_cell hg (o := k * 4 + 0) (by rw [hp.1]; omega)
      have hf0 := frozen_row hg (k * 4 + 0)
      rw [Nat.add_zero] at hx0 hf0
      obtain ⟨x1, hx1⟩ := row_cell hg (o := k * 4 + 1) (by rw [hp.1]; omega)
      have hf1 := frozen_row hg (k * 4 + 1)
      obtain ⟨x2, hx2⟩ := row_cell hg (o := k * 4 + 2) (by rw [hp.1]; omega)
      have hf2 := frozen_row hg (k * 4 + 2)
      obtain ⟨x3, hx3⟩ := row_cell hg (o := k * 4 + 3) (by rw [hp.1]; omega)
      have hf3 := frozen_row hg (k * 4 + 3)
      have hgl := row_lt hg
      clear hcs hcell hA
      go_wp2_with (go_at_call 97; refine (c_laws_toTolerance d _ _ hC).mono ?_; rintro e w1 ⟨rfl, hb⟩; (first | (have hcu2 := Cum.join hcu hb; (try clear hcu); (try clear hc); (try clear hfz); (try clear hsz); (try clear hs0); (try clear hs1); (try clear hs2); (try clear hs3); (try clear hs4); ) | have hcu2 := Cum.mk hb); have hcu := hcu2; clear hcu2; obtain ⟨hc, hfz⟩ := bcell hcu.h; have hsz := hcu.h.size; (try simp at hsz); (try have hs0 := lt_of_succ_le hsz); (try (have hs1 := lt_pred hsz; (try (have hs2 := lt_pred hs1; (try (have hs3 := lt_pred hs2; (try have hs4 := lt_pred hs3))))))))
      go_roundw
      case rel => exact ⟨k + 1, putAt cs (k * 4) [.string d.key, .bool d.equal, .string d.value, .int .i64 d.effect], by omega, by go_num, bel, heap_putCells [.string d.key, .bool d.equal, .string d.value, .int .i64 d.effect] _ _ _ _ _ ((hb.block _ hgl).trans hg), hp.store hd rfl hC⟩
      case measure => simp [intOf]; omega
    · obtain rfl : k = l.length := by omega
      clear hA
      go_wp2_with fail
      go_ret
      exact ⟨_, _, rfl, SlOf.of_part hp hg (Nat.le_refl _) (row_lt hg) (Nat.le_refl _) (by omega), bel⟩
theorem c_laws_eqToleranceS (l : List Tolerance) (va vb : Value) (w : World) (lo lo' : Nat) (ha : Sl_Tolerance lo w.heap.size w l va) (hb : Sl_Tolerance lo' w.heap.size w l vb) :
    Calls Tryz.prog 59 #[va, vb] w fun e w' => e = .returned (.bool true) ∧ Below w.heap.size w w' := by
  obtain ⟨A, c, rfl, hlc, hc, hA⟩ := ha
  obtain ⟨B, c', rfl, hlc', hc', hB⟩ := hb
  go_enter Tryz.func59, Tryz.ntmps59
  go_wp2_with fail
  go_loopw [5] (fun i wr => ∃ k : Nat, k ≤ l.length ∧ i = .int .i64 k ∧ Below w.heap.size w wr) (fun i _ => l.length - (intOf i).toNat)
  case atStart => exact ⟨0, Nat.zero_le _, rfl, bel⟩
  case round =>
    obtain ⟨k, hk, rfl, hbr⟩ := hrel
    by_cases hlt : k < l.length
    · obtain ⟨b, o, rfl, -, hb2, hcell⟩ := hA (by omega)
      obtain ⟨b', o', rfl, -, hb2', hcell'⟩ := hB (by omega)
      obtain ⟨d, hd⟩ := exists_at hlt
      obtain ⟨es, -, hcs, hC⟩ := hcell k d hd
      obtain ⟨es', -, hcs', hD⟩ := hcell' k d hd
      have hC' := hC
      have hD' := hD
      obtain ⟨rfl, ea0, ea2, ea3⟩ := hC'
      obtain ⟨rfl, fa0, fa2, fa3⟩ := hD'
      have hc0 := (hbr.cell (p := ⟨b, o + k * 4 + 0, none⟩) (by simp; omega)).trans (hcs 0 (by omega))
      simp at hc0
      have hc1 := (hbr.cell (p := ⟨b, o + k * 4 + 1, none⟩) (by simp; omega)).trans (hcs 1 (by omega))
      simp at hc1
      have hc2 := (hbr.cell (p := ⟨b, o + k * 4 + 2, none⟩) (by simp; omega)).trans (hcs 2 (by omega))
      simp at hc2
      have hc3 := (hbr.cell (p := ⟨b, o + k * 4 + 3, none⟩) (by simp; omega)).trans (hcs 3 (by omega))
      simp at hc3
      have hd0 := (hbr.cell (p := ⟨b', o' + k * 4 + 0, none⟩) (by simp; omega)).trans (hcs' 0 (by omega))
      simp at hd0
      have hd1 := (hbr.cell (p := ⟨b', o' + k * 4 + 1, none⟩) (by simp; omega)).trans (hcs' 1 (by omega))
      simp at hd1
      have hd2 := (hbr.cell (p := ⟨b', o' + k * 4 + 2, none⟩) (by simp; omega)).trans (hcs' 2 (by omega))
      simp at hd2
      have hd3 := (hbr.cell (p := ⟨b', o' + k * 4 + 3, none⟩) (by simp; omega)).trans (hcs' 3 (by omega))
      simp at hd3
      have hk0 : (0 : Int) ≤ k := by omega
      have hk1 : (k : Int) < l.length := by omega
      have hbl : b < wr.heap.size := Nat.lt_of_lt_of_le hb2 hbr.size
      have hbl' : b' < wr.heap.size := Nat.lt_of_lt_of_le hb2' hbr.size
      clear hcs hcell hA hcs' hcell' hB hd
      go_wp2_with fail
      go_region_held3 (fun w' => Below (wr).heap.size (wr) w' ∧ (∀ xb xo, xb < (wr).heap.size → w'.cell? ⟨xb, xo, none⟩ = (wr).cell? ⟨xb, xo, none⟩)) (first | exact keep_drew _ | exact keep_ext (by assumption) (by assumption) | exact keep_same (by assumption) | exact keep_alloc (by assumption) _) (first | (go_at_call 105; refine (c_laws_eqTolerance d _ _ _ hC hD).mono ?_; rintro e w9 ⟨rfl, hb9⟩))
      (have hb := held_step (by assumption); (first | (have hcu2 := Cum.join hcu hb; (try clear hcu); (try clear hc); (try clear hfz); (try clear hsz); (try clear hs0); (try clear hs1); (try clear hs2); (try clear hs3); (try clear hs4); ) | have hcu2 := Cum.mk hb); have hcu := hcu2; clear hcu2; obtain ⟨hc, hfz⟩ := bcell hcu.h; have hsz := hcu.h.size; (try simp at hsz); (try have hs0 := lt_of_succ_le hsz); (try (have hs1 := lt_pred hsz; (try (have hs2 := lt_pred hs1; (try (have hs3 := lt_pred hs2; (try have hs4 := lt_pred hs3))))))))
      go_wp2_with fail
      go_roundw
      case rel => exact ⟨k + 1, by omega, by go_num, bel⟩
      case measure => simp [intOf]; omega
    · obtain rfl : k = l.length := by omega
      clear hA hB
      go_wp2_with fail
      go_ret
      exact ⟨rfl, bel⟩
end Go.Proofs.YteecgklmdfockaaGreatDoor
