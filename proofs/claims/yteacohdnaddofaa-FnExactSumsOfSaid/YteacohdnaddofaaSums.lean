/- Contracts of AddInt, SumInts and SumsOf, and the walk of the law FnExactSumsOf. No conditions. Written by wip/tools/gensums.py. -/
import Derived.Test.YteacohdnaddofaaHPod
import Derived.Test.YteacohdnaddofaaCum2
import Derived.Deep.AppendLies
import Derived.OwnWalk
--CUM2
namespace Go.Proofs.Yteacohdnaddofaa
open Go.RowKit

def addB (a b : Int) : Bool := decide (0 ≤ a) && decide (0 ≤ b) && decide (a ≤ 9223372036854775807 - b)
def addV (a b : Int) : Int := if addB a b then a + b else 0
def sumO (s : Int) : List Int → Option Int
  | [] => some s
  | n :: l => if addB s n then sumO (s + n) l else none
def sumV (l : List Int) : Int := (sumO 0 l).getD 0
def sumB (l : List Int) : Bool := (sumO 0 l).isSome
theorem sumO_drop (s : Int) (l : List Int) (k : Nat) (n : Int) (h : l[k]? = some n) : sumO s (l.drop k) = if addB s n then sumO (s + n) (l.drop (k + 1)) else none := by
  have hl : k < l.length := (List.getElem?_eq_some_iff.1 h).1
  rw [List.drop_eq_getElem_cons hl]
  have : l[k] = n := by rw [List.getElem?_eq_getElem hl] at h; exact Option.some.inj h
  rw [this]
  rfl
def C_I64 (n : Int) (cs : List Value) : Prop := cs = [.int .i64 n] ∧ I64 n
abbrev Sl_I64 (lo hi : Nat) (w : World) (l : List Int) (v : Value) : Prop := SlOf C_I64 1 lo hi w l v
theorem Sl_I64.now {lo : Nat} {w w' : World} {l : List Int} {v : Value} (h : Sl_I64 lo w.heap.size w l v) (hb : Below w.heap.size w w') : Sl_I64 lo w'.heap.size w' l v := SlOf.keep h (same_below hb) (Nat.le_refl _) hb.size (fun _ _ _ h => h)
theorem own_I64 {w : World} {base : Nat} {l : List Int} {v : Value} (h : w.ownsRow base 3 1 v l.length (l.map (Value.int .i64))) (hi : ∀ n ∈ l, I64 n) : Sl_I64 0 w.heap.size w l v := by
  obtain ⟨hl, h1⟩ := h
  rcases h1 with ⟨rfl, h0⟩ | ⟨g, cap, cur, rfl, hb, hg, hnc, hcm, hcs, ht⟩
  · exact ⟨none, 0, by rw [h0], by omega, by omega, fun hp => by omega⟩
  · refine ⟨_, cap, rfl, hnc, by unfold maxLen at hcm; omega, fun _ => ⟨g, 0, rfl, Nat.zero_le _, row_lt hg, fun i n hn => ⟨[.int .i64 n], rfl, fun j hj => ?_, rfl, hi n (List.mem_of_getElem? hn)⟩⟩⟩
    obtain rfl : j = 0 := by omega
    have hil : i < l.length := (List.getElem?_eq_some_iff.1 hn).1
    have : (cur.toList.take (l.length * 1))[i]? = some (.int .i64 n) := by rw [ht, List.getElem?_map, hn]; rfl
    rw [List.getElem?_take, if_pos (by omega)] at this
    rw [cell_of_row w g _ cur _ _ hg]
    simpa using this
theorem own_keep {w w' : World} {base : Nat} {e : TypeId} {size : Nat} {v : Value} {n : Nat} {xs : List Value} (h : w.ownsRow base e size v n xs) (hb : ∀ g, v.ownBlock = some g → w'.heap[g]? = w.heap[g]?) : w'.ownsRow base e size v n xs := by
  refine ⟨h.1, ?_⟩
  rcases h.2 with h0 | ⟨g, cap, cur, rfl, h1, h2, h3⟩
  · exact .inl h0
  · exact .inr ⟨g, cap, cur, rfl, h1, (hb g rfl).trans h2, h3⟩
theorem own_none {w : World} {e : TypeId} {size base B : Nat} (hB : B = w.heap.size) (hb : base ≤ w.heap.size) : (w.alloc (.cells #[] e)).ownsRow base e size (.slice (some ⟨B, 0, none⟩) 0 0) 0 [] := by
  subst hB
  exact World.ownsRow_made w #[] 0 hb (by decide) (by simp)
theorem heap_sum {w : World} {o : Obj} {b : Nat} (h : b = w.heap.size) : (w.alloc o).heap[b]? = some o := by subst h; exact heap_alloc_new w o
def sumsA (l : List Pod) : Int := match sumO 0 (l.map Pod.cpu), sumO 0 (l.map Pod.mem) with | some a, some _ => a | _, _ => 0
def sumsM (l : List Pod) : Int := match sumO 0 (l.map Pod.cpu), sumO 0 (l.map Pod.mem) with | some _, some b => b | _, _ => 0
def sumsC (l : List Pod) : Bool := sumB (l.map Pod.cpu) && sumB (l.map Pod.mem)
theorem map_take {D : Type} (f : D → Int) (l : List D) (k : Nat) (d : D) (h : l[k]? = some d) : (l.take (k + 1)).map (fun x => Value.int .i64 (f x)) = (l.take k).map (fun x => Value.int .i64 (f x)) ++ [.int .i64 (f d)] := by
  rw [List.take_add_one, h]; simp

theorem c_impl_AddInt (a b : Int) (w : World) (ha : I64 a) (hb : I64 b) :
    Calls Try.prog 106 #[.int .i64 a, .int .i64 b] w fun e w' => e = .returned (.tuple #[.int .i64 (addV a b), .bool (addB a b)]) ∧ w = w' := by
  unfold I64 at ha hb
  by_cases h1 : a < 0
  · have H1 := Lib.hid (show addB a b = false by unfold addB; simp; omega)
    have H2 := Lib.hid (show addV a b = 0 by unfold addV; rw [H1.out]; rfl)
    go_enter Try.func106, Try.ntmps106
    go_wp2_with fail
    go_ret2
    exact ⟨by rw [H1.out, H2.out]; rfl, rfl⟩
  · by_cases h2 : b < 0
    · have H1 := Lib.hid (show addB a b = false by unfold addB; simp; omega)
      have H2 := Lib.hid (show addV a b = 0 by unfold addV; rw [H1.out]; rfl)
      go_enter Try.func106, Try.ntmps106
      go_wp2_with fail
      go_ret2
      exact ⟨by rw [H1.out, H2.out]; rfl, rfl⟩
    · by_cases h3 : 9223372036854775807 - b < a
      · have H1 := Lib.hid (show addB a b = false by unfold addB; simp; omega)
        have H2 := Lib.hid (show addV a b = 0 by unfold addV; rw [H1.out]; rfl)
        go_enter Try.func106, Try.ntmps106
        go_wp2_with fail
        go_ret2
        exact ⟨by rw [H1.out, H2.out]; rfl, rfl⟩
      · have H1 := Lib.hid (show addB a b = true by unfold addB; simp; omega)
        have H2 := Lib.hid (show addV a b = a + b by unfold addV; rw [H1.out]; rfl)
        go_enter Try.func106, Try.ntmps106
        go_wp2_with fail
        go_ret2
        exact ⟨by rw [H1.out, H2.out]; rfl, rfl⟩
theorem c_impl_SumInts (l : List Int) (v : Value) (w : World) (lo : Nat) (hs : Sl_I64 lo w.heap.size w l v) :
    Calls Try.prog 62 #[v] w fun e w' => e = .returned (.tuple #[.int .i64 (sumV l), .bool (sumB l)]) ∧ w = w' := by
  obtain ⟨A, c, rfl, hlc, hc, hA⟩ := hs
  go_enter Try.func62, Try.ntmps62
  go_wp2_with fail
  go_loop [4, 11] (fun x i => ∃ (k : Nat) (s : Int), k ≤ l.length ∧ i = .int .i64 k ∧ x = .int .i64 s ∧ I64 s ∧ sumO 0 l = sumO s (l.drop k)) (fun _ i => l.length - (intOf i).toNat)
  case atStart => exact ⟨0, 0, Nat.zero_le _, rfl, rfl, by unfold I64; decide, rfl⟩
  case round =>
    obtain ⟨k, s, hk, rfl, rfl, hsI, heq⟩ := hrel
    have Heq := Lib.hid heq
    clear heq
    by_cases hlt : k < l.length
    · obtain ⟨b, o, rfl, -, -, hcell⟩ := hA (by omega)
      obtain ⟨d, hd⟩ := exists_at hlt
      obtain ⟨es, -, hcs, rfl, hdI⟩ := hcell k d hd
      have hc0 := hcs 0 (by omega)
      simp at hc0
      have Ho := Lib.hid (sumO_drop s l k d hd)
      clear hcs hcell hA
      rcases hz : addB s d with _ | _
      · have Hf := Lib.hid (show sumO 0 l = none by rw [Heq.out, Ho.out, hz]; rfl)
        have H1 := Lib.hid (show sumV l = 0 by unfold sumV; rw [Hf.out]; rfl)
        have H2 := Lib.hid (show sumB l = false by unfold sumB; rw [Hf.out]; rfl)
        go_wp2_with (first | (go_at_call 106; refine (c_impl_AddInt _ _ _ (by assumption) (by assumption)).mono ?_; rintro e w1 ⟨rfl, rfl⟩))
        go_ret2
        exact ⟨by rw [H1.out, H2.out]; rfl, rfl⟩
      · have Hv := Lib.hid (show addV s d = s + d by unfold addV; rw [hz]; rfl)
        have Hn := Lib.hid (show sumO 0 l = sumO (s + d) (l.drop (k + 1)) by rw [Heq.out, Ho.out, hz]; rfl)
        have Hi := Lib.hid (show I64 (s + d) by unfold addB at hz; unfold I64 at *; simp at hz; omega)
        go_wp2_with (first | (go_at_call 106; refine (c_impl_AddInt _ _ _ (by assumption) (by assumption)).mono ?_; rintro e w1 ⟨rfl, rfl⟩))
        go_round
        case rel => exact ⟨k + 1, s + d, by omega, by go_num, by rw [Hv.out], Hi.out, Hn.out⟩
        case measure => simp [intOf]; omega
    · obtain rfl : k = l.length := by omega
      have Hf := Lib.hid (show sumO 0 l = some s by rw [Heq.out, List.drop_length]; rfl)
      have H1 := Lib.hid (show sumV l = s by unfold sumV; rw [Hf.out]; rfl)
      have H2 := Lib.hid (show sumB l = true by unfold sumB; rw [Hf.out]; rfl)
      clear hA
      go_wp2_with fail
      go_ret2
      exact ⟨by rw [H1.out, H2.out]; rfl, rfl⟩
theorem c_spec_AddInt (a b : Int) (w : World) (ha : I64 a) (hb : I64 b) :
    Calls Try.prog 105 #[.int .i64 a, .int .i64 b] w fun e w' => e = .returned (.tuple #[.int .i64 (addV a b), .bool (addB a b)]) ∧ w = w' := by
  unfold I64 at ha hb
  by_cases h1 : a < 0
  · have H1 := Lib.hid (show addB a b = false by unfold addB; simp; omega)
    have H2 := Lib.hid (show addV a b = 0 by unfold addV; rw [H1.out]; rfl)
    go_enter Try.func105, Try.ntmps105
    go_wp2_with fail
    go_ret2
    exact ⟨by rw [H1.out, H2.out]; rfl, rfl⟩
  · by_cases h2 : b < 0
    · have H1 := Lib.hid (show addB a b = false by unfold addB; simp; omega)
      have H2 := Lib.hid (show addV a b = 0 by unfold addV; rw [H1.out]; rfl)
      go_enter Try.func105, Try.ntmps105
      go_wp2_with fail
      go_ret2
      exact ⟨by rw [H1.out, H2.out]; rfl, rfl⟩
    · by_cases h3 : 9223372036854775807 - b < a
      · have H1 := Lib.hid (show addB a b = false by unfold addB; simp; omega)
        have H2 := Lib.hid (show addV a b = 0 by unfold addV; rw [H1.out]; rfl)
        go_enter Try.func105, Try.ntmps105
        go_wp2_with fail
        go_ret2
        exact ⟨by rw [H1.out, H2.out]; rfl, rfl⟩
      · have H1 := Lib.hid (show addB a b = true by unfold addB; simp; omega)
        have H2 := Lib.hid (show addV a b = a + b by unfold addV; rw [H1.out]; rfl)
        go_enter Try.func105, Try.ntmps105
        go_wp2_with fail
        go_ret2
        exact ⟨by rw [H1.out, H2.out]; rfl, rfl⟩
theorem c_spec_SumInts (l : List Int) (v : Value) (w : World) (lo : Nat) (hs : Sl_I64 lo w.heap.size w l v) :
    Calls Try.prog 61 #[v] w fun e w' => e = .returned (.tuple #[.int .i64 (sumV l), .bool (sumB l)]) ∧ w = w' := by
  obtain ⟨A, c, rfl, hlc, hc, hA⟩ := hs
  go_enter Try.func61, Try.ntmps61
  go_wp2_with fail
  go_loop [4, 5] (fun x i => ∃ (k : Nat) (s : Int), k ≤ l.length ∧ i = .int .i64 k ∧ x = .int .i64 s ∧ I64 s ∧ sumO 0 l = sumO s (l.drop k)) (fun _ i => l.length - (intOf i).toNat)
  case atStart => exact ⟨0, 0, Nat.zero_le _, rfl, rfl, by unfold I64; decide, rfl⟩
  case round =>
    obtain ⟨k, s, hk, rfl, rfl, hsI, heq⟩ := hrel
    have Heq := Lib.hid heq
    clear heq
    by_cases hlt : k < l.length
    · obtain ⟨b, o, rfl, -, -, hcell⟩ := hA (by omega)
      obtain ⟨d, hd⟩ := exists_at hlt
      obtain ⟨es, -, hcs, rfl, hdI⟩ := hcell k d hd
      have hc0 := hcs 0 (by omega)
      simp at hc0
      have Ho := Lib.hid (sumO_drop s l k d hd)
      clear hcs hcell hA
      rcases hz : addB s d with _ | _
      · have Hf := Lib.hid (show sumO 0 l = none by rw [Heq.out, Ho.out, hz]; rfl)
        have H1 := Lib.hid (show sumV l = 0 by unfold sumV; rw [Hf.out]; rfl)
        have H2 := Lib.hid (show sumB l = false by unfold sumB; rw [Hf.out]; rfl)
        go_wp2_with (first | (go_at_call 105; refine (c_spec_AddInt _ _ _ (by assumption) (by assumption)).mono ?_; rintro e w1 ⟨rfl, rfl⟩))
        go_ret2
        exact ⟨by rw [H1.out, H2.out]; rfl, rfl⟩
      · have Hv := Lib.hid (show addV s d = s + d by unfold addV; rw [hz]; rfl)
        have Hn := Lib.hid (show sumO 0 l = sumO (s + d) (l.drop (k + 1)) by rw [Heq.out, Ho.out, hz]; rfl)
        have Hi := Lib.hid (show I64 (s + d) by unfold addB at hz; unfold I64 at *; simp at hz; omega)
        go_wp2_with (first | (go_at_call 105; refine (c_spec_AddInt _ _ _ (by assumption) (by assumption)).mono ?_; rintro e w1 ⟨rfl, rfl⟩))
        go_round
        case rel => exact ⟨k + 1, s + d, by omega, by go_num, by rw [Hv.out], Hi.out, Hn.out⟩
        case measure => simp [intOf]; omega
    · obtain rfl : k = l.length := by omega
      have Hf := Lib.hid (show sumO 0 l = some s by rw [Heq.out, List.drop_length]; rfl)
      have H1 := Lib.hid (show sumV l = s by unfold sumV; rw [Hf.out]; rfl)
      have H2 := Lib.hid (show sumB l = true by unfold sumB; rw [Hf.out]; rfl)
      clear hA
      go_wp2_with fail
      go_ret2
      exact ⟨by rw [H1.out, H2.out]; rfl, rfl⟩
set_option maxHeartbeats 1000000 in
set_option maxRecDepth 10000 in
theorem c_impl_SumsOf (l : List Pod) (v : Value) (w : World) (lo : Nat) (hs : Sl_Pod lo w.heap.size w l v) (hn : l.length ≤ 1048576) :
    Calls Try.prog 27 #[v] w fun e w' => e = .returned (.tuple #[.int .i64 (sumsA l), .int .i64 (sumsM l), .bool (sumsC l)]) ∧ Below w.heap.size w w' := by
  obtain ⟨i0, hi, hz0, hz1, hz2⟩ := info_parts (show (Try.prog.info? 3).map (fun i => (i.zero, i.size, i.bytes)) = some (some (.int .i64 0), 1, 8) from by kernel_rfl)
  have HI := Lib.hid (show ∀ p ∈ l, I64 p.cpu ∧ I64 p.mem from fun p hp => by
    obtain ⟨i, hi⟩ := List.getElem?_of_mem hp
    obtain ⟨A, c, -, -, -, hA⟩ := hs
    obtain ⟨b, o, -, -, -, hcell⟩ := hA (Nat.lt_of_le_of_lt (Nat.zero_le i) (List.getElem?_eq_some_iff.1 hi).1)
    obtain ⟨es, -, -, hC⟩ := hcell i p hi
    obtain ⟨v1, v5, v6, -, -, -, a2, a3, -⟩ := hC
    exact ⟨a2, a3⟩)
  obtain ⟨A, c, rfl, hlc, hc, hA⟩ := hs
  go_enter Try.func27, Try.ntmps27
  go_wp2_with fail
  go_loopw [5, 6, 17] (fun x y i wr => ∃ k : Nat, k ≤ l.length ∧ i = .int .i64 k ∧ wr.ownsRow w.heap.size 3 1 x k ((l.take k).map (fun p => Value.int .i64 p.cpu)) ∧ wr.ownsRow w.heap.size 3 1 y k ((l.take k).map (fun p => Value.int .i64 p.mem)) ∧ (∀ g, x.ownBlock = some g → y.ownBlock ≠ some g) ∧ Below w.heap.size w wr) (fun _ _ i _ => l.length - (intOf i).toNat)
  case atStart => exact ⟨0, Nat.zero_le _, rfl, World.ownsRow.alloc (own_none (by simp) (by simp)) _, own_none (by simp) (by simp), (fun g h => by simp [Value.ownBlock] at h ⊢; omega), (by repeat (first | (with_reducible exact Below.refl _ _) | (with_reducible refine ext_alloc ?_) | ((with_reducible refine ext_setCell ?_ ?_); focus (simp; (try omega))) | (with_reducible refine below_drewN ?_ _) | (with_reducible refine Below.drew ?_) | (with_reducible (apply ext_step; assumption))))⟩
  case round =>
    obtain ⟨k, hk, rfl, hx, hy, hne, hbr⟩ := hrel
    have Hx := Lib.hid hx
    have Hy := Lib.hid hy
    have Hne := Lib.hid hne
    have hbs := hbr.size
    clear hx hy hne
    by_cases hlt : k < l.length
    · obtain ⟨b, o, rfl, -, hb2, hcell⟩ := hA (by omega)
      obtain ⟨d, hd⟩ := exists_at hlt
      obtain ⟨es, -, hcs, hC⟩ := hcell k d hd
      obtain ⟨A1, c1, A5, c5, A6, c6, rfl⟩ := C_Pod.open hC
      have hc0 := (hbr.cell (p := ⟨b, o + k * 7 + 0, none⟩) (by simp; omega)).trans (hcs 0 (by omega))
      have hc1 := (hbr.cell (p := ⟨b, o + k * 7 + 1, none⟩) (by simp; omega)).trans (hcs 1 (by omega))
      have hc2 := (hbr.cell (p := ⟨b, o + k * 7 + 2, none⟩) (by simp; omega)).trans (hcs 2 (by omega))
      have hc3 := (hbr.cell (p := ⟨b, o + k * 7 + 3, none⟩) (by simp; omega)).trans (hcs 3 (by omega))
      have hc4 := (hbr.cell (p := ⟨b, o + k * 7 + 4, none⟩) (by simp; omega)).trans (hcs 4 (by omega))
      have hc5 := (hbr.cell (p := ⟨b, o + k * 7 + 5, none⟩) (by simp; omega)).trans (hcs 5 (by omega))
      have hc6 := (hbr.cell (p := ⟨b, o + k * 7 + 6, none⟩) (by simp; omega)).trans (hcs 6 (by omega))
      simp at hc0 hc1 hc2 hc3 hc4 hc5 hc6
      have hbl : b < wr.heap.size := Nat.lt_of_lt_of_le hb2 hbr.size
      have hbl2 : b < wr.heap.size + 1 := by omega
      have M1 := Lib.hid (map_take Pod.cpu l k d hd)
      have M2 := Lib.hid (map_take Pod.mem l k d hd)
      clear hcs hcell hA hC hd
      go_wp2_with (first | (at_builtin; refine wpList_append_lies _ rfl (.tmp 21) (.tmp 24) 104 rfl w.heap.size 3 i0 (.int .i64 0) 1 8 Try.underlying104 hi hz0 hz1 hz2 rfl (by decide) _ k _ rfl ((Hx.out.alloc _).alloc _) _ 1 1 [.int .i64 d.cpu] rfl rfl (World.news_of_block (heap_sum (by simp))) (by intro u hu; simp at hu; subst hu; rfl) (by decide) (by unfold maxLen; omega) (by omega) (by simp; omega) _ rfl ?_; intro g cap w1 hown hgrow hat hlt1; have q3 := cell_of_row w1 wr.heap.size 3 _ _ _ ((hgrow.block wr.heap.size (by simp; omega) (fun e => by have := (Hx.out.lt _ e.symm).2; omega)).trans ((Below.heap_alloc _ _ _ (by simp)).trans (heap_alloc_new _ _))); simp at q3; have Y1 := Lib.hid (own_keep Hy.out (w' := w1) (fun q hq => (hgrow.block q (by have := (Hy.out.lt q hq).2; simp; omega) (fun e => Hne.out q e.symm hq)).trans ((Below.heap_alloc _ _ _ (by have := (Hy.out.lt q hq).2; simp; omega)).trans (Below.heap_alloc _ _ _ (Hy.out.lt q hq).2)))); have hs1 := hgrow.size; simp at hs1; have hB1 := Below.grown (w' := w1) ((hbr.alloc hbs _).alloc (by simp; omega) _) hgrow (by simp; omega) (fun q hq => (Hx.out.lt q hq).1); have X1 := Lib.hid hown; have Hat := Lib.hid hat; have HB1 := Lib.hid hB1; clear hgrow hat hown hB1) | (at_builtin; refine wpList_append_lies _ rfl (.tmp 26) (.tmp 29) 104 rfl w.heap.size 3 i0 (.int .i64 0) 1 8 Try.underlying104 hi hz0 hz1 hz2 rfl (by decide) _ k _ rfl (Y1.out.alloc _) _ 1 1 [.int .i64 d.mem] rfl rfl (World.news_of_block (heap_sum (by simp))) (by intro u hu; simp at hu; subst hu; rfl) (by decide) (by unfold maxLen; omega) (by omega) (by simp; omega) _ rfl ?_))
      intro g2 cap2 w2 hown2 hgrow2 hat2 hlt2
      have hyg : ∀ q, Value.ownBlock _ = some q → q ≠ g := fun q hq e => by
        subst e
        rcases Hat.out with h | h
        · exact Hne.out _ h hq
        · have := (Hy.out.lt _ hq).2
          simp at h
          omega
      have X2 := own_keep X1.out (w' := w2) (fun q hq => (hgrow2.block q (by simp [Value.ownBlock] at hq; simp; omega) (fun e => by simp [Value.ownBlock] at hq; exact hyg q e.symm hq.symm)).trans (Below.heap_alloc _ _ _ (by simp [Value.ownBlock] at hq; omega)))
      have hB2 := Below.grown (w' := w2) (HB1.out.alloc (by omega) _) hgrow2 (by simp; omega) (fun q hq => (Hy.out.lt q hq).1)
      have hne2 : ∀ q, (Value.slice (some ⟨g, 0, none⟩) (k + 1) cap).ownBlock = some q → (Value.slice (some ⟨g2, 0, none⟩) (k + 1) cap2).ownBlock ≠ some q := fun q h1 h2 => by
        simp [Value.ownBlock] at h1 h2
        subst h1
        rcases hat2 with h | h
        · exact hyg _ h (by omega)
        · (try simp at h); omega
      clear hgrow2
      go_wp2_with fail
      go_roundw
      case rel => exact ⟨k + 1, by omega, by go_num, by rw [M1.out]; first | exact X2 | (rw [List.map_take]; exact X2), by rw [M2.out]; first | exact hown2 | (rw [List.map_take]; exact hown2), hne2, hB2⟩
      case measure => simp [intOf]; omega
    · obtain rfl : k = l.length := by omega
      have SX := Lib.hid (own_I64 (l := l.map Pod.cpu) (by have := Hx.out; rw [List.take_length] at this; simpa [Function.comp_def] using this) (fun n hn => by obtain ⟨p, hp, rfl⟩ := List.mem_map.1 hn; exact (HI.out p hp).1))
      have SY := Lib.hid (own_I64 (l := l.map Pod.mem) (by have := Hy.out; rw [List.take_length] at this; simpa [Function.comp_def] using this) (fun n hn => by obtain ⟨p, hp, rfl⟩ := List.mem_map.1 hn; exact (HI.out p hp).2))
      clear hA
      rcases k1 : sumO 0 (l.map Pod.cpu) with _ | a
      · rcases k2 : sumO 0 (l.map Pod.mem) with _ | b
        · skip
          have V1 := Lib.hid (show sumV (l.map Pod.cpu) = 0 by unfold sumV; rw [k1]; rfl)
          have B1 := Lib.hid (show sumB (l.map Pod.cpu) = false by unfold sumB; rw [k1]; rfl)
          have V2 := Lib.hid (show sumV (l.map Pod.mem) = 0 by unfold sumV; rw [k2]; rfl)
          have B2 := Lib.hid (show sumB (l.map Pod.mem) = false by unfold sumB; rw [k2]; rfl)
          have R1 := Lib.hid (show sumsA l = 0 by unfold sumsA; rw [k1, k2])
          have R2 := Lib.hid (show sumsM l = 0 by unfold sumsM; rw [k1, k2])
          have R3 := Lib.hid (show sumsC l = false by unfold sumsC; rw [B1.out, B2.out]; rfl)
          go_wp2_with fail
          refine (c_impl_SumInts (l.map Pod.cpu) _ _ 0 SX.out).mono ?_
          rintro e w1 ⟨rfl, rfl⟩
          rw [V1.out, B1.out]
          go_wp2_with fail
          refine (c_impl_SumInts (l.map Pod.mem) _ _ 0 SY.out).mono ?_
          rintro e w1 ⟨rfl, rfl⟩
          rw [V2.out, B2.out]
          go_wp2_with fail
          exact bodyPost_ret (v := .tuple #[.int .i64 0, .int .i64 0, .bool false]) (by simp only [results, Try.results27]; go_simp) rfl ⟨by rw [R1.out, R2.out, R3.out], hbr⟩
        · skip
          have V1 := Lib.hid (show sumV (l.map Pod.cpu) = 0 by unfold sumV; rw [k1]; rfl)
          have B1 := Lib.hid (show sumB (l.map Pod.cpu) = false by unfold sumB; rw [k1]; rfl)
          have V2 := Lib.hid (show sumV (l.map Pod.mem) = b by unfold sumV; rw [k2]; rfl)
          have B2 := Lib.hid (show sumB (l.map Pod.mem) = true by unfold sumB; rw [k2]; rfl)
          have R1 := Lib.hid (show sumsA l = 0 by unfold sumsA; rw [k1, k2])
          have R2 := Lib.hid (show sumsM l = 0 by unfold sumsM; rw [k1, k2])
          have R3 := Lib.hid (show sumsC l = false by unfold sumsC; rw [B1.out, B2.out]; rfl)
          go_wp2_with fail
          refine (c_impl_SumInts (l.map Pod.cpu) _ _ 0 SX.out).mono ?_
          rintro e w1 ⟨rfl, rfl⟩
          rw [V1.out, B1.out]
          go_wp2_with fail
          refine (c_impl_SumInts (l.map Pod.mem) _ _ 0 SY.out).mono ?_
          rintro e w1 ⟨rfl, rfl⟩
          rw [V2.out, B2.out]
          go_wp2_with fail
          exact bodyPost_ret (v := .tuple #[.int .i64 0, .int .i64 0, .bool false]) (by simp only [results, Try.results27]; go_simp) rfl ⟨by rw [R1.out, R2.out, R3.out], hbr⟩
      · rcases k2 : sumO 0 (l.map Pod.mem) with _ | b
        · skip
          have V1 := Lib.hid (show sumV (l.map Pod.cpu) = a by unfold sumV; rw [k1]; rfl)
          have B1 := Lib.hid (show sumB (l.map Pod.cpu) = true by unfold sumB; rw [k1]; rfl)
          have V2 := Lib.hid (show sumV (l.map Pod.mem) = 0 by unfold sumV; rw [k2]; rfl)
          have B2 := Lib.hid (show sumB (l.map Pod.mem) = false by unfold sumB; rw [k2]; rfl)
          have R1 := Lib.hid (show sumsA l = 0 by unfold sumsA; rw [k1, k2])
          have R2 := Lib.hid (show sumsM l = 0 by unfold sumsM; rw [k1, k2])
          have R3 := Lib.hid (show sumsC l = false by unfold sumsC; rw [B1.out, B2.out]; rfl)
          go_wp2_with fail
          refine (c_impl_SumInts (l.map Pod.cpu) _ _ 0 SX.out).mono ?_
          rintro e w1 ⟨rfl, rfl⟩
          rw [V1.out, B1.out]
          go_wp2_with fail
          refine (c_impl_SumInts (l.map Pod.mem) _ _ 0 SY.out).mono ?_
          rintro e w1 ⟨rfl, rfl⟩
          rw [V2.out, B2.out]
          go_wp2_with fail
          exact bodyPost_ret (v := .tuple #[.int .i64 0, .int .i64 0, .bool false]) (by simp only [results, Try.results27]; go_simp) rfl ⟨by rw [R1.out, R2.out, R3.out], hbr⟩
        · skip
          have V1 := Lib.hid (show sumV (l.map Pod.cpu) = a by unfold sumV; rw [k1]; rfl)
          have B1 := Lib.hid (show sumB (l.map Pod.cpu) = true by unfold sumB; rw [k1]; rfl)
          have V2 := Lib.hid (show sumV (l.map Pod.mem) = b by unfold sumV; rw [k2]; rfl)
          have B2 := Lib.hid (show sumB (l.map Pod.mem) = true by unfold sumB; rw [k2]; rfl)
          have R1 := Lib.hid (show sumsA l = a by unfold sumsA; rw [k1, k2])
          have R2 := Lib.hid (show sumsM l = b by unfold sumsM; rw [k1, k2])
          have R3 := Lib.hid (show sumsC l = true by unfold sumsC; rw [B1.out, B2.out]; rfl)
          go_wp2_with fail
          refine (c_impl_SumInts (l.map Pod.cpu) _ _ 0 SX.out).mono ?_
          rintro e w1 ⟨rfl, rfl⟩
          rw [V1.out, B1.out]
          go_wp2_with fail
          refine (c_impl_SumInts (l.map Pod.mem) _ _ 0 SY.out).mono ?_
          rintro e w1 ⟨rfl, rfl⟩
          rw [V2.out, B2.out]
          go_wp2_with fail
          exact bodyPost_ret (v := .tuple #[.int .i64 a, .int .i64 b, .bool true]) (by simp only [results, Try.results27]; go_simp) rfl ⟨by rw [R1.out, R2.out, R3.out], hbr⟩
set_option maxHeartbeats 1000000 in
set_option maxRecDepth 10000 in
theorem c_spec_SumsOf (l : List Pod) (v : Value) (w : World) (lo : Nat) (hs : Sl_Pod lo w.heap.size w l v) (hn : l.length ≤ 1048576) :
    Calls Try.prog 25 #[v] w fun e w' => e = .returned (.tuple #[.int .i64 (sumsA l), .int .i64 (sumsM l), .bool (sumsC l)]) ∧ Below w.heap.size w w' := by
  obtain ⟨i0, hi, hz0, hz1, hz2⟩ := info_parts (show (Try.prog.info? 3).map (fun i => (i.zero, i.size, i.bytes)) = some (some (.int .i64 0), 1, 8) from by kernel_rfl)
  have HI := Lib.hid (show ∀ p ∈ l, I64 p.cpu ∧ I64 p.mem from fun p hp => by
    obtain ⟨i, hi⟩ := List.getElem?_of_mem hp
    obtain ⟨A, c, -, -, -, hA⟩ := hs
    obtain ⟨b, o, -, -, -, hcell⟩ := hA (Nat.lt_of_le_of_lt (Nat.zero_le i) (List.getElem?_eq_some_iff.1 hi).1)
    obtain ⟨es, -, -, hC⟩ := hcell i p hi
    obtain ⟨v1, v5, v6, -, -, -, a2, a3, -⟩ := hC
    exact ⟨a2, a3⟩)
  obtain ⟨A, c, rfl, hlc, hc, hA⟩ := hs
  go_enter Try.func25, Try.ntmps25
  go_wp2_with fail
  go_loopw [5, 6, 7] (fun x y i wr => ∃ k : Nat, k ≤ l.length ∧ i = .int .i64 k ∧ wr.ownsRow w.heap.size 3 1 x k ((l.take k).map (fun p => Value.int .i64 p.cpu)) ∧ wr.ownsRow w.heap.size 3 1 y k ((l.take k).map (fun p => Value.int .i64 p.mem)) ∧ (∀ g, x.ownBlock = some g → y.ownBlock ≠ some g) ∧ Below w.heap.size w wr) (fun _ _ i _ => l.length - (intOf i).toNat)
  case atStart => exact ⟨0, Nat.zero_le _, rfl, World.ownsRow.alloc (own_none (by simp) (by simp)) _, own_none (by simp) (by simp), (fun g h => by simp [Value.ownBlock] at h ⊢; omega), (by repeat (first | (with_reducible exact Below.refl _ _) | (with_reducible refine ext_alloc ?_) | ((with_reducible refine ext_setCell ?_ ?_); focus (simp; (try omega))) | (with_reducible refine below_drewN ?_ _) | (with_reducible refine Below.drew ?_) | (with_reducible (apply ext_step; assumption))))⟩
  case round =>
    obtain ⟨k, hk, rfl, hx, hy, hne, hbr⟩ := hrel
    have Hx := Lib.hid hx
    have Hy := Lib.hid hy
    have Hne := Lib.hid hne
    have hbs := hbr.size
    clear hx hy hne
    by_cases hlt : k < l.length
    · obtain ⟨b, o, rfl, -, hb2, hcell⟩ := hA (by omega)
      obtain ⟨d, hd⟩ := exists_at hlt
      obtain ⟨es, -, hcs, hC⟩ := hcell k d hd
      obtain ⟨A1, c1, A5, c5, A6, c6, rfl⟩ := C_Pod.open hC
      have hc0 := (hbr.cell (p := ⟨b, o + k * 7 + 0, none⟩) (by simp; omega)).trans (hcs 0 (by omega))
      have hc1 := (hbr.cell (p := ⟨b, o + k * 7 + 1, none⟩) (by simp; omega)).trans (hcs 1 (by omega))
      have hc2 := (hbr.cell (p := ⟨b, o + k * 7 + 2, none⟩) (by simp; omega)).trans (hcs 2 (by omega))
      have hc3 := (hbr.cell (p := ⟨b, o + k * 7 + 3, none⟩) (by simp; omega)).trans (hcs 3 (by omega))
      have hc4 := (hbr.cell (p := ⟨b, o + k * 7 + 4, none⟩) (by simp; omega)).trans (hcs 4 (by omega))
      have hc5 := (hbr.cell (p := ⟨b, o + k * 7 + 5, none⟩) (by simp; omega)).trans (hcs 5 (by omega))
      have hc6 := (hbr.cell (p := ⟨b, o + k * 7 + 6, none⟩) (by simp; omega)).trans (hcs 6 (by omega))
      simp at hc0 hc1 hc2 hc3 hc4 hc5 hc6
      have hbl : b < wr.heap.size := Nat.lt_of_lt_of_le hb2 hbr.size
      have hbl2 : b < wr.heap.size + 1 := by omega
      have M1 := Lib.hid (map_take Pod.cpu l k d hd)
      have M2 := Lib.hid (map_take Pod.mem l k d hd)
      clear hcs hcell hA hC hd
      go_wp2_with (first | (at_builtin; refine wpList_append_lies _ rfl (.tmp 20) (.tmp 26) 104 rfl w.heap.size 3 i0 (.int .i64 0) 1 8 Try.underlying104 hi hz0 hz1 hz2 rfl (by decide) _ k _ rfl (Hx.out.alloc _) _ 1 1 [.int .i64 d.cpu] rfl rfl (World.news_of_block (heap_sum (by simp))) (by intro u hu; simp at hu; subst hu; rfl) (by decide) (by unfold maxLen; omega) (by omega) (by simp; omega) _ rfl ?_; intro g cap w1 hown hgrow hat hlt1; have q3 := (hgrow.cell_far ⟨b, o + k * 7 + 3, none⟩ (by simp; omega) (fun e => by have := (Hx.out.lt _ e.symm).1; simp at this; omega)).trans ((World.cell?_of_block (Below.heap_alloc _ _ b hbl)).trans hc3); have Y1 := Lib.hid (own_keep Hy.out (w' := w1) (fun q hq => (hgrow.block q (by have := (Hy.out.lt q hq).2; simp; omega) (fun e => Hne.out q e.symm hq)).trans (Below.heap_alloc _ _ _ (Hy.out.lt q hq).2))); have hs1 := hgrow.size; simp at hs1; have hB1 := Below.grown (w' := w1) (hbr.alloc hbs _) hgrow (by simp; omega) (fun q hq => (Hx.out.lt q hq).1); have X1 := Lib.hid hown; have Hat := Lib.hid hat; have HB1 := Lib.hid hB1; clear hgrow hat hown hB1) | (at_builtin; refine wpList_append_lies _ rfl (.tmp 28) (.tmp 34) 104 rfl w.heap.size 3 i0 (.int .i64 0) 1 8 Try.underlying104 hi hz0 hz1 hz2 rfl (by decide) _ k _ rfl (Y1.out.alloc _) _ 1 1 [.int .i64 d.mem] rfl rfl (World.news_of_block (heap_sum (by simp))) (by intro u hu; simp at hu; subst hu; rfl) (by decide) (by unfold maxLen; omega) (by omega) (by simp; omega) _ rfl ?_))
      intro g2 cap2 w2 hown2 hgrow2 hat2 hlt2
      have hyg : ∀ q, Value.ownBlock _ = some q → q ≠ g := fun q hq e => by
        subst e
        rcases Hat.out with h | h
        · exact Hne.out _ h hq
        · have := (Hy.out.lt _ hq).2
          simp at h
          omega
      have X2 := own_keep X1.out (w' := w2) (fun q hq => (hgrow2.block q (by simp [Value.ownBlock] at hq; simp; omega) (fun e => by simp [Value.ownBlock] at hq; exact hyg q e.symm hq.symm)).trans (Below.heap_alloc _ _ _ (by simp [Value.ownBlock] at hq; omega)))
      have hB2 := Below.grown (w' := w2) (HB1.out.alloc (by omega) _) hgrow2 (by simp; omega) (fun q hq => (Hy.out.lt q hq).1)
      have hne2 : ∀ q, (Value.slice (some ⟨g, 0, none⟩) (k + 1) cap).ownBlock = some q → (Value.slice (some ⟨g2, 0, none⟩) (k + 1) cap2).ownBlock ≠ some q := fun q h1 h2 => by
        simp [Value.ownBlock] at h1 h2
        subst h1
        rcases hat2 with h | h
        · exact hyg _ h (by omega)
        · (try simp at h); omega
      clear hgrow2
      go_wp2_with fail
      go_roundw
      case rel => exact ⟨k + 1, by omega, by go_num, by rw [M1.out]; first | exact X2 | (rw [List.map_take]; exact X2), by rw [M2.out]; first | exact hown2 | (rw [List.map_take]; exact hown2), hne2, hB2⟩
      case measure => simp [intOf]; omega
    · obtain rfl : k = l.length := by omega
      have SX := Lib.hid (own_I64 (l := l.map Pod.cpu) (by have := Hx.out; rw [List.take_length] at this; simpa [Function.comp_def] using this) (fun n hn => by obtain ⟨p, hp, rfl⟩ := List.mem_map.1 hn; exact (HI.out p hp).1))
      have SY := Lib.hid (own_I64 (l := l.map Pod.mem) (by have := Hy.out; rw [List.take_length] at this; simpa [Function.comp_def] using this) (fun n hn => by obtain ⟨p, hp, rfl⟩ := List.mem_map.1 hn; exact (HI.out p hp).2))
      clear hA
      rcases k1 : sumO 0 (l.map Pod.cpu) with _ | a
      · rcases k2 : sumO 0 (l.map Pod.mem) with _ | b
        · skip
          have V1 := Lib.hid (show sumV (l.map Pod.cpu) = 0 by unfold sumV; rw [k1]; rfl)
          have B1 := Lib.hid (show sumB (l.map Pod.cpu) = false by unfold sumB; rw [k1]; rfl)
          have V2 := Lib.hid (show sumV (l.map Pod.mem) = 0 by unfold sumV; rw [k2]; rfl)
          have B2 := Lib.hid (show sumB (l.map Pod.mem) = false by unfold sumB; rw [k2]; rfl)
          have R1 := Lib.hid (show sumsA l = 0 by unfold sumsA; rw [k1, k2])
          have R2 := Lib.hid (show sumsM l = 0 by unfold sumsM; rw [k1, k2])
          have R3 := Lib.hid (show sumsC l = false by unfold sumsC; rw [B1.out, B2.out]; rfl)
          go_wp2_with fail
          refine (c_spec_SumInts (l.map Pod.cpu) _ _ 0 SX.out).mono ?_
          rintro e w1 ⟨rfl, rfl⟩
          rw [V1.out, B1.out]
          go_wp2_with fail
          refine (c_spec_SumInts (l.map Pod.mem) _ _ 0 SY.out).mono ?_
          rintro e w1 ⟨rfl, rfl⟩
          rw [V2.out, B2.out]
          go_wp2_with fail
          exact bodyPost_ret (v := .tuple #[.int .i64 0, .int .i64 0, .bool false]) (by simp only [results, Try.results25]; go_simp) rfl ⟨by rw [R1.out, R2.out, R3.out], hbr⟩
        · skip
          have V1 := Lib.hid (show sumV (l.map Pod.cpu) = 0 by unfold sumV; rw [k1]; rfl)
          have B1 := Lib.hid (show sumB (l.map Pod.cpu) = false by unfold sumB; rw [k1]; rfl)
          have V2 := Lib.hid (show sumV (l.map Pod.mem) = b by unfold sumV; rw [k2]; rfl)
          have B2 := Lib.hid (show sumB (l.map Pod.mem) = true by unfold sumB; rw [k2]; rfl)
          have R1 := Lib.hid (show sumsA l = 0 by unfold sumsA; rw [k1, k2])
          have R2 := Lib.hid (show sumsM l = 0 by unfold sumsM; rw [k1, k2])
          have R3 := Lib.hid (show sumsC l = false by unfold sumsC; rw [B1.out, B2.out]; rfl)
          go_wp2_with fail
          refine (c_spec_SumInts (l.map Pod.cpu) _ _ 0 SX.out).mono ?_
          rintro e w1 ⟨rfl, rfl⟩
          rw [V1.out, B1.out]
          go_wp2_with fail
          refine (c_spec_SumInts (l.map Pod.mem) _ _ 0 SY.out).mono ?_
          rintro e w1 ⟨rfl, rfl⟩
          rw [V2.out, B2.out]
          go_wp2_with fail
          exact bodyPost_ret (v := .tuple #[.int .i64 0, .int .i64 0, .bool false]) (by simp only [results, Try.results25]; go_simp) rfl ⟨by rw [R1.out, R2.out, R3.out], hbr⟩
      · rcases k2 : sumO 0 (l.map Pod.mem) with _ | b
        · skip
          have V1 := Lib.hid (show sumV (l.map Pod.cpu) = a by unfold sumV; rw [k1]; rfl)
          have B1 := Lib.hid (show sumB (l.map Pod.cpu) = true by unfold sumB; rw [k1]; rfl)
          have V2 := Lib.hid (show sumV (l.map Pod.mem) = 0 by unfold sumV; rw [k2]; rfl)
          have B2 := Lib.hid (show sumB (l.map Pod.mem) = false by unfold sumB; rw [k2]; rfl)
          have R1 := Lib.hid (show sumsA l = 0 by unfold sumsA; rw [k1, k2])
          have R2 := Lib.hid (show sumsM l = 0 by unfold sumsM; rw [k1, k2])
          have R3 := Lib.hid (show sumsC l = false by unfold sumsC; rw [B1.out, B2.out]; rfl)
          go_wp2_with fail
          refine (c_spec_SumInts (l.map Pod.cpu) _ _ 0 SX.out).mono ?_
          rintro e w1 ⟨rfl, rfl⟩
          rw [V1.out, B1.out]
          go_wp2_with fail
          refine (c_spec_SumInts (l.map Pod.mem) _ _ 0 SY.out).mono ?_
          rintro e w1 ⟨rfl, rfl⟩
          rw [V2.out, B2.out]
          go_wp2_with fail
          exact bodyPost_ret (v := .tuple #[.int .i64 0, .int .i64 0, .bool false]) (by simp only [results, Try.results25]; go_simp) rfl ⟨by rw [R1.out, R2.out, R3.out], hbr⟩
        · skip
          have V1 := Lib.hid (show sumV (l.map Pod.cpu) = a by unfold sumV; rw [k1]; rfl)
          have B1 := Lib.hid (show sumB (l.map Pod.cpu) = true by unfold sumB; rw [k1]; rfl)
          have V2 := Lib.hid (show sumV (l.map Pod.mem) = b by unfold sumV; rw [k2]; rfl)
          have B2 := Lib.hid (show sumB (l.map Pod.mem) = true by unfold sumB; rw [k2]; rfl)
          have R1 := Lib.hid (show sumsA l = a by unfold sumsA; rw [k1, k2])
          have R2 := Lib.hid (show sumsM l = b by unfold sumsM; rw [k1, k2])
          have R3 := Lib.hid (show sumsC l = true by unfold sumsC; rw [B1.out, B2.out]; rfl)
          go_wp2_with fail
          refine (c_spec_SumInts (l.map Pod.cpu) _ _ 0 SX.out).mono ?_
          rintro e w1 ⟨rfl, rfl⟩
          rw [V1.out, B1.out]
          go_wp2_with fail
          refine (c_spec_SumInts (l.map Pod.mem) _ _ 0 SY.out).mono ?_
          rintro e w1 ⟨rfl, rfl⟩
          rw [V2.out, B2.out]
          go_wp2_with fail
          exact bodyPost_ret (v := .tuple #[.int .i64 a, .int .i64 b, .bool true]) (by simp only [results, Try.results25]; go_simp) rfl ⟨by rw [R1.out, R2.out, R3.out], hbr⟩
set_option maxHeartbeats 1000000 in
theorem w_FnExactSumsOf (d0 : List Pod) (v0 : Value) (w : World) (h0 : R_Pods w d0 v0) :
    Calls Try.prog 6 #[v0] w fun e w' => e = .returned (.bool true) ∧ Below w.heap.size w w' := by
  obtain ⟨A, c, rfl⟩ := SlOf.form h0
  by_cases hq : ((nL nPod d0 : Nat) : Int) ≤ 1048576
  · have hz := szI_pos hq
    have hz2 : ¬ szI 1048576 (nL nPod d0) < 0 := by omega
    have hl0 : d0.length ≤ 1048576 := by have := nL_def nPod d0; omega
    clear hz
    go_enter Try.func6, Try.ntmps6
    go_wp2_with (first | (go_at_call 24; refine (c_laws_szPodS _ _ _ _ _ (Sl_Pod.now (by assumption) (by repeat (first | (with_reducible exact Below.refl _ _) | (with_reducible refine ext_alloc ?_) | ((with_reducible refine ext_setCell ?_ ?_); focus (simp; (try omega))) | (with_reducible refine below_drewN ?_ _) | (with_reducible refine Below.drew ?_) | (with_reducible (apply ext_step; assumption))))) (by omega) (by omega)).mono ?_; rintro e w1 ⟨rfl, hb⟩; (first | ((have tc0 := Cum.join hcu hb); (clear tc0); (try ((have tc := Cum.up hcu hb (by repeat (first | (with_reducible exact Below.refl _ _) | (with_reducible refine ext_alloc ?_) | ((with_reducible refine ext_setCell ?_ ?_); focus (simp; (try omega))) | (with_reducible refine below_drewN ?_ _) | (with_reducible refine Below.drew ?_) | (with_reducible (apply ext_step; assumption))))); (try clear hs3); (try clear hs2); (try clear hs1); (try clear hs0); (try clear hsz); (try clear hfz); (try clear hc); (clear hcu); (have hcu := tc); (clear tc); (obtain ⟨hc, hfz⟩ := bcell hcu.h); (have hsz := hcu.h.size); (try simp at hsz); (try have hs0 := lt_of_succ_le hsz); (try (have hs1 := lt_pred hsz; (try (have hs2 := lt_pred hs1; (try (have hs3 := lt_pred hs2)))))))); (try ((have tc := Cum.up hcuA hb (by repeat (first | (with_reducible exact Below.refl _ _) | (with_reducible refine ext_alloc ?_) | ((with_reducible refine ext_setCell ?_ ?_); focus (simp; (try omega))) | (with_reducible refine below_drewN ?_ _) | (with_reducible refine Below.drew ?_) | (with_reducible (apply ext_step; assumption))))); (try clear hs3A); (try clear hs2A); (try clear hs1A); (try clear hs0A); (try clear hszA); (try clear hfzA); (try clear hcA); (clear hcuA); (have hcuA := tc); (clear tc); (obtain ⟨hcA, hfzA⟩ := bcell hcuA.h); (have hszA := hcuA.h.size); (try simp at hszA); (try have hs0A := lt_of_succ_le hszA); (try (have hs1A := lt_pred hszA; (try (have hs2A := lt_pred hs1A; (try (have hs3A := lt_pred hs2A)))))))); (try ((have tc := Cum.up hcuB hb (by repeat (first | (with_reducible exact Below.refl _ _) | (with_reducible refine ext_alloc ?_) | ((with_reducible refine ext_setCell ?_ ?_); focus (simp; (try omega))) | (with_reducible refine below_drewN ?_ _) | (with_reducible refine Below.drew ?_) | (with_reducible (apply ext_step; assumption))))); (try clear hs3B); (try clear hs2B); (try clear hs1B); (try clear hs0B); (try clear hszB); (try clear hfzB); (try clear hcB); (clear hcuB); (have hcuB := tc); (clear tc); (obtain ⟨hcB, hfzB⟩ := bcell hcuB.h); (have hszB := hcuB.h.size); (try simp at hszB); (try have hs0B := lt_of_succ_le hszB); (try (have hs1B := lt_pred hszB; (try (have hs2B := lt_pred hs1B; (try (have hs3B := lt_pred hs2B)))))))); (try ((have tc := Cum.up hcuC hb (by repeat (first | (with_reducible exact Below.refl _ _) | (with_reducible refine ext_alloc ?_) | ((with_reducible refine ext_setCell ?_ ?_); focus (simp; (try omega))) | (with_reducible refine below_drewN ?_ _) | (with_reducible refine Below.drew ?_) | (with_reducible (apply ext_step; assumption))))); (try clear hs3C); (try clear hs2C); (try clear hs1C); (try clear hs0C); (try clear hszC); (try clear hfzC); (try clear hcC); (clear hcuC); (have hcuC := tc); (clear tc); (obtain ⟨hcC, hfzC⟩ := bcell hcuC.h); (have hszC := hcuC.h.size); (try simp at hszC); (try have hs0C := lt_of_succ_le hszC); (try (have hs1C := lt_pred hszC; (try (have hs2C := lt_pred hs1C; (try (have hs3C := lt_pred hs2C))))))))) | ((try ((have tc := Cum.up hcuB hb (by repeat (first | (with_reducible exact Below.refl _ _) | (with_reducible refine ext_alloc ?_) | ((with_reducible refine ext_setCell ?_ ?_); focus (simp; (try omega))) | (with_reducible refine below_drewN ?_ _) | (with_reducible refine Below.drew ?_) | (with_reducible (apply ext_step; assumption))))); (try clear hs3B); (try clear hs2B); (try clear hs1B); (try clear hs0B); (try clear hszB); (try clear hfzB); (try clear hcB); (clear hcuB); (have hcuC := tc); (clear tc); (obtain ⟨hcC, hfzC⟩ := bcell hcuC.h); (have hszC := hcuC.h.size); (try simp at hszC); (try have hs0C := lt_of_succ_le hszC); (try (have hs1C := lt_pred hszC; (try (have hs2C := lt_pred hs1C; (try (have hs3C := lt_pred hs2C)))))))); (try ((have tc := Cum.up hcuA hb (by repeat (first | (with_reducible exact Below.refl _ _) | (with_reducible refine ext_alloc ?_) | ((with_reducible refine ext_setCell ?_ ?_); focus (simp; (try omega))) | (with_reducible refine below_drewN ?_ _) | (with_reducible refine Below.drew ?_) | (with_reducible (apply ext_step; assumption))))); (try clear hs3A); (try clear hs2A); (try clear hs1A); (try clear hs0A); (try clear hszA); (try clear hfzA); (try clear hcA); (clear hcuA); (have hcuB := tc); (clear tc); (obtain ⟨hcB, hfzB⟩ := bcell hcuB.h); (have hszB := hcuB.h.size); (try simp at hszB); (try have hs0B := lt_of_succ_le hszB); (try (have hs1B := lt_pred hszB; (try (have hs2B := lt_pred hs1B; (try (have hs3B := lt_pred hs2B)))))))); (try ((have tc := Cum.up hcu hb (by repeat (first | (with_reducible exact Below.refl _ _) | (with_reducible refine ext_alloc ?_) | ((with_reducible refine ext_setCell ?_ ?_); focus (simp; (try omega))) | (with_reducible refine below_drewN ?_ _) | (with_reducible refine Below.drew ?_) | (with_reducible (apply ext_step; assumption))))); (try clear hs3); (try clear hs2); (try clear hs1); (try clear hs0); (try clear hsz); (try clear hfz); (try clear hc); (clear hcu); (have hcuA := tc); (clear tc); (obtain ⟨hcA, hfzA⟩ := bcell hcuA.h); (have hszA := hcuA.h.size); (try simp at hszA); (try have hs0A := lt_of_succ_le hszA); (try (have hs1A := lt_pred hszA; (try (have hs2A := lt_pred hs1A; (try (have hs3A := lt_pred hs2A)))))))); (have hcu := Cum.mk hb); (obtain ⟨hc, hfz⟩ := bcell hcu.h); (have hsz := hcu.h.size); (try simp at hsz); (try have hs0 := lt_of_succ_le hsz); (try (have hs1 := lt_pred hsz; (try (have hs2 := lt_pred hs1; (try (have hs3 := lt_pred hs2))))))))) | (go_at_call 26; refine (c_laws_toPodS _ _ _ _ (Sl_Pod.now (by assumption) (by repeat (first | (with_reducible exact Below.refl _ _) | (with_reducible refine ext_alloc ?_) | ((with_reducible refine ext_setCell ?_ ?_); focus (simp; (try omega))) | (with_reducible refine below_drewN ?_ _) | (with_reducible refine Below.drew ?_) | (with_reducible (apply ext_step; assumption))))) (by omega)).mono ?_; rintro e w1 ⟨A1, c1, rfl, hr1, hb⟩; (first | ((have tc0 := Cum.join hcu hb); (clear tc0); (try ((have tc := Cum.up hcu hb (by repeat (first | (with_reducible exact Below.refl _ _) | (with_reducible refine ext_alloc ?_) | ((with_reducible refine ext_setCell ?_ ?_); focus (simp; (try omega))) | (with_reducible refine below_drewN ?_ _) | (with_reducible refine Below.drew ?_) | (with_reducible (apply ext_step; assumption))))); (try clear hs3); (try clear hs2); (try clear hs1); (try clear hs0); (try clear hsz); (try clear hfz); (try clear hc); (clear hcu); (have hcu := tc); (clear tc); (obtain ⟨hc, hfz⟩ := bcell hcu.h); (have hsz := hcu.h.size); (try simp at hsz); (try have hs0 := lt_of_succ_le hsz); (try (have hs1 := lt_pred hsz; (try (have hs2 := lt_pred hs1; (try (have hs3 := lt_pred hs2)))))))); (try ((have tc := Cum.up hcuA hb (by repeat (first | (with_reducible exact Below.refl _ _) | (with_reducible refine ext_alloc ?_) | ((with_reducible refine ext_setCell ?_ ?_); focus (simp; (try omega))) | (with_reducible refine below_drewN ?_ _) | (with_reducible refine Below.drew ?_) | (with_reducible (apply ext_step; assumption))))); (try clear hs3A); (try clear hs2A); (try clear hs1A); (try clear hs0A); (try clear hszA); (try clear hfzA); (try clear hcA); (clear hcuA); (have hcuA := tc); (clear tc); (obtain ⟨hcA, hfzA⟩ := bcell hcuA.h); (have hszA := hcuA.h.size); (try simp at hszA); (try have hs0A := lt_of_succ_le hszA); (try (have hs1A := lt_pred hszA; (try (have hs2A := lt_pred hs1A; (try (have hs3A := lt_pred hs2A)))))))); (try ((have tc := Cum.up hcuB hb (by repeat (first | (with_reducible exact Below.refl _ _) | (with_reducible refine ext_alloc ?_) | ((with_reducible refine ext_setCell ?_ ?_); focus (simp; (try omega))) | (with_reducible refine below_drewN ?_ _) | (with_reducible refine Below.drew ?_) | (with_reducible (apply ext_step; assumption))))); (try clear hs3B); (try clear hs2B); (try clear hs1B); (try clear hs0B); (try clear hszB); (try clear hfzB); (try clear hcB); (clear hcuB); (have hcuB := tc); (clear tc); (obtain ⟨hcB, hfzB⟩ := bcell hcuB.h); (have hszB := hcuB.h.size); (try simp at hszB); (try have hs0B := lt_of_succ_le hszB); (try (have hs1B := lt_pred hszB; (try (have hs2B := lt_pred hs1B; (try (have hs3B := lt_pred hs2B)))))))); (try ((have tc := Cum.up hcuC hb (by repeat (first | (with_reducible exact Below.refl _ _) | (with_reducible refine ext_alloc ?_) | ((with_reducible refine ext_setCell ?_ ?_); focus (simp; (try omega))) | (with_reducible refine below_drewN ?_ _) | (with_reducible refine Below.drew ?_) | (with_reducible (apply ext_step; assumption))))); (try clear hs3C); (try clear hs2C); (try clear hs1C); (try clear hs0C); (try clear hszC); (try clear hfzC); (try clear hcC); (clear hcuC); (have hcuC := tc); (clear tc); (obtain ⟨hcC, hfzC⟩ := bcell hcuC.h); (have hszC := hcuC.h.size); (try simp at hszC); (try have hs0C := lt_of_succ_le hszC); (try (have hs1C := lt_pred hszC; (try (have hs2C := lt_pred hs1C; (try (have hs3C := lt_pred hs2C))))))))) | ((try ((have tc := Cum.up hcuB hb (by repeat (first | (with_reducible exact Below.refl _ _) | (with_reducible refine ext_alloc ?_) | ((with_reducible refine ext_setCell ?_ ?_); focus (simp; (try omega))) | (with_reducible refine below_drewN ?_ _) | (with_reducible refine Below.drew ?_) | (with_reducible (apply ext_step; assumption))))); (try clear hs3B); (try clear hs2B); (try clear hs1B); (try clear hs0B); (try clear hszB); (try clear hfzB); (try clear hcB); (clear hcuB); (have hcuC := tc); (clear tc); (obtain ⟨hcC, hfzC⟩ := bcell hcuC.h); (have hszC := hcuC.h.size); (try simp at hszC); (try have hs0C := lt_of_succ_le hszC); (try (have hs1C := lt_pred hszC; (try (have hs2C := lt_pred hs1C; (try (have hs3C := lt_pred hs2C)))))))); (try ((have tc := Cum.up hcuA hb (by repeat (first | (with_reducible exact Below.refl _ _) | (with_reducible refine ext_alloc ?_) | ((with_reducible refine ext_setCell ?_ ?_); focus (simp; (try omega))) | (with_reducible refine below_drewN ?_ _) | (with_reducible refine Below.drew ?_) | (with_reducible (apply ext_step; assumption))))); (try clear hs3A); (try clear hs2A); (try clear hs1A); (try clear hs0A); (try clear hszA); (try clear hfzA); (try clear hcA); (clear hcuA); (have hcuB := tc); (clear tc); (obtain ⟨hcB, hfzB⟩ := bcell hcuB.h); (have hszB := hcuB.h.size); (try simp at hszB); (try have hs0B := lt_of_succ_le hszB); (try (have hs1B := lt_pred hszB; (try (have hs2B := lt_pred hs1B; (try (have hs3B := lt_pred hs2B)))))))); (try ((have tc := Cum.up hcu hb (by repeat (first | (with_reducible exact Below.refl _ _) | (with_reducible refine ext_alloc ?_) | ((with_reducible refine ext_setCell ?_ ?_); focus (simp; (try omega))) | (with_reducible refine below_drewN ?_ _) | (with_reducible refine Below.drew ?_) | (with_reducible (apply ext_step; assumption))))); (try clear hs3); (try clear hs2); (try clear hs1); (try clear hs0); (try clear hsz); (try clear hfz); (try clear hc); (clear hcu); (have hcuA := tc); (clear tc); (obtain ⟨hcA, hfzA⟩ := bcell hcuA.h); (have hszA := hcuA.h.size); (try simp at hszA); (try have hs0A := lt_of_succ_le hszA); (try (have hs1A := lt_pred hszA; (try (have hs2A := lt_pred hs1A; (try (have hs3A := lt_pred hs2A)))))))); (have hcu := Cum.mk hb); (obtain ⟨hc, hfz⟩ := bcell hcu.h); (have hsz := hcu.h.size); (try simp at hsz); (try have hs0 := lt_of_succ_le hsz); (try (have hs1 := lt_pred hsz; (try (have hs2 := lt_pred hs1; (try (have hs3 := lt_pred hs2))))))))) | (go_at_call 25; refine (c_spec_SumsOf _ _ _ _ (Sl_Pod.now (by assumption) (by repeat (first | (with_reducible exact Below.refl _ _) | (with_reducible refine ext_alloc ?_) | ((with_reducible refine ext_setCell ?_ ?_); focus (simp; (try omega))) | (with_reducible refine below_drewN ?_ _) | (with_reducible refine Below.drew ?_) | (with_reducible (apply ext_step; assumption))))) (by omega)).mono ?_; rintro e w1 ⟨rfl, hb⟩; (first | ((have tc0 := Cum.join hcu hb); (clear tc0); (try ((have tc := Cum.up hcu hb (by repeat (first | (with_reducible exact Below.refl _ _) | (with_reducible refine ext_alloc ?_) | ((with_reducible refine ext_setCell ?_ ?_); focus (simp; (try omega))) | (with_reducible refine below_drewN ?_ _) | (with_reducible refine Below.drew ?_) | (with_reducible (apply ext_step; assumption))))); (try clear hs3); (try clear hs2); (try clear hs1); (try clear hs0); (try clear hsz); (try clear hfz); (try clear hc); (clear hcu); (have hcu := tc); (clear tc); (obtain ⟨hc, hfz⟩ := bcell hcu.h); (have hsz := hcu.h.size); (try simp at hsz); (try have hs0 := lt_of_succ_le hsz); (try (have hs1 := lt_pred hsz; (try (have hs2 := lt_pred hs1; (try (have hs3 := lt_pred hs2)))))))); (try ((have tc := Cum.up hcuA hb (by repeat (first | (with_reducible exact Below.refl _ _) | (with_reducible refine ext_alloc ?_) | ((with_reducible refine ext_setCell ?_ ?_); focus (simp; (try omega))) | (with_reducible refine below_drewN ?_ _) | (with_reducible refine Below.drew ?_) | (with_reducible (apply ext_step; assumption))))); (try clear hs3A); (try clear hs2A); (try clear hs1A); (try clear hs0A); (try clear hszA); (try clear hfzA); (try clear hcA); (clear hcuA); (have hcuA := tc); (clear tc); (obtain ⟨hcA, hfzA⟩ := bcell hcuA.h); (have hszA := hcuA.h.size); (try simp at hszA); (try have hs0A := lt_of_succ_le hszA); (try (have hs1A := lt_pred hszA; (try (have hs2A := lt_pred hs1A; (try (have hs3A := lt_pred hs2A)))))))); (try ((have tc := Cum.up hcuB hb (by repeat (first | (with_reducible exact Below.refl _ _) | (with_reducible refine ext_alloc ?_) | ((with_reducible refine ext_setCell ?_ ?_); focus (simp; (try omega))) | (with_reducible refine below_drewN ?_ _) | (with_reducible refine Below.drew ?_) | (with_reducible (apply ext_step; assumption))))); (try clear hs3B); (try clear hs2B); (try clear hs1B); (try clear hs0B); (try clear hszB); (try clear hfzB); (try clear hcB); (clear hcuB); (have hcuB := tc); (clear tc); (obtain ⟨hcB, hfzB⟩ := bcell hcuB.h); (have hszB := hcuB.h.size); (try simp at hszB); (try have hs0B := lt_of_succ_le hszB); (try (have hs1B := lt_pred hszB; (try (have hs2B := lt_pred hs1B; (try (have hs3B := lt_pred hs2B)))))))); (try ((have tc := Cum.up hcuC hb (by repeat (first | (with_reducible exact Below.refl _ _) | (with_reducible refine ext_alloc ?_) | ((with_reducible refine ext_setCell ?_ ?_); focus (simp; (try omega))) | (with_reducible refine below_drewN ?_ _) | (with_reducible refine Below.drew ?_) | (with_reducible (apply ext_step; assumption))))); (try clear hs3C); (try clear hs2C); (try clear hs1C); (try clear hs0C); (try clear hszC); (try clear hfzC); (try clear hcC); (clear hcuC); (have hcuC := tc); (clear tc); (obtain ⟨hcC, hfzC⟩ := bcell hcuC.h); (have hszC := hcuC.h.size); (try simp at hszC); (try have hs0C := lt_of_succ_le hszC); (try (have hs1C := lt_pred hszC; (try (have hs2C := lt_pred hs1C; (try (have hs3C := lt_pred hs2C))))))))) | ((try ((have tc := Cum.up hcuB hb (by repeat (first | (with_reducible exact Below.refl _ _) | (with_reducible refine ext_alloc ?_) | ((with_reducible refine ext_setCell ?_ ?_); focus (simp; (try omega))) | (with_reducible refine below_drewN ?_ _) | (with_reducible refine Below.drew ?_) | (with_reducible (apply ext_step; assumption))))); (try clear hs3B); (try clear hs2B); (try clear hs1B); (try clear hs0B); (try clear hszB); (try clear hfzB); (try clear hcB); (clear hcuB); (have hcuC := tc); (clear tc); (obtain ⟨hcC, hfzC⟩ := bcell hcuC.h); (have hszC := hcuC.h.size); (try simp at hszC); (try have hs0C := lt_of_succ_le hszC); (try (have hs1C := lt_pred hszC; (try (have hs2C := lt_pred hs1C; (try (have hs3C := lt_pred hs2C)))))))); (try ((have tc := Cum.up hcuA hb (by repeat (first | (with_reducible exact Below.refl _ _) | (with_reducible refine ext_alloc ?_) | ((with_reducible refine ext_setCell ?_ ?_); focus (simp; (try omega))) | (with_reducible refine below_drewN ?_ _) | (with_reducible refine Below.drew ?_) | (with_reducible (apply ext_step; assumption))))); (try clear hs3A); (try clear hs2A); (try clear hs1A); (try clear hs0A); (try clear hszA); (try clear hfzA); (try clear hcA); (clear hcuA); (have hcuB := tc); (clear tc); (obtain ⟨hcB, hfzB⟩ := bcell hcuB.h); (have hszB := hcuB.h.size); (try simp at hszB); (try have hs0B := lt_of_succ_le hszB); (try (have hs1B := lt_pred hszB; (try (have hs2B := lt_pred hs1B; (try (have hs3B := lt_pred hs2B)))))))); (try ((have tc := Cum.up hcu hb (by repeat (first | (with_reducible exact Below.refl _ _) | (with_reducible refine ext_alloc ?_) | ((with_reducible refine ext_setCell ?_ ?_); focus (simp; (try omega))) | (with_reducible refine below_drewN ?_ _) | (with_reducible refine Below.drew ?_) | (with_reducible (apply ext_step; assumption))))); (try clear hs3); (try clear hs2); (try clear hs1); (try clear hs0); (try clear hsz); (try clear hfz); (try clear hc); (clear hcu); (have hcuA := tc); (clear tc); (obtain ⟨hcA, hfzA⟩ := bcell hcuA.h); (have hszA := hcuA.h.size); (try simp at hszA); (try have hs0A := lt_of_succ_le hszA); (try (have hs1A := lt_pred hszA; (try (have hs2A := lt_pred hs1A; (try (have hs3A := lt_pred hs2A)))))))); (have hcu := Cum.mk hb); (obtain ⟨hc, hfz⟩ := bcell hcu.h); (have hsz := hcu.h.size); (try simp at hsz); (try have hs0 := lt_of_succ_le hsz); (try (have hs1 := lt_pred hsz; (try (have hs2 := lt_pred hs1; (try (have hs3 := lt_pred hs2))))))))) | (go_at_call 27; refine (c_impl_SumsOf _ _ _ _ (Sl_Pod.now (by assumption) (by repeat (first | (with_reducible exact Below.refl _ _) | (with_reducible refine ext_alloc ?_) | ((with_reducible refine ext_setCell ?_ ?_); focus (simp; (try omega))) | (with_reducible refine below_drewN ?_ _) | (with_reducible refine Below.drew ?_) | (with_reducible (apply ext_step; assumption))))) (by omega)).mono ?_; rintro e w1 ⟨rfl, hb⟩; (first | ((have tc0 := Cum.join hcu hb); (clear tc0); (try ((have tc := Cum.up hcu hb (by repeat (first | (with_reducible exact Below.refl _ _) | (with_reducible refine ext_alloc ?_) | ((with_reducible refine ext_setCell ?_ ?_); focus (simp; (try omega))) | (with_reducible refine below_drewN ?_ _) | (with_reducible refine Below.drew ?_) | (with_reducible (apply ext_step; assumption))))); (try clear hs3); (try clear hs2); (try clear hs1); (try clear hs0); (try clear hsz); (try clear hfz); (try clear hc); (clear hcu); (have hcu := tc); (clear tc); (obtain ⟨hc, hfz⟩ := bcell hcu.h); (have hsz := hcu.h.size); (try simp at hsz); (try have hs0 := lt_of_succ_le hsz); (try (have hs1 := lt_pred hsz; (try (have hs2 := lt_pred hs1; (try (have hs3 := lt_pred hs2)))))))); (try ((have tc := Cum.up hcuA hb (by repeat (first | (with_reducible exact Below.refl _ _) | (with_reducible refine ext_alloc ?_) | ((with_reducible refine ext_setCell ?_ ?_); focus (simp; (try omega))) | (with_reducible refine below_drewN ?_ _) | (with_reducible refine Below.drew ?_) | (with_reducible (apply ext_step; assumption))))); (try clear hs3A); (try clear hs2A); (try clear hs1A); (try clear hs0A); (try clear hszA); (try clear hfzA); (try clear hcA); (clear hcuA); (have hcuA := tc); (clear tc); (obtain ⟨hcA, hfzA⟩ := bcell hcuA.h); (have hszA := hcuA.h.size); (try simp at hszA); (try have hs0A := lt_of_succ_le hszA); (try (have hs1A := lt_pred hszA; (try (have hs2A := lt_pred hs1A; (try (have hs3A := lt_pred hs2A)))))))); (try ((have tc := Cum.up hcuB hb (by repeat (first | (with_reducible exact Below.refl _ _) | (with_reducible refine ext_alloc ?_) | ((with_reducible refine ext_setCell ?_ ?_); focus (simp; (try omega))) | (with_reducible refine below_drewN ?_ _) | (with_reducible refine Below.drew ?_) | (with_reducible (apply ext_step; assumption))))); (try clear hs3B); (try clear hs2B); (try clear hs1B); (try clear hs0B); (try clear hszB); (try clear hfzB); (try clear hcB); (clear hcuB); (have hcuB := tc); (clear tc); (obtain ⟨hcB, hfzB⟩ := bcell hcuB.h); (have hszB := hcuB.h.size); (try simp at hszB); (try have hs0B := lt_of_succ_le hszB); (try (have hs1B := lt_pred hszB; (try (have hs2B := lt_pred hs1B; (try (have hs3B := lt_pred hs2B)))))))); (try ((have tc := Cum.up hcuC hb (by repeat (first | (with_reducible exact Below.refl _ _) | (with_reducible refine ext_alloc ?_) | ((with_reducible refine ext_setCell ?_ ?_); focus (simp; (try omega))) | (with_reducible refine below_drewN ?_ _) | (with_reducible refine Below.drew ?_) | (with_reducible (apply ext_step; assumption))))); (try clear hs3C); (try clear hs2C); (try clear hs1C); (try clear hs0C); (try clear hszC); (try clear hfzC); (try clear hcC); (clear hcuC); (have hcuC := tc); (clear tc); (obtain ⟨hcC, hfzC⟩ := bcell hcuC.h); (have hszC := hcuC.h.size); (try simp at hszC); (try have hs0C := lt_of_succ_le hszC); (try (have hs1C := lt_pred hszC; (try (have hs2C := lt_pred hs1C; (try (have hs3C := lt_pred hs2C))))))))) | ((try ((have tc := Cum.up hcuB hb (by repeat (first | (with_reducible exact Below.refl _ _) | (with_reducible refine ext_alloc ?_) | ((with_reducible refine ext_setCell ?_ ?_); focus (simp; (try omega))) | (with_reducible refine below_drewN ?_ _) | (with_reducible refine Below.drew ?_) | (with_reducible (apply ext_step; assumption))))); (try clear hs3B); (try clear hs2B); (try clear hs1B); (try clear hs0B); (try clear hszB); (try clear hfzB); (try clear hcB); (clear hcuB); (have hcuC := tc); (clear tc); (obtain ⟨hcC, hfzC⟩ := bcell hcuC.h); (have hszC := hcuC.h.size); (try simp at hszC); (try have hs0C := lt_of_succ_le hszC); (try (have hs1C := lt_pred hszC; (try (have hs2C := lt_pred hs1C; (try (have hs3C := lt_pred hs2C)))))))); (try ((have tc := Cum.up hcuA hb (by repeat (first | (with_reducible exact Below.refl _ _) | (with_reducible refine ext_alloc ?_) | ((with_reducible refine ext_setCell ?_ ?_); focus (simp; (try omega))) | (with_reducible refine below_drewN ?_ _) | (with_reducible refine Below.drew ?_) | (with_reducible (apply ext_step; assumption))))); (try clear hs3A); (try clear hs2A); (try clear hs1A); (try clear hs0A); (try clear hszA); (try clear hfzA); (try clear hcA); (clear hcuA); (have hcuB := tc); (clear tc); (obtain ⟨hcB, hfzB⟩ := bcell hcuB.h); (have hszB := hcuB.h.size); (try simp at hszB); (try have hs0B := lt_of_succ_le hszB); (try (have hs1B := lt_pred hszB; (try (have hs2B := lt_pred hs1B; (try (have hs3B := lt_pred hs2B)))))))); (try ((have tc := Cum.up hcu hb (by repeat (first | (with_reducible exact Below.refl _ _) | (with_reducible refine ext_alloc ?_) | ((with_reducible refine ext_setCell ?_ ?_); focus (simp; (try omega))) | (with_reducible refine below_drewN ?_ _) | (with_reducible refine Below.drew ?_) | (with_reducible (apply ext_step; assumption))))); (try clear hs3); (try clear hs2); (try clear hs1); (try clear hs0); (try clear hsz); (try clear hfz); (try clear hc); (clear hcu); (have hcuA := tc); (clear tc); (obtain ⟨hcA, hfzA⟩ := bcell hcuA.h); (have hszA := hcuA.h.size); (try simp at hszA); (try have hs0A := lt_of_succ_le hszA); (try (have hs1A := lt_pred hszA; (try (have hs2A := lt_pred hs1A; (try (have hs3A := lt_pred hs2A)))))))); (have hcu := Cum.mk hb); (obtain ⟨hc, hfz⟩ := bcell hcu.h); (have hsz := hcu.h.size); (try simp at hsz); (try have hs0 := lt_of_succ_le hsz); (try (have hs1 := lt_pred hsz; (try (have hs2 := lt_pred hs1; (try (have hs3 := lt_pred hs2))))))))) | (go_at_call 28; refine (c_laws_eqPodS _ _ _ _ _ _ (Sl_Pod.now (by assumption) (by repeat (first | (with_reducible exact Below.refl _ _) | (with_reducible refine ext_alloc ?_) | ((with_reducible refine ext_setCell ?_ ?_); focus (simp; (try omega))) | (with_reducible refine below_drewN ?_ _) | (with_reducible refine Below.drew ?_) | (with_reducible (apply ext_step; assumption))))) (Sl_Pod.now (by assumption) (by repeat (first | (with_reducible exact Below.refl _ _) | (with_reducible refine ext_alloc ?_) | ((with_reducible refine ext_setCell ?_ ?_); focus (simp; (try omega))) | (with_reducible refine below_drewN ?_ _) | (with_reducible refine Below.drew ?_) | (with_reducible (apply ext_step; assumption)))))).mono ?_; rintro e w1 ⟨rfl, hb⟩; (first | ((have tc0 := Cum.join hcu hb); (clear tc0); (try ((have tc := Cum.up hcu hb (by repeat (first | (with_reducible exact Below.refl _ _) | (with_reducible refine ext_alloc ?_) | ((with_reducible refine ext_setCell ?_ ?_); focus (simp; (try omega))) | (with_reducible refine below_drewN ?_ _) | (with_reducible refine Below.drew ?_) | (with_reducible (apply ext_step; assumption))))); (try clear hs3); (try clear hs2); (try clear hs1); (try clear hs0); (try clear hsz); (try clear hfz); (try clear hc); (clear hcu); (have hcu := tc); (clear tc); (obtain ⟨hc, hfz⟩ := bcell hcu.h); (have hsz := hcu.h.size); (try simp at hsz); (try have hs0 := lt_of_succ_le hsz); (try (have hs1 := lt_pred hsz; (try (have hs2 := lt_pred hs1; (try (have hs3 := lt_pred hs2)))))))); (try ((have tc := Cum.up hcuA hb (by repeat (first | (with_reducible exact Below.refl _ _) | (with_reducible refine ext_alloc ?_) | ((with_reducible refine ext_setCell ?_ ?_); focus (simp; (try omega))) | (with_reducible refine below_drewN ?_ _) | (with_reducible refine Below.drew ?_) | (with_reducible (apply ext_step; assumption))))); (try clear hs3A); (try clear hs2A); (try clear hs1A); (try clear hs0A); (try clear hszA); (try clear hfzA); (try clear hcA); (clear hcuA); (have hcuA := tc); (clear tc); (obtain ⟨hcA, hfzA⟩ := bcell hcuA.h); (have hszA := hcuA.h.size); (try simp at hszA); (try have hs0A := lt_of_succ_le hszA); (try (have hs1A := lt_pred hszA; (try (have hs2A := lt_pred hs1A; (try (have hs3A := lt_pred hs2A)))))))); (try ((have tc := Cum.up hcuB hb (by repeat (first | (with_reducible exact Below.refl _ _) | (with_reducible refine ext_alloc ?_) | ((with_reducible refine ext_setCell ?_ ?_); focus (simp; (try omega))) | (with_reducible refine below_drewN ?_ _) | (with_reducible refine Below.drew ?_) | (with_reducible (apply ext_step; assumption))))); (try clear hs3B); (try clear hs2B); (try clear hs1B); (try clear hs0B); (try clear hszB); (try clear hfzB); (try clear hcB); (clear hcuB); (have hcuB := tc); (clear tc); (obtain ⟨hcB, hfzB⟩ := bcell hcuB.h); (have hszB := hcuB.h.size); (try simp at hszB); (try have hs0B := lt_of_succ_le hszB); (try (have hs1B := lt_pred hszB; (try (have hs2B := lt_pred hs1B; (try (have hs3B := lt_pred hs2B)))))))); (try ((have tc := Cum.up hcuC hb (by repeat (first | (with_reducible exact Below.refl _ _) | (with_reducible refine ext_alloc ?_) | ((with_reducible refine ext_setCell ?_ ?_); focus (simp; (try omega))) | (with_reducible refine below_drewN ?_ _) | (with_reducible refine Below.drew ?_) | (with_reducible (apply ext_step; assumption))))); (try clear hs3C); (try clear hs2C); (try clear hs1C); (try clear hs0C); (try clear hszC); (try clear hfzC); (try clear hcC); (clear hcuC); (have hcuC := tc); (clear tc); (obtain ⟨hcC, hfzC⟩ := bcell hcuC.h); (have hszC := hcuC.h.size); (try simp at hszC); (try have hs0C := lt_of_succ_le hszC); (try (have hs1C := lt_pred hszC; (try (have hs2C := lt_pred hs1C; (try (have hs3C := lt_pred hs2C))))))))) | ((try ((have tc := Cum.up hcuB hb (by repeat (first | (with_reducible exact Below.refl _ _) | (with_reducible refine ext_alloc ?_) | ((with_reducible refine ext_setCell ?_ ?_); focus (simp; (try omega))) | (with_reducible refine below_drewN ?_ _) | (with_reducible refine Below.drew ?_) | (with_reducible (apply ext_step; assumption))))); (try clear hs3B); (try clear hs2B); (try clear hs1B); (try clear hs0B); (try clear hszB); (try clear hfzB); (try clear hcB); (clear hcuB); (have hcuC := tc); (clear tc); (obtain ⟨hcC, hfzC⟩ := bcell hcuC.h); (have hszC := hcuC.h.size); (try simp at hszC); (try have hs0C := lt_of_succ_le hszC); (try (have hs1C := lt_pred hszC; (try (have hs2C := lt_pred hs1C; (try (have hs3C := lt_pred hs2C)))))))); (try ((have tc := Cum.up hcuA hb (by repeat (first | (with_reducible exact Below.refl _ _) | (with_reducible refine ext_alloc ?_) | ((with_reducible refine ext_setCell ?_ ?_); focus (simp; (try omega))) | (with_reducible refine below_drewN ?_ _) | (with_reducible refine Below.drew ?_) | (with_reducible (apply ext_step; assumption))))); (try clear hs3A); (try clear hs2A); (try clear hs1A); (try clear hs0A); (try clear hszA); (try clear hfzA); (try clear hcA); (clear hcuA); (have hcuB := tc); (clear tc); (obtain ⟨hcB, hfzB⟩ := bcell hcuB.h); (have hszB := hcuB.h.size); (try simp at hszB); (try have hs0B := lt_of_succ_le hszB); (try (have hs1B := lt_pred hszB; (try (have hs2B := lt_pred hs1B; (try (have hs3B := lt_pred hs2B)))))))); (try ((have tc := Cum.up hcu hb (by repeat (first | (with_reducible exact Below.refl _ _) | (with_reducible refine ext_alloc ?_) | ((with_reducible refine ext_setCell ?_ ?_); focus (simp; (try omega))) | (with_reducible refine below_drewN ?_ _) | (with_reducible refine Below.drew ?_) | (with_reducible (apply ext_step; assumption))))); (try clear hs3); (try clear hs2); (try clear hs1); (try clear hs0); (try clear hsz); (try clear hfz); (try clear hc); (clear hcu); (have hcuA := tc); (clear tc); (obtain ⟨hcA, hfzA⟩ := bcell hcuA.h); (have hszA := hcuA.h.size); (try simp at hszA); (try have hs0A := lt_of_succ_le hszA); (try (have hs1A := lt_pred hszA; (try (have hs2A := lt_pred hs1A; (try (have hs3A := lt_pred hs2A)))))))); (have hcu := Cum.mk hb); (obtain ⟨hc, hfz⟩ := bcell hcu.h); (have hsz := hcu.h.size); (try simp at hsz); (try have hs0 := lt_of_succ_le hsz); (try (have hs1 := lt_pred hsz; (try (have hs2 := lt_pred hs1; (try (have hs3 := lt_pred hs2))))))))))
    go_ret
    exact ⟨rfl, (by repeat (first | (with_reducible exact Below.refl _ _) | (with_reducible refine ext_alloc ?_) | ((with_reducible refine ext_setCell ?_ ?_); focus (simp; (try omega))) | (with_reducible refine below_drewN ?_ _) | (with_reducible refine Below.drew ?_) | (with_reducible (apply ext_step; assumption))))⟩
  · have hz := szI_neg hq
    have hz2 : szI 1048576 (nL nPod d0) < 0 := by omega
    clear hz
    go_enter Try.func6, Try.ntmps6
    go_wp2_with (first | (go_at_call 24; refine (c_laws_szPodS _ _ _ _ _ (Sl_Pod.now (by assumption) (by repeat (first | (with_reducible exact Below.refl _ _) | (with_reducible refine ext_alloc ?_) | ((with_reducible refine ext_setCell ?_ ?_); focus (simp; (try omega))) | (with_reducible refine below_drewN ?_ _) | (with_reducible refine Below.drew ?_) | (with_reducible (apply ext_step; assumption))))) (by omega) (by omega)).mono ?_; rintro e w1 ⟨rfl, hb⟩; (first | ((have tc0 := Cum.join hcu hb); (clear tc0); (try ((have tc := Cum.up hcu hb (by repeat (first | (with_reducible exact Below.refl _ _) | (with_reducible refine ext_alloc ?_) | ((with_reducible refine ext_setCell ?_ ?_); focus (simp; (try omega))) | (with_reducible refine below_drewN ?_ _) | (with_reducible refine Below.drew ?_) | (with_reducible (apply ext_step; assumption))))); (try clear hs3); (try clear hs2); (try clear hs1); (try clear hs0); (try clear hsz); (try clear hfz); (try clear hc); (clear hcu); (have hcu := tc); (clear tc); (obtain ⟨hc, hfz⟩ := bcell hcu.h); (have hsz := hcu.h.size); (try simp at hsz); (try have hs0 := lt_of_succ_le hsz); (try (have hs1 := lt_pred hsz; (try (have hs2 := lt_pred hs1; (try (have hs3 := lt_pred hs2)))))))); (try ((have tc := Cum.up hcuA hb (by repeat (first | (with_reducible exact Below.refl _ _) | (with_reducible refine ext_alloc ?_) | ((with_reducible refine ext_setCell ?_ ?_); focus (simp; (try omega))) | (with_reducible refine below_drewN ?_ _) | (with_reducible refine Below.drew ?_) | (with_reducible (apply ext_step; assumption))))); (try clear hs3A); (try clear hs2A); (try clear hs1A); (try clear hs0A); (try clear hszA); (try clear hfzA); (try clear hcA); (clear hcuA); (have hcuA := tc); (clear tc); (obtain ⟨hcA, hfzA⟩ := bcell hcuA.h); (have hszA := hcuA.h.size); (try simp at hszA); (try have hs0A := lt_of_succ_le hszA); (try (have hs1A := lt_pred hszA; (try (have hs2A := lt_pred hs1A; (try (have hs3A := lt_pred hs2A)))))))); (try ((have tc := Cum.up hcuB hb (by repeat (first | (with_reducible exact Below.refl _ _) | (with_reducible refine ext_alloc ?_) | ((with_reducible refine ext_setCell ?_ ?_); focus (simp; (try omega))) | (with_reducible refine below_drewN ?_ _) | (with_reducible refine Below.drew ?_) | (with_reducible (apply ext_step; assumption))))); (try clear hs3B); (try clear hs2B); (try clear hs1B); (try clear hs0B); (try clear hszB); (try clear hfzB); (try clear hcB); (clear hcuB); (have hcuB := tc); (clear tc); (obtain ⟨hcB, hfzB⟩ := bcell hcuB.h); (have hszB := hcuB.h.size); (try simp at hszB); (try have hs0B := lt_of_succ_le hszB); (try (have hs1B := lt_pred hszB; (try (have hs2B := lt_pred hs1B; (try (have hs3B := lt_pred hs2B)))))))); (try ((have tc := Cum.up hcuC hb (by repeat (first | (with_reducible exact Below.refl _ _) | (with_reducible refine ext_alloc ?_) | ((with_reducible refine ext_setCell ?_ ?_); focus (simp; (try omega))) | (with_reducible refine below_drewN ?_ _) | (with_reducible refine Below.drew ?_) | (with_reducible (apply ext_step; assumption))))); (try clear hs3C); (try clear hs2C); (try clear hs1C); (try clear hs0C); (try clear hszC); (try clear hfzC); (try clear hcC); (clear hcuC); (have hcuC := tc); (clear tc); (obtain ⟨hcC, hfzC⟩ := bcell hcuC.h); (have hszC := hcuC.h.size); (try simp at hszC); (try have hs0C := lt_of_succ_le hszC); (try (have hs1C := lt_pred hszC; (try (have hs2C := lt_pred hs1C; (try (have hs3C := lt_pred hs2C))))))))) | ((try ((have tc := Cum.up hcuB hb (by repeat (first | (with_reducible exact Below.refl _ _) | (with_reducible refine ext_alloc ?_) | ((with_reducible refine ext_setCell ?_ ?_); focus (simp; (try omega))) | (with_reducible refine below_drewN ?_ _) | (with_reducible refine Below.drew ?_) | (with_reducible (apply ext_step; assumption))))); (try clear hs3B); (try clear hs2B); (try clear hs1B); (try clear hs0B); (try clear hszB); (try clear hfzB); (try clear hcB); (clear hcuB); (have hcuC := tc); (clear tc); (obtain ⟨hcC, hfzC⟩ := bcell hcuC.h); (have hszC := hcuC.h.size); (try simp at hszC); (try have hs0C := lt_of_succ_le hszC); (try (have hs1C := lt_pred hszC; (try (have hs2C := lt_pred hs1C; (try (have hs3C := lt_pred hs2C)))))))); (try ((have tc := Cum.up hcuA hb (by repeat (first | (with_reducible exact Below.refl _ _) | (with_reducible refine ext_alloc ?_) | ((with_reducible refine ext_setCell ?_ ?_); focus (simp; (try omega))) | (with_reducible refine below_drewN ?_ _) | (with_reducible refine Below.drew ?_) | (with_reducible (apply ext_step; assumption))))); (try clear hs3A); (try clear hs2A); (try clear hs1A); (try clear hs0A); (try clear hszA); (try clear hfzA); (try clear hcA); (clear hcuA); (have hcuB := tc); (clear tc); (obtain ⟨hcB, hfzB⟩ := bcell hcuB.h); (have hszB := hcuB.h.size); (try simp at hszB); (try have hs0B := lt_of_succ_le hszB); (try (have hs1B := lt_pred hszB; (try (have hs2B := lt_pred hs1B; (try (have hs3B := lt_pred hs2B)))))))); (try ((have tc := Cum.up hcu hb (by repeat (first | (with_reducible exact Below.refl _ _) | (with_reducible refine ext_alloc ?_) | ((with_reducible refine ext_setCell ?_ ?_); focus (simp; (try omega))) | (with_reducible refine below_drewN ?_ _) | (with_reducible refine Below.drew ?_) | (with_reducible (apply ext_step; assumption))))); (try clear hs3); (try clear hs2); (try clear hs1); (try clear hs0); (try clear hsz); (try clear hfz); (try clear hc); (clear hcu); (have hcuA := tc); (clear tc); (obtain ⟨hcA, hfzA⟩ := bcell hcuA.h); (have hszA := hcuA.h.size); (try simp at hszA); (try have hs0A := lt_of_succ_le hszA); (try (have hs1A := lt_pred hszA; (try (have hs2A := lt_pred hs1A; (try (have hs3A := lt_pred hs2A)))))))); (have hcu := Cum.mk hb); (obtain ⟨hc, hfz⟩ := bcell hcu.h); (have hsz := hcu.h.size); (try simp at hsz); (try have hs0 := lt_of_succ_le hsz); (try (have hs1 := lt_pred hsz; (try (have hs2 := lt_pred hs1; (try (have hs3 := lt_pred hs2))))))))))
    go_ret
    exact ⟨rfl, (by repeat (first | (with_reducible exact Below.refl _ _) | (with_reducible refine ext_alloc ?_) | ((with_reducible refine ext_setCell ?_ ?_); focus (simp; (try omega))) | (with_reducible refine below_drewN ?_ _) | (with_reducible refine Below.drew ?_) | (with_reducible (apply ext_step; assumption))))⟩
end Go.Proofs.Yteacohdnaddofaa
