/- Steps to FnIndented. No conditions. -/
import Derived.Test.YtohcpifekcehjaaGreatDoorKfin1
import Derived.Test.YtohcpifekcehjaaGreatDoorKfin4
import Derived.RowKit
import Derived.Test.YtohcpifekcehjaaGreatDoorKfin2
import Derived.Test.YtohcpifekcehjaaGreatDoorKfin3
import Derived.Deep.CutRange
import Derived.Deep.RegionHeld3
import Derived.Lib.TrimByte
import Derived.Shelf.Lays
import Derived.Shelf.Strings.Trim
set_option maxHeartbeats 16000000
set_option maxRecDepth 20000
namespace Go.Proofs.YtohcpifekcehjaaGreatDoor
open Go.RowKit
def mxL {D : Type} (f : D -> Nat) : List D -> Nat
 | [] => 0
 | d :: l => max (f d) (mxL f l)
theorem mxL_app {D : Type} (f : D -> Nat) : ∀ a b : List D, mxL f (a ++ b) = max (mxL f a) (mxL f b)
 | [], b => by simp [mxL]
 | d :: a, b => by
  simp only [List.cons_append, mxL]
  rw [mxL_app f a b]
  omega
theorem take_next {D : Type} {l : List D} {k : Nat} {d : D} (h : l[k]? = some d) : l.take (k + 1) = l.take k ++ [d] := by rw [List.take_add_one, h]; rfl
theorem mxL_next {D : Type} (f : D -> Nat) {l : List D} {k : Nat} {d : D} (h : l[k]? = some d) : mxL f (l.take (k + 1)) = max (mxL f (l.take k)) (f d) := by
 rw [take_next h, mxL_app]
 simp [mxL]
def sizeT : Nat -> TreeD -> Nat
 | 0, _ => 0
 | n + 1, d => 1 + szL (sizeT n) d.kids
def depthT : Nat -> TreeD -> Nat
 | 0, _ => 0
 | n + 1, d => mxL (depthT n) d.kids + 1
theorem sizeT_succ (n : Nat) (d : TreeD) : sizeT (n + 1) d = 1 + szL (sizeT n) d.kids := rfl
theorem depthT_succ (n : Nat) (d : TreeD) : depthT (n + 1) d = mxL (depthT n) d.kids + 1 := rfl
theorem depth_size : ∀ (n : Nat) (d : TreeD), depthT n d <= sizeT n d
 | 0, _ => Nat.le_refl _
 | n + 1, d => by
  have h : ∀ l : List TreeD, mxL (depthT n) l <= szL (sizeT n) l := by
   intro l
   induction l with
   | nil => exact Nat.le_refl _
   | cons t l ih =>
    have := depth_size n t
    simp only [mxL, szL]
    omega
  rw [depthT_succ, sizeT_succ]
  have := h d.kids
  omega
theorem size_kid {n k : Nat} {d t : TreeD} (h : d.kids[k]? = some t) : szL (sizeT n) (d.kids.take k) + sizeT n t + 1 <= sizeT (n + 1) d := by
 have h1 := szL_take_succ (sizeT n) d.kids k t h
 have h2 := szL_take_le (sizeT n) d.kids (k + 1)
 rw [sizeT_succ]
 omega
theorem depth_kid {n k : Nat} {d t : TreeD} (h : d.kids[k]? = some t) : mxL (depthT n) (d.kids.take k) + 1 <= depthT (n + 1) d /\ depthT n t + 1 <= depthT (n + 1) d := by
 have h1 := mxL_next (depthT n) h
 have h2 : mxL (depthT n) d.kids = max (mxL (depthT n) (d.kids.take (k + 1))) (mxL (depthT n) (d.kids.drop (k + 1))) := by rw [<- mxL_app, List.take_append_drop]
 rw [depthT_succ]
 omega
def T_DepthI (n : Nat) : Prop := ∀ (d : TreeD) (cs : List Value) (w : World) (lo : Nat), C_Tree n lo w.heap.size w d cs -> sizeT n d <= 1073741824 ->
  Calls Tryz.prog 150 #[.agg cs.toArray] w fun e w' => e = .returned (.int .i64 (depthT n d : Nat)) /\ Below w.heap.size w w'
theorem of_DepthI (n : Nat) (ih : T_DepthI n) : T_DepthI (n + 1) := by
 intro d cs w lo h hsz
 have hds := depth_size (n + 1) d
 obtain ⟨v4, v5, rfl, a0, a2, a3, a4, a5⟩ := C_Tree.out h
 obtain ⟨A4, c4, rfl⟩ := a4.form
 obtain ⟨A5, c5, rfl, hlc, hcc, hA⟩ := a5
 clear h a4
 go_enter Tryz.func150, Tryz.ntmps150
 go_wp2_with fail
 go_loopw [3, 9] (fun s v wr => ∃ k : Nat, k <= d.kids.length /\ v = .int .i64 k /\ s = .int .i64 (mxL (depthT n) (d.kids.take k) : Nat) /\ Below w.heap.size w wr) (fun _ v _ => d.kids.length - (intOf v).toNat)
 case atStart => exact ⟨0, Nat.zero_le _, rfl, rfl, bel⟩
 case round =>
  obtain ⟨k, hk, rfl, rfl, hbr⟩ := hrel
  by_cases hlt : k < d.kids.length
  ·skip
   obtain ⟨p, o, rfl, -, hbl, hcell⟩ := hA (by omega)
   obtain ⟨t, ht⟩ := exists_at hlt
   obtain ⟨es, -, hcs, hC⟩ := hcell k t ht
   obtain ⟨eA4, ec4, eA5, ec5, rfl, ea0, ea2, ea3⟩ := hC.flat
   have hc0 := (hbr.cell (p := ⟨p, o + k * 6 + 0, none⟩) (by simp; omega)).trans (hcs 0 (by omega))
   simp at hc0
   have hc1 := (hbr.cell (p := ⟨p, o + k * 6 + 1, none⟩) (by simp; omega)).trans (hcs 1 (by omega))
   simp at hc1
   have hc2 := (hbr.cell (p := ⟨p, o + k * 6 + 2, none⟩) (by simp; omega)).trans (hcs 2 (by omega))
   simp at hc2
   have hc3 := (hbr.cell (p := ⟨p, o + k * 6 + 3, none⟩) (by simp; omega)).trans (hcs 3 (by omega))
   simp at hc3
   have hc4 := (hbr.cell (p := ⟨p, o + k * 6 + 4, none⟩) (by simp; omega)).trans (hcs 4 (by omega))
   simp at hc4
   have hc5 := (hbr.cell (p := ⟨p, o + k * 6 + 5, none⟩) (by simp; omega)).trans (hcs 5 (by omega))
   simp at hc5
   have hbr1 := Nat.lt_of_lt_of_le hbl hbr.size
   have hk0 : (0 : Int) <= k := by omega
   have hk1 : (k : Int) < d.kids.length := by omega
   have hs1 := size_kid (n := n) ht
   have hd1 := depth_kid (n := n) ht
   have hts : sizeT n t <= 1073741824 := by omega
   have HC := Lib.hid hC
   have Hnx := Lib.hid (mxL_next (depthT n) ht)
   clear hcs hcell hA hC
   obtain ⟨x, hx⟩ : ∃ x : Nat, x = mxL (depthT n) (d.kids.take k) := ⟨_, rfl⟩
   have hxb : x <= 1073741824 := by omega
   rw [<- hx]
   have HX := Lib.hid hx
   obtain ⟨y, hy⟩ : ∃ y : Nat, y = depthT n t := ⟨_, rfl⟩
   have hyb : y + x <= 2147483648 := by have := depth_size n t; omega
   have HY := Lib.hid hy
   clear hx hy hs1 hd1
   go_wp2_with (go_at_call 150; refine (ih t _ _ _ (HC.out.now bel) hts).mono ?_; rintro e w9 ⟨rfl, hb9⟩; rw [<- HY.out])
   go_roundw
   case rel => exact ⟨k + 1, by omega, by go_num, by (have h1 := Hnx.out; rw [<- HX.out, <- HY.out] at h1; rw [h1]; simp; omega), bel⟩
   case measure => simp [intOf]; omega
  ·obtain rfl : k = d.kids.length := by omega
   have Hf := Lib.hid (show depthT (n + 1) d = mxL (depthT n) (d.kids.take d.kids.length) + 1 by rw [depthT_succ, List.take_of_length_le (Nat.le_refl _)])
   obtain ⟨x, hx⟩ : ∃ x : Nat, x = mxL (depthT n) (d.kids.take d.kids.length) := ⟨_, rfl⟩
   rw [<- hx] at Hf
   rw [<- hx]
   have hxb : x <= 1073741824 := by have := Hf.out; omega
   clear hA hx
   go_wp2_with fail
   go_ret
   exact ⟨by rw [Hf.out]; go_num, bel⟩
theorem all_DepthI : ∀ n, T_DepthI n
 | 0 => fun _ _ _ _ h _ => (C_Tree.none h).elim
 | n + 1 => of_DepthI n (all_DepthI n)
def T_SizeI (n : Nat) : Prop := ∀ (d : TreeD) (cs : List Value) (w : World) (lo : Nat), C_Tree n lo w.heap.size w d cs -> sizeT n d <= 1073741824 ->
  Calls Tryz.prog 151 #[.agg cs.toArray] w fun e w' => e = .returned (.int .i64 (sizeT n d : Nat)) /\ Below w.heap.size w w'
theorem of_SizeI (n : Nat) (ih : T_SizeI n) : T_SizeI (n + 1) := by
 intro d cs w lo h hsz
 have hds := depth_size (n + 1) d
 obtain ⟨v4, v5, rfl, a0, a2, a3, a4, a5⟩ := C_Tree.out h
 obtain ⟨A4, c4, rfl⟩ := a4.form
 obtain ⟨A5, c5, rfl, hlc, hcc, hA⟩ := a5
 clear h a4
 go_enter Tryz.func151, Tryz.ntmps151
 go_wp2_with fail
 go_loopw [3, 9] (fun s v wr => ∃ k : Nat, k <= d.kids.length /\ v = .int .i64 k /\ s = .int .i64 (1 + szL (sizeT n) (d.kids.take k) : Nat) /\ Below w.heap.size w wr) (fun _ v _ => d.kids.length - (intOf v).toNat)
 case atStart => exact ⟨0, Nat.zero_le _, rfl, rfl, bel⟩
 case round =>
  obtain ⟨k, hk, rfl, rfl, hbr⟩ := hrel
  by_cases hlt : k < d.kids.length
  ·skip
   obtain ⟨p, o, rfl, -, hbl, hcell⟩ := hA (by omega)
   obtain ⟨t, ht⟩ := exists_at hlt
   obtain ⟨es, -, hcs, hC⟩ := hcell k t ht
   obtain ⟨eA4, ec4, eA5, ec5, rfl, ea0, ea2, ea3⟩ := hC.flat
   have hc0 := (hbr.cell (p := ⟨p, o + k * 6 + 0, none⟩) (by simp; omega)).trans (hcs 0 (by omega))
   simp at hc0
   have hc1 := (hbr.cell (p := ⟨p, o + k * 6 + 1, none⟩) (by simp; omega)).trans (hcs 1 (by omega))
   simp at hc1
   have hc2 := (hbr.cell (p := ⟨p, o + k * 6 + 2, none⟩) (by simp; omega)).trans (hcs 2 (by omega))
   simp at hc2
   have hc3 := (hbr.cell (p := ⟨p, o + k * 6 + 3, none⟩) (by simp; omega)).trans (hcs 3 (by omega))
   simp at hc3
   have hc4 := (hbr.cell (p := ⟨p, o + k * 6 + 4, none⟩) (by simp; omega)).trans (hcs 4 (by omega))
   simp at hc4
   have hc5 := (hbr.cell (p := ⟨p, o + k * 6 + 5, none⟩) (by simp; omega)).trans (hcs 5 (by omega))
   simp at hc5
   have hbr1 := Nat.lt_of_lt_of_le hbl hbr.size
   have hk0 : (0 : Int) <= k := by omega
   have hk1 : (k : Int) < d.kids.length := by omega
   have hs1 := size_kid (n := n) ht
   have hd1 := depth_kid (n := n) ht
   have hts : sizeT n t <= 1073741824 := by omega
   have HC := Lib.hid hC
   have Hnx := Lib.hid (szL_take_succ (sizeT n) d.kids k t ht)
   clear hcs hcell hA hC
   obtain ⟨x, hx⟩ : ∃ x : Nat, x = 1 + szL (sizeT n) (d.kids.take k) := ⟨_, rfl⟩
   have hxb : x <= 1073741824 := by omega
   rw [<- hx]
   have HX := Lib.hid hx
   obtain ⟨y, hy⟩ : ∃ y : Nat, y = sizeT n t := ⟨_, rfl⟩
   have hyb : y + x <= 2147483648 := by have := depth_size n t; omega
   have HY := Lib.hid hy
   clear hx hy hs1 hd1
   go_wp2_with (go_at_call 151; refine (ih t _ _ _ (HC.out.now bel) hts).mono ?_; rintro e w9 ⟨rfl, hb9⟩; rw [<- HY.out])
   go_roundw
   case rel => exact ⟨k + 1, by omega, by go_num, by (have h1 := Hnx.out; have h2 := HX.out; have h3 := HY.out; go_num), bel⟩
   case measure => simp [intOf]; omega
  ·obtain rfl : k = d.kids.length := by omega
   have Hf := Lib.hid (show sizeT (n + 1) d = 1 + szL (sizeT n) (d.kids.take d.kids.length) by rw [sizeT_succ, List.take_of_length_le (Nat.le_refl _)])
   obtain ⟨x, hx⟩ : ∃ x : Nat, x = 1 + szL (sizeT n) (d.kids.take d.kids.length) := ⟨_, rfl⟩
   rw [<- hx] at Hf
   rw [<- hx]
   have hxb : x <= 1073741824 := by have := Hf.out; omega
   clear hA hx
   go_wp2_with fail
   go_ret
   exact ⟨by rw [Hf.out]; rfl, bel⟩
theorem all_SizeI : ∀ n, T_SizeI n
 | 0 => fun _ _ _ _ h _ => (C_Tree.none h).elim
 | n + 1 => of_SizeI n (all_SizeI n)
def T_DepthS (n : Nat) : Prop := ∀ (d : TreeD) (cs : List Value) (w : World) (lo : Nat), C_Tree n lo w.heap.size w d cs -> sizeT n d <= 1073741824 ->
  Calls Tryz.prog 57 #[.agg cs.toArray] w fun e w' => e = .returned (.int .i64 (depthT n d : Nat)) /\ Below w.heap.size w w'
theorem of_DepthS (n : Nat) (ih : T_DepthS n) : T_DepthS (n + 1) := by
 intro d cs w lo h hsz
 have hds := depth_size (n + 1) d
 obtain ⟨v4, v5, rfl, a0, a2, a3, a4, a5⟩ := C_Tree.out h
 obtain ⟨A4, c4, rfl⟩ := a4.form
 obtain ⟨A5, c5, rfl, hlc, hcc, hA⟩ := a5
 clear h a4
 go_enter Tryz.func57, Tryz.ntmps57
 go_wp2_with fail
 go_loopw [3, 4] (fun s v wr => ∃ k : Nat, k <= d.kids.length /\ v = .int .i64 k /\ s = .int .i64 (mxL (depthT n) (d.kids.take k) : Nat) /\ wr.heap[w.heap.size]? = some (.cells #[.int .i64 d.kind, .bool d.flag, .int .i64 d.num, .string d.text, .slice A4 d.keys.length c4, .slice A5 d.kids.length c5] 34 (0, 0)) /\ Below w.heap.size w wr) (fun _ v _ => d.kids.length - (intOf v).toNat)
 case atStart => exact ⟨0, Nat.zero_le _, rfl, rfl, heap_at rfl, bel⟩
 case round =>
  obtain ⟨k, hk, rfl, rfl, hT, hbr⟩ := hrel
  have HT := Lib.hid hT
  clear hT
  obtain ⟨x0, x1, x2, x3, x4, x5, xf⟩ := row6 HT.out
  have hl1 := row_lt HT.out
  by_cases hlt : k < d.kids.length
  ·skip
   obtain ⟨p, o, rfl, -, hbl, hcell⟩ := hA (by omega)
   obtain ⟨t, ht⟩ := exists_at hlt
   obtain ⟨es, -, hcs, hC⟩ := hcell k t ht
   obtain ⟨eA4, ec4, eA5, ec5, rfl, ea0, ea2, ea3⟩ := hC.flat
   have hc0 := (hbr.cell (p := ⟨p, o + k * 6 + 0, none⟩) (by simp; omega)).trans (hcs 0 (by omega))
   simp at hc0
   have hc1 := (hbr.cell (p := ⟨p, o + k * 6 + 1, none⟩) (by simp; omega)).trans (hcs 1 (by omega))
   simp at hc1
   have hc2 := (hbr.cell (p := ⟨p, o + k * 6 + 2, none⟩) (by simp; omega)).trans (hcs 2 (by omega))
   simp at hc2
   have hc3 := (hbr.cell (p := ⟨p, o + k * 6 + 3, none⟩) (by simp; omega)).trans (hcs 3 (by omega))
   simp at hc3
   have hc4 := (hbr.cell (p := ⟨p, o + k * 6 + 4, none⟩) (by simp; omega)).trans (hcs 4 (by omega))
   simp at hc4
   have hc5 := (hbr.cell (p := ⟨p, o + k * 6 + 5, none⟩) (by simp; omega)).trans (hcs 5 (by omega))
   simp at hc5
   have hbr1 := Nat.lt_of_lt_of_le hbl hbr.size
   have hk0 : (0 : Int) <= k := by omega
   have hk1 : (k : Int) < d.kids.length := by omega
   have hs1 := size_kid (n := n) ht
   have hd1 := depth_kid (n := n) ht
   have hts : sizeT n t <= 1073741824 := by omega
   have HC := Lib.hid hC
   have Hnx := Lib.hid (mxL_next (depthT n) ht)
   clear hcs hcell hA hC
   obtain ⟨x, hx⟩ : ∃ x : Nat, x = mxL (depthT n) (d.kids.take k) := ⟨_, rfl⟩
   have hxb : x <= 1073741824 := by omega
   rw [<- hx]
   have HX := Lib.hid hx
   obtain ⟨y, hy⟩ : ∃ y : Nat, y = depthT n t := ⟨_, rfl⟩
   have hyb : y + x <= 2147483648 := by have := depth_size n t; omega
   have HY := Lib.hid hy
   clear hx hy hs1 hd1
   have hyx : decide (x < y) = true ∨ decide (x < y) = false := by rcases decide (x < y) with _ | _ <;> simp
   rcases hyx with hyx | hyx
   ·have hyi : (x : Int) < y := by have := of_decide_eq_true hyx; omega
    have hn : max x y = y := by have := of_decide_eq_true hyx; omega
    clear hyx
    go_wp2_with (go_at_call 57; refine (ih t _ _ _ (HC.out.now bel) hts).mono ?_; rintro e w9 ⟨rfl, hb9⟩; rw [<- HY.out])
    go_roundw
    case rel => exact ⟨k + 1, by omega, by go_num, by (have h1 := Hnx.out; rw [<- HX.out, <- HY.out, hn] at h1; rw [h1]), (hb9.block _ (by first | omega | (simp; omega))).trans HT.out, bel⟩
    case measure => simp [intOf]; omega
   ·have hyi : decide ((x : Int) < y) = false := decide_eq_false (by have := of_decide_eq_false hyx; omega)
    have hn : max x y = x := by have := of_decide_eq_false hyx; omega
    clear hyx
    go_wp2_with (go_at_call 57; refine (ih t _ _ _ (HC.out.now bel) hts).mono ?_; rintro e w9 ⟨rfl, hb9⟩; rw [<- HY.out])
    go_roundw
    case rel => exact ⟨k + 1, by omega, by go_num, by (have h1 := Hnx.out; rw [<- HX.out, <- HY.out, hn] at h1; rw [h1]), (hb9.block _ (by first | omega | (simp; omega))).trans HT.out, bel⟩
    case measure => simp [intOf]; omega
  ·obtain rfl : k = d.kids.length := by omega
   have Hf := Lib.hid (show depthT (n + 1) d = mxL (depthT n) (d.kids.take d.kids.length) + 1 by rw [depthT_succ, List.take_of_length_le (Nat.le_refl _)])
   obtain ⟨x, hx⟩ : ∃ x : Nat, x = mxL (depthT n) (d.kids.take d.kids.length) := ⟨_, rfl⟩
   rw [<- hx] at Hf
   rw [<- hx]
   have hxb : x <= 1073741824 := by have := Hf.out; omega
   clear hA hx
   go_wp2_with fail
   go_ret
   exact ⟨by rw [Hf.out]; go_num, bel⟩
theorem all_DepthS : ∀ n, T_DepthS n
 | 0 => fun _ _ _ _ h _ => (C_Tree.none h).elim
 | n + 1 => of_DepthS n (all_DepthS n)
def T_SizeS (n : Nat) : Prop := ∀ (d : TreeD) (cs : List Value) (w : World) (lo : Nat), C_Tree n lo w.heap.size w d cs -> sizeT n d <= 1073741824 ->
  Calls Tryz.prog 58 #[.agg cs.toArray] w fun e w' => e = .returned (.int .i64 (sizeT n d : Nat)) /\ Below w.heap.size w w'
theorem of_SizeS (n : Nat) (ih : T_SizeS n) : T_SizeS (n + 1) := by
 intro d cs w lo h hsz
 have hds := depth_size (n + 1) d
 obtain ⟨v4, v5, rfl, a0, a2, a3, a4, a5⟩ := C_Tree.out h
 obtain ⟨A4, c4, rfl⟩ := a4.form
 obtain ⟨A5, c5, rfl, hlc, hcc, hA⟩ := a5
 clear h a4
 go_enter Tryz.func58, Tryz.ntmps58
 go_wp2_with fail
 go_loopw [3, 4] (fun s v wr => ∃ k : Nat, k <= d.kids.length /\ v = .int .i64 k /\ s = .int .i64 (1 + szL (sizeT n) (d.kids.take k) : Nat) /\ wr.heap[w.heap.size]? = some (.cells #[.int .i64 d.kind, .bool d.flag, .int .i64 d.num, .string d.text, .slice A4 d.keys.length c4, .slice A5 d.kids.length c5] 34 (0, 0)) /\ Below w.heap.size w wr) (fun _ v _ => d.kids.length - (intOf v).toNat)
 case atStart => exact ⟨0, Nat.zero_le _, rfl, rfl, heap_at rfl, bel⟩
 case round =>
  obtain ⟨k, hk, rfl, rfl, hT, hbr⟩ := hrel
  have HT := Lib.hid hT
  clear hT
  obtain ⟨x0, x1, x2, x3, x4, x5, xf⟩ := row6 HT.out
  have hl1 := row_lt HT.out
  by_cases hlt : k < d.kids.length
  ·skip
   obtain ⟨p, o, rfl, -, hbl, hcell⟩ := hA (by omega)
   obtain ⟨t, ht⟩ := exists_at hlt
   obtain ⟨es, -, hcs, hC⟩ := hcell k t ht
   obtain ⟨eA4, ec4, eA5, ec5, rfl, ea0, ea2, ea3⟩ := hC.flat
   have hc0 := (hbr.cell (p := ⟨p, o + k * 6 + 0, none⟩) (by simp; omega)).trans (hcs 0 (by omega))
   simp at hc0
   have hc1 := (hbr.cell (p := ⟨p, o + k * 6 + 1, none⟩) (by simp; omega)).trans (hcs 1 (by omega))
   simp at hc1
   have hc2 := (hbr.cell (p := ⟨p, o + k * 6 + 2, none⟩) (by simp; omega)).trans (hcs 2 (by omega))
   simp at hc2
   have hc3 := (hbr.cell (p := ⟨p, o + k * 6 + 3, none⟩) (by simp; omega)).trans (hcs 3 (by omega))
   simp at hc3
   have hc4 := (hbr.cell (p := ⟨p, o + k * 6 + 4, none⟩) (by simp; omega)).trans (hcs 4 (by omega))
   simp at hc4
   have hc5 := (hbr.cell (p := ⟨p, o + k * 6 + 5, none⟩) (by simp; omega)).trans (hcs 5 (by omega))
   simp at hc5
   have hbr1 := Nat.lt_of_lt_of_le hbl hbr.size
   have hk0 : (0 : Int) <= k := by omega
   have hk1 : (k : Int) < d.kids.length := by omega
   have hs1 := size_kid (n := n) ht
   have hd1 := depth_kid (n := n) ht
   have hts : sizeT n t <= 1073741824 := by omega
   have HC := Lib.hid hC
   have Hnx := Lib.hid (szL_take_succ (sizeT n) d.kids k t ht)
   clear hcs hcell hA hC
   obtain ⟨x, hx⟩ : ∃ x : Nat, x = 1 + szL (sizeT n) (d.kids.take k) := ⟨_, rfl⟩
   have hxb : x <= 1073741824 := by omega
   rw [<- hx]
   have HX := Lib.hid hx
   obtain ⟨y, hy⟩ : ∃ y : Nat, y = sizeT n t := ⟨_, rfl⟩
   have hyb : y + x <= 2147483648 := by have := depth_size n t; omega
   have HY := Lib.hid hy
   clear hx hy hs1 hd1
   go_wp2_with (go_at_call 58; refine (ih t _ _ _ (HC.out.now bel) hts).mono ?_; rintro e w9 ⟨rfl, hb9⟩; rw [<- HY.out])
   go_roundw
   case rel => exact ⟨k + 1, by omega, by go_num, by (have h1 := Hnx.out; have h2 := HX.out; have h3 := HY.out; go_num), (hb9.block _ (by first | omega | (simp; omega))).trans HT.out, bel⟩
   case measure => simp [intOf]; omega
  ·obtain rfl : k = d.kids.length := by omega
   have Hf := Lib.hid (show sizeT (n + 1) d = 1 + szL (sizeT n) (d.kids.take d.kids.length) by rw [sizeT_succ, List.take_of_length_le (Nat.le_refl _)])
   obtain ⟨x, hx⟩ : ∃ x : Nat, x = 1 + szL (sizeT n) (d.kids.take d.kids.length) := ⟨_, rfl⟩
   rw [<- hx] at Hf
   rw [<- hx]
   have hxb : x <= 1073741824 := by have := Hf.out; omega
   clear hA hx
   go_wp2_with fail
   go_ret
   exact ⟨by rw [Hf.out]; rfl, bel⟩
theorem all_SizeS : ∀ n, T_SizeS n
 | 0 => fun _ _ _ _ h _ => (C_Tree.none h).elim
 | n + 1 => of_SizeS n (all_SizeS n)
def allR (n : Nat) (p : Nat -> Bool) : Bool := (List.range n).all p
theorem allR_succ (n : Nat) (p : Nat -> Bool) : allR (n + 1) p = (allR n p && p n) := by
 unfold allR; rw [List.range_succ, List.all_append]; simp
theorem allR_bad (n k : Nat) (p : Nat -> Bool) (hk : k < n) (h : p k = false) : allR n p = false := by
 unfold allR; rw [List.all_eq_false]; exact ⟨k, by simpa using hk, by simp [h]⟩
def eqAt {D : Type} (eq : D -> D -> Bool) (l m : List D) (i : Nat) : Bool := match l[i]?, m[i]? with | some a, some b => eq a b | _, _ => true
theorem eqAt_eq {D : Type} (eq : D -> D -> Bool) (l m : List D) (i : Nat) (a b : D) (ha : l[i]? = some a) (hb : m[i]? = some b) : eqAt eq l m i = eq a b := by unfold eqAt; rw [ha, hb]
def eqL {D : Type} (eq : D -> D -> Bool) (l m : List D) : Bool := decide (l.length = m.length) && allR l.length (eqAt eq l m)
theorem eqL_len {D : Type} (eq : D -> D -> Bool) (l m : List D) (h : l.length ≠ m.length) : eqL eq l m = false := by unfold eqL; simp [h]
theorem eqL_bad {D : Type} (eq : D -> D -> Bool) (l m : List D) (k : Nat) (hk : k < l.length) (h : eqAt eq l m k = false) : eqL eq l m = false := by unfold eqL; rw [allR_bad _ k _ hk h, Bool.and_false]
theorem eqL_all {D : Type} (eq : D -> D -> Bool) (l m : List D) (h : l.length = m.length) (ha : allR l.length (eqAt eq l m) = true) : eqL eq l m = true := by unfold eqL; rw [ha]; simp [h]
def eqStr (d d' : ByteArray) : Bool := (d.toList == d'.toList)
def strB (s : ByteArray) : Bool := decide (s.size <= 400) && utf8B s
def badH (d : TreeD) : Bool := !inB d.kind 1 6 || (d.flag && d.kind != 2) || (d.num != 0 && d.kind != 3) || (!d.text.toList.isEmpty && d.kind != 4) || (decide (0 < d.keys.length) && d.kind != 6) || (decide (0 < d.kids.length) && decide (d.kind < 5))
def keyOk (ks : List ByteArray) (i : Nat) : Bool := match ks[i]? with
 | none => true
 | some k => strB k && (match i with
  | 0 => true
  | j + 1 => match ks[j]? with
   | none => true
   | some p => lessS p k)
def lensOk (d : TreeD) : Bool := !(d.kind == 6 && decide (d.keys.length ≠ d.kids.length))
def kidAt (f : TreeD -> Bool) (l : List TreeD) (i : Nat) : Bool := match l[i]? with | none => true | some t => f t
def shapeT : Nat -> TreeD -> Bool
 | 0, _ => false
 | n + 1, d => !badH d && strB d.text && lensOk d && allR d.keys.length (keyOk d.keys) && allR d.kids.length (kidAt (shapeT n) d.kids)
theorem shapeT_succ (n : Nat) (d : TreeD) : shapeT (n + 1) d = (!badH d && strB d.text && lensOk d && allR d.keys.length (keyOk d.keys) && allR d.kids.length (kidAt (shapeT n) d.kids)) := rfl
theorem keyOk_none {ks : List ByteArray} {i : Nat} {k : ByteArray} (h : ks[i]? = some k) (hs : strB k = false) : keyOk ks i = false := by unfold keyOk; rw [h]; simp only; rw [hs]; rfl
theorem keyOk_zero {ks : List ByteArray} {k : ByteArray} (h : ks[0]? = some k) : keyOk ks 0 = strB k := by unfold keyOk; rw [h]; simp only; rw [Bool.and_true]
theorem keyOk_succ {ks : List ByteArray} {j : Nat} {p k : ByteArray} (h : ks[j + 1]? = some k) (hp : ks[j]? = some p) : keyOk ks (j + 1) = (strB k && lessS p k) := by unfold keyOk; rw [h]; simp only; rw [hp]
theorem kidAt_eq {f : TreeD -> Bool} {l : List TreeD} {i : Nat} {t : TreeD} (h : l[i]? = some t) : kidAt f l i = f t := by unfold kidAt; rw [h]
theorem c_impl_stringOk (s : ByteArray) (w : World) (hT : Tabs w) (hs : s.size <= 9223372036854775807) :
  Calls Tryz.prog 215 #[.string s] w fun e w' => e = .returned (.bool (strB s)) /\ Below w.heap.size w w' := by
 by_cases h : s.size <= 400
 ·have Hf := Lib.hid (show strB s = utf8B s by unfold strB; rw [decide_eq_true h, Bool.true_and])
  have d1 : decide ((s.size : Int) <= 400) = true := decide_eq_true (by omega)
  have HC := Lib.hid (fun (w' : World) (hb : Below w.heap.size w w') => c_impl_Utf8Ok s w' hs (hT.below hb))
  clear h hT
  go_enter Tryz.func215, Tryz.ntmps215
  go_wp2_with (go_at_call 222; refine (HC.out _ bel).mono ?_; rintro e w1 ⟨rfl, hb⟩; (first | (have hcu2 := Cum.join hcu hb; (try clear hcu); (try clear hc); (try clear hfz); (try clear hsz); (try clear hs0); (try clear hs1); (try clear hs2); (try clear hs3); (try clear hs4); ) | have hcu2 := Cum.mk hb); have hcu := hcu2; clear hcu2; obtain ⟨hc, hfz⟩ := bcell hcu.h; have hsz := hcu.h.size; (try simp at hsz); (try have hs0 := lt_of_succ_le hsz); (try (have hs1 := lt_pred hsz; (try (have hs2 := lt_pred hs1; (try (have hs3 := lt_pred hs2; (try have hs4 := lt_pred hs3))))))))
  go_ret
  exact ⟨ret_bool Hf.out.symm, bel⟩
 ·have Hf := Lib.hid (show strB s = false by unfold strB; rw [decide_eq_false h, Bool.false_and])
  have d1 : decide ((s.size : Int) <= 400) = false := decide_eq_false (by omega)
  clear h hT
  go_enter Tryz.func215, Tryz.ntmps215
  go_wp2_with fail
  go_ret
  exact ⟨ret_bool Hf.out.symm, bel⟩
theorem c_spec_l08Text (s : ByteArray) (w : World) :
  Calls Tryz.prog 116 #[.string s] w fun e w' => e = .returned (.bool (strB s)) /\ Below w.heap.size w w' := by
 by_cases h : s.size <= 400
 ·have Hf := Lib.hid (show strB s = utf8B s by unfold strB; rw [decide_eq_true h, Bool.true_and])
  have d1 : decide ((s.size : Int) <= 400) = true := decide_eq_true (by omega)
  have HC := Lib.hid (fun (w' : World) => c_spec_Utf8Ok s w' (by omega))
  clear h
  go_enter Tryz.func116, Tryz.ntmps116
  go_wp2_with (go_at_call 195; refine (HC.out _).mono ?_; rintro e w1 ⟨rfl, hb⟩; (first | (have hcu2 := Cum.join hcu hb; (try clear hcu); (try clear hc); (try clear hfz); (try clear hsz); (try clear hs0); (try clear hs1); (try clear hs2); (try clear hs3); (try clear hs4); ) | have hcu2 := Cum.mk hb); have hcu := hcu2; clear hcu2; obtain ⟨hc, hfz⟩ := bcell hcu.h; have hsz := hcu.h.size; (try simp at hsz); (try have hs0 := lt_of_succ_le hsz); (try (have hs1 := lt_pred hsz; (try (have hs2 := lt_pred hs1; (try (have hs3 := lt_pred hs2; (try have hs4 := lt_pred hs3))))))))
  go_ret
  exact ⟨ret_bool Hf.out.symm, bel⟩
 ·have Hf := Lib.hid (show strB s = false by unfold strB; rw [decide_eq_false h, Bool.false_and])
  have d1 : decide ((s.size : Int) <= 400) = false := decide_eq_false (by omega)
  clear h
  go_enter Tryz.func116, Tryz.ntmps116
  go_wp2_with fail
  go_ret
  exact ⟨ret_bool Hf.out.symm, bel⟩
def T_nodI (n : Nat) : Prop := ∀ (d : TreeD) (cs : List Value) (w : World) (lo : Nat), C_Tree n lo w.heap.size w d cs -> Tabs w ->
  Calls Tryz.prog 152 #[.agg cs.toArray] w fun e w' => e = .returned (.bool (shapeT n d)) /\ Below w.heap.size w w'
theorem of_nodI (n : Nat) (ih : T_nodI n) : T_nodI (n + 1) := by
 intro d cs w lo h hTab
 have HT0 := Lib.hid hTab
 clear hTab
 obtain ⟨v4, v5, rfl, a0, a2, a3, a4, a5⟩ := C_Tree.out h
 obtain ⟨A4, c4, rfl, hlk, hck, hK⟩ := a4
 obtain ⟨A5, c5, rfl, hlc, hcc, hA⟩ := a5
 have Hf := Lib.hid (shapeT_succ n d)
 clear h
 obtain ⟨dk, df, dn, dt, dks, dkd⟩ := d
 simp only at a0 a2 a3 hlk hK hlc hA ⊢
 obtain ⟨z, hz⟩ : ∃ z, z = shapeT (n + 1) ⟨dk, df, dn, dt, dks, dkd⟩ := ⟨_, rfl⟩
 rw [<- hz] at Hf ⊢
 simp only at Hf
 clear hz
 obtain ⟨W0, hW0⟩ : ∃ W, W = w.alloc (.cells #[.int .i64 dk, .bool df, .int .i64 dn, .string dt, .slice A4 dks.length c4, .slice A5 dkd.length c5] 34) := ⟨_, rfl⟩
 have hB0 : Below w.heap.size w W0 := by rw [hW0]; exact bel
 have HR0 := Lib.hid (show W0.heap[w.heap.size]? = some (.cells #[.int .i64 dk, .bool df, .int .i64 dn, .string dt, .slice A4 dks.length c4, .slice A5 dkd.length c5] 34 (0, 0)) by rw [hW0]; exact heap_at rfl)
 have HW0 := Lib.hid hW0
 clear hW0
 go_enter Tryz.func152, Tryz.ntmps152
 go_upto_region 1 with fail
 go_cut [61] from 7 to 61 (fun s61 wx => s61 = .bool (badH ⟨dk, df, dn, dt, dks, dkd⟩) /\ wx = w.alloc (.cells #[.int .i64 dk, .bool df, .int .i64 dn, .string dt, .slice A4 dks.length c4, .slice A5 dkd.length c5] 34))
 case first =>
  clear Hf hK hA HR0 HW0 hB0
  go_wp2_with (go_at_call 63; refine (c_impl_within _ _ _ _).mono ?_; rintro e w1 ⟨rfl, rfl⟩)
  all_goals
   (try simp only [Bool.not_eq_true] at *)
   (try subst_vars)
   go_meet
   refine ⟨?_, rfl⟩
   congr 1
  all_goals (unfold badH; simp_all; done)
 case rest =>
 obtain ⟨rfl, rfl⟩ := hcut
 rw [<- HW0.out]
 obtain ⟨q1, hq1⟩ : ∃ q, q = badH ⟨dk, df, dn, dt, dks, dkd⟩ := ⟨_, rfl⟩
 rw [<- hq1] at Hf ⊢
 clear hq1
 rcases q1 with _ | _
 rotate_left
 ·have HX := Lib.hid (show z = false by rw [Hf.out]; rfl)
  go_wp2_with fail
  go_ret
  exact ⟨ret_bool HX.out.symm, bel⟩
 obtain ⟨x0, x1, x2, x3, x4, x5, xf⟩ := row6 HR0.out
 have l0 := row_lt HR0.out
 go_upto_region 3 with fail
 go_cut [79] from 62 to 79 (fun s79 wx => s79 = .bool (!(strB dt && lensOk ⟨dk, df, dn, dt, dks, dkd⟩)) /\ Below W0.heap.size W0 wx)
 case first =>
  clear Hf hK hA
  rcases hst : strB dt with _ | _
  ·go_wp2_with (go_at_call 215; refine (c_impl_stringOk _ _ (HT0.out.below hB0) (by omega)).mono ?_; rintro e w9 ⟨rfl, hb9⟩)
   go_meet
   exact ⟨by rw [hst]; rfl, hb9⟩
  ·by_cases hk6 : dk = 6
   ·by_cases hln : dks.length = dkd.length
    ·have d1 : (dk == 6) = true := by simp [hk6]
     have d2 : ((dks.length : Int) != dkd.length) = false := by simp [hln]
     have HV := Lib.hid (show lensOk ⟨dk, df, dn, dt, dks, dkd⟩ = true by unfold lensOk; simp [hk6, hln])
     clear hk6 hln
     go_wp2_with (go_at_call 215; refine (c_impl_stringOk _ _ (HT0.out.below hB0) (by omega)).mono ?_; rintro e w9 ⟨rfl, hb9⟩; obtain ⟨m0, m1, m2, m3, m4, m5, mf⟩ := row6 ((hb9.block _ l0).trans HR0.out); have lm := Nat.lt_of_lt_of_le l0 hb9.size)
     go_meet
     exact ⟨by rw [hst, HV.out]; rfl, hb9⟩
    ·have d1 : (dk == 6) = true := by simp [hk6]
     have d2 : ((dks.length : Int) != dkd.length) = true := bne_iff_ne.2 (by omega)
     have HV := Lib.hid (show lensOk ⟨dk, df, dn, dt, dks, dkd⟩ = false by unfold lensOk; simp [hk6, hln])
     clear hk6 hln
     go_wp2_with (go_at_call 215; refine (c_impl_stringOk _ _ (HT0.out.below hB0) (by omega)).mono ?_; rintro e w9 ⟨rfl, hb9⟩; obtain ⟨m0, m1, m2, m3, m4, m5, mf⟩ := row6 ((hb9.block _ l0).trans HR0.out); have lm := Nat.lt_of_lt_of_le l0 hb9.size)
     go_meet
     exact ⟨by rw [hst, HV.out]; rfl, hb9⟩
   ·have d1 : (dk == 6) = false := beq_eq_false_iff_ne.2 hk6
    have HV := Lib.hid (show lensOk ⟨dk, df, dn, dt, dks, dkd⟩ = true by unfold lensOk; simp [hk6])
    clear hk6
    go_wp2_with (go_at_call 215; refine (c_impl_stringOk _ _ (HT0.out.below hB0) (by omega)).mono ?_; rintro e w9 ⟨rfl, hb9⟩; obtain ⟨m0, m1, m2, m3, m4, m5, mf⟩ := row6 ((hb9.block _ l0).trans HR0.out); have lm := Nat.lt_of_lt_of_le l0 hb9.size)
    go_meet
    exact ⟨by rw [hst, HV.out]; rfl, hb9⟩
 case rest =>
 obtain ⟨rfl, hb1⟩ := hcut
 have HR1 := Lib.hid ((hb1.block _ l0).trans HR0.out)
 have hB1 := hB0.trans (hb1.mono hB0.size)
 have hE := Lib.hid (show z = (strB dt && lensOk ⟨dk, df, dn, dt, dks, dkd⟩ && allR dks.length (keyOk dks) && allR dkd.length (kidAt (shapeT n) dkd)) by rw [Hf.out]; rfl)
 obtain ⟨q2, hq2⟩ : ∃ q, q = (strB dt && lensOk ⟨dk, df, dn, dt, dks, dkd⟩) := ⟨_, rfl⟩
 rw [<- hq2] at hE ⊢
 clear hq2 Hf HR0 HW0 hB0 hb1 x0 x1 x2 x3 x4 x5 xf l0
 rcases q2 with _ | _
 ·have HX := Lib.hid (show z = false by rw [hE.out]; rfl)
  go_wp2_with fail
  go_ret
  exact ⟨ret_bool HX.out.symm, bel⟩
 obtain ⟨x0, x1, x2, x3, x4, x5, xf⟩ := row6 HR1.out
 have l0 := row_lt HR1.out
 go_wp2_with fail
 go_loopw [83] (fun v wr => ∃ k : Nat, k <= dks.length /\ v = .int .i64 k /\ allR k (keyOk dks) = true /\ wr.heap[w.heap.size]? = some (.cells #[.int .i64 dk, .bool df, .int .i64 dn, .string dt, .slice A4 dks.length c4, .slice A5 dkd.length c5] 34 (0, 0)) /\ Below w.heap.size w wr) (fun v _ => dks.length - (intOf v).toNat)
 case atStart => exact ⟨0, Nat.zero_le _, rfl, rfl, HR1.out, hB1⟩
 case round =>
  clear x0 x1 x2 x3 x4 x5 xf l0 HR1 hB1
  obtain ⟨k, hk, rfl, hall, hT, hbr⟩ := hrel
  have HT := Lib.hid hT
  have Hall := Lib.hid hall
  clear hT hall
  obtain ⟨x0, x1, x2, x3, x4, x5, xf⟩ := row6 HT.out
  have l0 := row_lt HT.out
  by_cases hlt : k < dks.length
  ·obtain ⟨p, o, rfl, -, hbl, hcell⟩ := hK (by omega)
   obtain ⟨s, hs⟩ := exists_at hlt
   obtain ⟨es, -, hcs, rfl, hss⟩ := hcell k s hs
   have hc0 := (hbr.cell (p := ⟨p, o + k * 1 + 0, none⟩) hbl).trans (hcs 0 (by omega))
   simp at hc0
   have hbr1 := Nat.lt_of_lt_of_le hbl hbr.size
   have hk0 : (0 : Int) <= k := by omega
   have hk1 : (k : Int) < dks.length := by omega
   have HS := Lib.hid hs
   have HCl := Lib.hid hcell
   clear hcs hcell hs hK hA
   go_upto_region 8 with fail
   go_cut [104] from 88 to 104 (fun s wx => s = .bool (!keyOk dks k) /\ Below wr.heap.size wr wx)
   case first =>
    rcases hst : strB s with _ | _
    ·have HV := Lib.hid (keyOk_none HS.out hst)
     go_wp2_with (go_at_call 215; refine (c_impl_stringOk _ _ (HT0.out.below hbr) (by omega)).mono ?_; rintro e w9 ⟨rfl, hb9⟩)
     go_meet
     exact ⟨by rw [HV.out]; rfl, hb9⟩
    ·rcases k with _ | j
     ·have HV := Lib.hid ((keyOk_zero HS.out).trans hst)
      go_wp2_with (go_at_call 215; refine (c_impl_stringOk _ _ (HT0.out.below hbr) (by omega)).mono ?_; rintro e w9 ⟨rfl, hb9⟩)
      go_meet
      exact ⟨by rw [HV.out]; rfl, hb9⟩
     ·obtain ⟨r, hr⟩ := exists_at (show j < dks.length by omega)
      obtain ⟨es, -, hcs, rfl, hrs⟩ := HCl.out j r hr
      have hd0 := (hbr.cell (p := ⟨p, o + j * 1 + 0, none⟩) hbl).trans (hcs 0 (by omega))
      simp at hd0
      have hj0 : (0 : Int) < ((j + 1 : Nat) : Int) := by omega
      obtain ⟨y, hy⟩ : ∃ y : Nat, y = j + 1 := ⟨_, rfl⟩
      have HV := Lib.hid ((keyOk_succ HS.out hr).trans (by rw [hst, Bool.true_and]))
      have HY := Lib.hid hy
      have hji : (y : Int) - 1 = (j : Int) := by omega
      have hj1 : (0 : Int) <= j := by omega
      have hj2 : (j : Int) < dks.length := by omega
      rw [<- hy] at hc0 hk0 hk1 hj0 HV ⊢
      clear hcs hr hy hk hlt
      rcases hls : lessS r s with _ | _
      ·have g1 : Op.bytesLess r.toList s.toList = false := hls
       have HV2 := Lib.hid (HV.out.trans hls)
       clear hls HV
       go_wp2_with (go_at_call 215; refine (c_impl_stringOk _ _ (HT0.out.below hbr) (by omega)).mono ?_; rintro e w9 ⟨rfl, hb9⟩; obtain ⟨m0, m1, m2, m3, m4, m5, mf⟩ := row6 ((hb9.block _ l0).trans HT.out); have lm := Nat.lt_of_lt_of_le l0 hb9.size; have e0 := (hb9.cell (p := ⟨p, o + j, none⟩) hbr1).trans hd0; have le := Nat.lt_of_lt_of_le hbr1 hb9.size)
       all_goals
        have hy := HY.out
        subst hy
        go_meet
        exact ⟨by rw [HV2.out]; simp_all, hb9⟩
      ·have g1 : Op.bytesLess r.toList s.toList = true := hls
       have HV2 := Lib.hid (HV.out.trans hls)
       clear hls HV
       go_wp2_with (go_at_call 215; refine (c_impl_stringOk _ _ (HT0.out.below hbr) (by omega)).mono ?_; rintro e w9 ⟨rfl, hb9⟩; obtain ⟨m0, m1, m2, m3, m4, m5, mf⟩ := row6 ((hb9.block _ l0).trans HT.out); have lm := Nat.lt_of_lt_of_le l0 hb9.size; have e0 := (hb9.cell (p := ⟨p, o + j, none⟩) hbr1).trans hd0; have le := Nat.lt_of_lt_of_le hbr1 hb9.size)
       all_goals
        have hy := HY.out
        subst hy
        go_meet
        exact ⟨by rw [HV2.out]; simp_all, hb9⟩
   case rest =>
    obtain ⟨rfl, hb9⟩ := hcut
    have HT9 := Lib.hid ((hb9.block _ l0).trans HT.out)
    have hbr9 := hbr.trans (hb9.mono hbr.size)
    obtain ⟨q3, hq3⟩ : ∃ q, q = keyOk dks k := ⟨_, rfl⟩
    rw [<- hq3]
    rcases q3 with _ | _
    ·have HX := Lib.hid (show z = false by rw [hE.out, allR_bad _ k _ hlt hq3.symm]; rfl)
     clear hE hq3
     go_wp2_with fail
     go_ret
     exact ⟨ret_bool HX.out.symm, bel⟩
    ·have Hn := Lib.hid (show allR (k + 1) (keyOk dks) = true by rw [allR_succ, Hall.out, <- hq3]; rfl)
     clear hq3 hbr hb9 hc0 x0 x1 x2 x3 x4 x5 xf
     go_wp2_with fail
     go_roundw
     case rel => exact ⟨k + 1, by omega, by go_num, Hn.out, HT9.out, hbr9⟩
     case measure => simp [intOf]; omega
  ·obtain rfl : k = dks.length := by omega
   have hE2 := Lib.hid (show z = allR dkd.length (kidAt (shapeT n) dkd) by rw [hE.out, Hall.out]; rfl)
   have hke : decide (dks.length < dks.length) = false := decide_eq_false (Nat.lt_irrefl _)
   clear hK hE Hall
   go_wp2_with fail
   go_loopw [109] (fun v wr => ∃ k : Nat, k <= dkd.length /\ v = .int .i64 k /\ allR k (kidAt (shapeT n) dkd) = true /\ Below w.heap.size w wr) (fun v _ => dkd.length - (intOf v).toNat)
   case atStart => exact ⟨0, Nat.zero_le _, rfl, rfl, hbr⟩
   case round =>
    have hb0 := hbr
    clear hbr hb0 HT x0 x1 x2 x3 x4 x5 xf l0
    obtain ⟨k, hk, rfl, hall, hbr⟩ := hrel
    have Hall := Lib.hid hall
    clear hall
    by_cases hlt : k < dkd.length
    ·obtain ⟨p, o, rfl, -, hbl, hcell⟩ := hA (by omega)
     obtain ⟨t, ht⟩ := exists_at hlt
     obtain ⟨es, -, hcs, hC⟩ := hcell k t ht
     obtain ⟨eA4, ec4, eA5, ec5, rfl, ea0, ea2, ea3⟩ := hC.flat
     have hc0 := (hbr.cell (p := ⟨p, o + k * 6 + 0, none⟩) (by simp; omega)).trans (hcs 0 (by omega))
     simp at hc0
     have hc1 := (hbr.cell (p := ⟨p, o + k * 6 + 1, none⟩) (by simp; omega)).trans (hcs 1 (by omega))
     simp at hc1
     have hc2 := (hbr.cell (p := ⟨p, o + k * 6 + 2, none⟩) (by simp; omega)).trans (hcs 2 (by omega))
     simp at hc2
     have hc3 := (hbr.cell (p := ⟨p, o + k * 6 + 3, none⟩) (by simp; omega)).trans (hcs 3 (by omega))
     simp at hc3
     have hc4 := (hbr.cell (p := ⟨p, o + k * 6 + 4, none⟩) (by simp; omega)).trans (hcs 4 (by omega))
     simp at hc4
     have hc5 := (hbr.cell (p := ⟨p, o + k * 6 + 5, none⟩) (by simp; omega)).trans (hcs 5 (by omega))
     simp at hc5
     have hbr1 := Nat.lt_of_lt_of_le hbl hbr.size
     have hk0 : (0 : Int) <= k := by omega
     have hk1 : (k : Int) < dkd.length := by omega
     have HC := Lib.hid hC
     have HKi := Lib.hid (kidAt_eq (f := shapeT n) ht)
     clear hcs hcell hA hC ht
     rcases q0 : shapeT n t with _ | _
     ·have HX := Lib.hid (show z = false by rw [hE2.out]; exact allR_bad _ k _ hlt (by rw [HKi.out, q0]))
      go_wp2_with (go_at_call 152; refine (ih t _ _ _ (HC.out.now bel) (HT0.out.below bel)).mono ?_; rintro e w9 ⟨rfl, hb9⟩)
      go_ret
      exact ⟨ret_bool HX.out.symm, bel⟩
     ·have Hn := Lib.hid (show allR (k + 1) (kidAt (shapeT n) dkd) = true by rw [allR_succ, Hall.out, HKi.out, q0]; rfl)
      go_wp2_with (go_at_call 152; refine (ih t _ _ _ (HC.out.now bel) (HT0.out.below bel)).mono ?_; rintro e w9 ⟨rfl, hb9⟩)
      go_roundw
      case rel => ((repeat apply Exists.intro); exact ⟨⟨k + 1, by omega, by go_num, Hn.out, bel⟩, rfl⟩)
      case measure => simp [intOf]; omega
    ·obtain rfl : k = dkd.length := by omega
     have HX := Lib.hid (show z = true by rw [hE2.out]; exact Hall.out)
     clear hA
     go_wp2_with fail
     go_ret
     exact ⟨ret_bool HX.out.symm, bel⟩
theorem all_nodI : ∀ n, T_nodI n
 | 0 => fun _ _ _ _ h _ => (C_Tree.none h).elim
 | n + 1 => of_nodI n (all_nodI n)
def T_nodS (n : Nat) : Prop := ∀ (d : TreeD) (cs : List Value) (w : World) (lo : Nat), C_Tree n lo w.heap.size w d cs ->
  Calls Tryz.prog 59 #[.agg cs.toArray] w fun e w' => e = .returned (.bool (shapeT n d)) /\ Below w.heap.size w w'
theorem of_nodS (n : Nat) (ih : T_nodS n) : T_nodS (n + 1) := by
 intro d cs w lo h
 obtain ⟨v4, v5, rfl, a0, a2, a3, a4, a5⟩ := C_Tree.out h
 obtain ⟨A4, c4, rfl, hlk, hck, hK⟩ := a4
 obtain ⟨A5, c5, rfl, hlc, hcc, hA⟩ := a5
 have Hf := Lib.hid (shapeT_succ n d)
 clear h
 obtain ⟨dk, df, dn, dt, dks, dkd⟩ := d
 simp only at a0 a2 a3 hlk hK hlc hA ⊢
 obtain ⟨z, hz⟩ : ∃ z, z = shapeT (n + 1) ⟨dk, df, dn, dt, dks, dkd⟩ := ⟨_, rfl⟩
 rw [<- hz] at Hf ⊢
 simp only at Hf
 clear hz
 obtain ⟨W0, hW0⟩ : ∃ W, W = w.alloc (.cells #[.int .i64 dk, .bool df, .int .i64 dn, .string dt, .slice A4 dks.length c4, .slice A5 dkd.length c5] 34) := ⟨_, rfl⟩
 have hB0 : Below w.heap.size w W0 := by rw [hW0]; exact bel
 have HR0 := Lib.hid (show W0.heap[w.heap.size]? = some (.cells #[.int .i64 dk, .bool df, .int .i64 dn, .string dt, .slice A4 dks.length c4, .slice A5 dkd.length c5] 34 (0, 0)) by rw [hW0]; exact heap_at rfl)
 have HW0 := Lib.hid hW0
 clear hW0
 go_enter Tryz.func59, Tryz.ntmps59
 go_upto_region 1 with fail
 obtain ⟨x0, x1, x2, x3, x4, x5, xf⟩ := row6 HR0.out
 have l0 := row_lt HR0.out
 go_cut [65] from 5 to 65 (fun s65 wx => s65 = .bool (!(!badH ⟨dk, df, dn, dt, dks, dkd⟩ && strB dt)) /\ Below W0.heap.size W0 wx)
 case first =>
  rw [<- HW0.out]
  clear Hf hK hA HW0
  have hbb : Below W0.heap.size W0 W0 := Below.refl _ _
  go_wp2_with (first | (go_at_call 115; refine (c_spec_l01In _ _ _ _).mono ?_; rintro e w1 ⟨rfl, rfl⟩) | (go_at_call 116; refine (c_spec_l08Text _ _).mono ?_; rintro e w9 ⟨rfl, hb9⟩))
  all_goals
   (try simp only [Bool.not_eq_true] at *)
   (try subst_vars)
   go_meet
   refine ⟨?_, by first | exact hb9 | exact Below.refl _ _⟩
   congr 1
  all_goals (unfold badH; simp_all; done)
 case rest =>
 obtain ⟨rfl, hb1⟩ := hcut
 have HR1 := Lib.hid ((hb1.block _ l0).trans HR0.out)
 have hB1 := hB0.trans (hb1.mono hB0.size)
 obtain ⟨q1, hq1⟩ : ∃ q, q = (!badH ⟨dk, df, dn, dt, dks, dkd⟩ && strB dt) := ⟨_, rfl⟩
 have hE0 := Lib.hid (show z = ((!badH ⟨dk, df, dn, dt, dks, dkd⟩ && strB dt) && lensOk ⟨dk, df, dn, dt, dks, dkd⟩ && allR dks.length (keyOk dks) && allR dkd.length (kidAt (shapeT n) dkd)) from Hf.out)
 rw [<- hq1] at hE0 ⊢
 clear hq1 Hf HR0 HW0 hB0 hb1 x0 x1 x2 x3 x4 x5 xf l0
 rcases q1 with _ | _
 ·have HX := Lib.hid (show z = false by rw [hE0.out]; rfl)
  go_wp2_with fail
  go_ret
  exact ⟨ret_bool HX.out.symm, bel⟩
 obtain ⟨x0, x1, x2, x3, x4, x5, xf⟩ := row6 HR1.out
 have l0 := row_lt HR1.out
 have hE1 := Lib.hid (show z = (lensOk ⟨dk, df, dn, dt, dks, dkd⟩ && allR dks.length (keyOk dks) && allR dkd.length (kidAt (shapeT n) dkd)) by rw [hE0.out]; rfl)
 clear hE0
 go_upto_region 3 with fail
 go_cut [77] from 66 to 77 (fun s77 wx => s77 = .bool (!lensOk ⟨dk, df, dn, dt, dks, dkd⟩) /\ wx = wc)
 case first =>
  clear hE1 hK hA
  by_cases hk6 : dk = 6
  ·by_cases hln : dks.length = dkd.length
   ·have d1 : (dk == 6) = true := by simp [hk6]
    have d2 : ((dks.length : Int) != dkd.length) = false := by simp [hln]
    have HV := Lib.hid (show lensOk ⟨dk, df, dn, dt, dks, dkd⟩ = true by unfold lensOk; simp [hk6, hln])
    clear hk6 hln
    go_wp2_with fail
    go_meet
    exact ⟨by rw [HV.out]; rfl, rfl⟩
   ·have d1 : (dk == 6) = true := by simp [hk6]
    have d2 : ((dks.length : Int) != dkd.length) = true := bne_iff_ne.2 (by omega)
    have HV := Lib.hid (show lensOk ⟨dk, df, dn, dt, dks, dkd⟩ = false by unfold lensOk; simp [hk6, hln])
    clear hk6 hln
    go_wp2_with fail
    go_meet
    exact ⟨by rw [HV.out]; rfl, rfl⟩
  ·have d1 : (dk == 6) = false := beq_eq_false_iff_ne.2 hk6
   have HV := Lib.hid (show lensOk ⟨dk, df, dn, dt, dks, dkd⟩ = true by unfold lensOk; simp [hk6])
   clear hk6
   go_wp2_with fail
   go_meet
   exact ⟨by rw [HV.out]; rfl, rfl⟩
 case rest =>
 obtain ⟨rfl, hwc⟩ := hcut
 subst hwc
 obtain ⟨q2, hq2⟩ : ∃ q, q = lensOk ⟨dk, df, dn, dt, dks, dkd⟩ := ⟨_, rfl⟩
 rw [<- hq2] at hE1 ⊢
 clear hq2
 rcases q2 with _ | _
 ·have HX := Lib.hid (show z = false by rw [hE1.out]; rfl)
  go_wp2_with fail
  go_ret
  exact ⟨ret_bool HX.out.symm, bel⟩
 have hE := Lib.hid (show z = (allR dks.length (keyOk dks) && allR dkd.length (kidAt (shapeT n) dkd)) by rw [hE1.out]; rfl)
 clear hE1
 go_wp2_with fail
 go_loopw [3] (fun v wr => ∃ k : Nat, k <= dks.length /\ v = .int .i64 k /\ allR k (keyOk dks) = true /\ wr.heap[w.heap.size]? = some (.cells #[.int .i64 dk, .bool df, .int .i64 dn, .string dt, .slice A4 dks.length c4, .slice A5 dkd.length c5] 34 (0, 0)) /\ Below w.heap.size w wr) (fun v _ => dks.length - (intOf v).toNat)
 case atStart => exact ⟨0, Nat.zero_le _, rfl, rfl, HR1.out, hB1⟩
 case round =>
  clear x0 x1 x2 x3 x4 x5 xf l0 HR1 hB1
  obtain ⟨k, hk, rfl, hall, hT, hbr⟩ := hrel
  have HT := Lib.hid hT
  have Hall := Lib.hid hall
  clear hT hall
  obtain ⟨x0, x1, x2, x3, x4, x5, xf⟩ := row6 HT.out
  have l0 := row_lt HT.out
  by_cases hlt : k < dks.length
  ·obtain ⟨p, o, rfl, -, hbl, hcell⟩ := hK (by omega)
   obtain ⟨s, hs⟩ := exists_at hlt
   obtain ⟨es, -, hcs, rfl, hss⟩ := hcell k s hs
   have hc0 := (hbr.cell (p := ⟨p, o + k * 1 + 0, none⟩) hbl).trans (hcs 0 (by omega))
   simp at hc0
   have hbr1 := Nat.lt_of_lt_of_le hbl hbr.size
   have hk0 : (0 : Int) <= k := by omega
   have hk1 : (k : Int) < dks.length := by omega
   have HS := Lib.hid hs
   have HCl := Lib.hid hcell
   clear hcs hcell hs hK hA
   go_upto_region 8 with fail
   go_cut [109] from 85 to 109 (fun s wx => s = .bool (!keyOk dks k) /\ Below wr.heap.size wr wx)
   case first =>
    rcases hst : strB s with _ | _
    ·have HV := Lib.hid (keyOk_none HS.out hst)
     refine wp_region_det 25 (by kernel_rfl) (by kernel_rfl) (by decide) ?_
     iterate 25 ((try simp only [Bool.not_true]); apply Exists.intro; refine And.intro ?_ ?_; (focus (intro W hW; (try simp only [Act.put, List.setIfInBounds_toArray, List.set_cons_zero, List.set_cons_succ]); first | (exact wpList_skip rfl ⟨rfl, rfl, Below.refl _ _⟩) | (obtain ⟨hcW, hfW⟩ := bcell hW; have hsW := hW.size; (try simp at hsW); (try have hsW0 := lt_of_succ_le hsW); (try (have hsW1 := lt_pred hsW; (try (have hsW2 := lt_pred hsW1)))); go_wp2_with (first | (go_at_call 116; refine (c_spec_l08Text _ _).mono ?_; rintro e w9 ⟨rfl, hb9⟩)); exact ⟨rfl, rfl, bel⟩))))
     intro wq hbwq
     (try simp only [Act.put, List.setIfInBounds_toArray, List.set_cons_zero, List.set_cons_succ])
     (try simp only [List.drop_succ_cons, List.drop_nil])
     have hb := hbwq
     go_wp2_with fail
     go_meet
     exact ⟨by rw [HV.out]; rfl, hb⟩
    ·by_cases hk00 : k = 0
     ·have HV := Lib.hid (show keyOk dks k = true by rw [<- hst]; have h := HS.out; subst hk00; exact keyOk_zero h)
      have d0 : decide (0 < k) = false := decide_eq_false (by omega)
      have dI : decide ((0 : Int) < k) = false := decide_eq_false (by omega)
      clear hk00
      refine wp_region_det 25 (by kernel_rfl) (by kernel_rfl) (by decide) ?_
      iterate 25 ((try simp only [Bool.not_true]); apply Exists.intro; refine And.intro ?_ ?_; (focus (intro W hW; (try simp only [Act.put, List.setIfInBounds_toArray, List.set_cons_zero, List.set_cons_succ]); first | (exact wpList_skip rfl ⟨rfl, rfl, Below.refl _ _⟩) | (obtain ⟨hcW, hfW⟩ := bcell hW; have hsW := hW.size; (try simp at hsW); (try have hsW0 := lt_of_succ_le hsW); (try (have hsW1 := lt_pred hsW; (try (have hsW2 := lt_pred hsW1)))); go_wp2_with (first | (go_at_call 116; refine (c_spec_l08Text _ _).mono ?_; rintro e w9 ⟨rfl, hb9⟩)); exact ⟨rfl, rfl, bel⟩))))
      intro wq hbwq
      (try simp only [Act.put, List.setIfInBounds_toArray, List.set_cons_zero, List.set_cons_succ])
      (try simp only [List.drop_succ_cons, List.drop_nil])
      have hb := hbwq
      go_wp2_with fail
      go_meet
      exact ⟨by rw [HV.out]; rfl, hb⟩
     ·obtain ⟨j, hj⟩ : ∃ j, k = j + 1 := ⟨k - 1, by omega⟩
      obtain ⟨r, hr⟩ := exists_at (show j < dks.length by omega)
      obtain ⟨es, -, hcs, rfl, hrs⟩ := HCl.out j r hr
      have hd0 := (hbr.cell (p := ⟨p, o + j * 1 + 0, none⟩) hbl).trans (hcs 0 (by omega))
      simp at hd0
      have d0 : decide (0 < k) = true := decide_eq_true (by omega)
      have dI : decide ((0 : Int) < k) = true := decide_eq_true (by omega)
      have HV := Lib.hid (show keyOk dks k = lessS r s by have h := HS.out; subst hj; rw [keyOk_succ h hr, hst, Bool.true_and])
      have hji : (k : Int) - 1 = (j : Int) := by omega
      have hj1 : (0 : Int) <= j := by omega
      have hj2 : (j : Int) < dks.length := by omega
      clear hcs hr hk hlt hj hk00
      rcases hls : lessS r s with _ | _
      ·have g1 : Op.bytesLess r.toList s.toList = false := hls
       have HV2 := Lib.hid (HV.out.trans hls)
       clear hls HV
       refine wp_region_det 25 (by kernel_rfl) (by kernel_rfl) (by decide) ?_
       iterate 25 ((try simp only [Bool.not_true]); apply Exists.intro; refine And.intro ?_ ?_; (focus (intro W hW; (try simp only [Act.put, List.setIfInBounds_toArray, List.set_cons_zero, List.set_cons_succ]); first | (exact wpList_skip rfl ⟨rfl, rfl, Below.refl _ _⟩) | (obtain ⟨hcW, hfW⟩ := bcell hW; have hsW := hW.size; (try simp at hsW); (try have hsW0 := lt_of_succ_le hsW); (try (have hsW1 := lt_pred hsW; (try (have hsW2 := lt_pred hsW1)))); go_wp2_with (first | (go_at_call 116; refine (c_spec_l08Text _ _).mono ?_; rintro e w9 ⟨rfl, hb9⟩)); exact ⟨rfl, rfl, bel⟩))))
       intro wq hbwq
       (try simp only [Act.put, List.setIfInBounds_toArray, List.set_cons_zero, List.set_cons_succ])
       (try simp only [List.drop_succ_cons, List.drop_nil])
       have hb := hbwq
       go_wp2_with fail
       go_meet
       exact ⟨by rw [HV2.out]; simp_all, hb⟩
      ·have g1 : Op.bytesLess r.toList s.toList = true := hls
       have HV2 := Lib.hid (HV.out.trans hls)
       clear hls HV
       refine wp_region_det 25 (by kernel_rfl) (by kernel_rfl) (by decide) ?_
       iterate 25 ((try simp only [Bool.not_true]); apply Exists.intro; refine And.intro ?_ ?_; (focus (intro W hW; (try simp only [Act.put, List.setIfInBounds_toArray, List.set_cons_zero, List.set_cons_succ]); first | (exact wpList_skip rfl ⟨rfl, rfl, Below.refl _ _⟩) | (obtain ⟨hcW, hfW⟩ := bcell hW; have hsW := hW.size; (try simp at hsW); (try have hsW0 := lt_of_succ_le hsW); (try (have hsW1 := lt_pred hsW; (try (have hsW2 := lt_pred hsW1)))); go_wp2_with (first | (go_at_call 116; refine (c_spec_l08Text _ _).mono ?_; rintro e w9 ⟨rfl, hb9⟩)); exact ⟨rfl, rfl, bel⟩))))
       intro wq hbwq
       (try simp only [Act.put, List.setIfInBounds_toArray, List.set_cons_zero, List.set_cons_succ])
       (try simp only [List.drop_succ_cons, List.drop_nil])
       have hb := hbwq
       go_wp2_with fail
       go_meet
       exact ⟨by rw [HV2.out]; simp_all, hb⟩
   case rest =>
    obtain ⟨rfl, hb9⟩ := hcut
    have HT9 := Lib.hid ((hb9.block _ l0).trans HT.out)
    have hbr9 := hbr.trans (hb9.mono hbr.size)
    obtain ⟨q3, hq3⟩ : ∃ q, q = keyOk dks k := ⟨_, rfl⟩
    rw [<- hq3]
    rcases q3 with _ | _
    ·have HX := Lib.hid (show z = false by rw [hE.out, allR_bad _ k _ hlt hq3.symm]; rfl)
     clear hE hq3
     go_wp2_with fail
     go_ret
     exact ⟨ret_bool HX.out.symm, bel⟩
    ·have Hn := Lib.hid (show allR (k + 1) (keyOk dks) = true by rw [allR_succ, Hall.out, <- hq3]; rfl)
     clear hq3 hbr hb9 hc0 x0 x1 x2 x3 x4 x5 xf
     go_wp2_with fail
     go_roundw
     case rel => exact ⟨k + 1, by omega, by go_num, Hn.out, HT9.out, hbr9⟩
     case measure => simp [intOf]; omega
  ·obtain rfl : k = dks.length := by omega
   have hE2 := Lib.hid (show z = allR dkd.length (kidAt (shapeT n) dkd) by rw [hE.out, Hall.out]; rfl)
   have hke : decide (dks.length < dks.length) = false := decide_eq_false (Nat.lt_irrefl _)
   clear hK hE Hall
   go_wp2_with fail
   go_loopw [4] (fun v wr => ∃ k : Nat, k <= dkd.length /\ v = .int .i64 k /\ allR k (kidAt (shapeT n) dkd) = true /\ wr.heap[w.heap.size]? = some (.cells #[.int .i64 dk, .bool df, .int .i64 dn, .string dt, .slice A4 dks.length c4, .slice A5 dkd.length c5] 34 (0, 0)) /\ Below w.heap.size w wr) (fun v _ => dkd.length - (intOf v).toNat)
   case atStart => exact ⟨0, Nat.zero_le _, rfl, rfl, HT.out, hbr⟩
   case round =>
    have hb0 := hbr
    clear hbr hb0 HT x0 x1 x2 x3 x4 x5 xf l0
    obtain ⟨k, hk, rfl, hall, hT, hbr⟩ := hrel
    have HT := Lib.hid hT
    have Hall := Lib.hid hall
    clear hall hT
    obtain ⟨x0, x1, x2, x3, x4, x5, xf⟩ := row6 HT.out
    have l0 := row_lt HT.out
    by_cases hlt : k < dkd.length
    ·obtain ⟨p, o, rfl, -, hbl, hcell⟩ := hA (by omega)
     obtain ⟨t, ht⟩ := exists_at hlt
     obtain ⟨es, -, hcs, hC⟩ := hcell k t ht
     obtain ⟨eA4, ec4, eA5, ec5, rfl, ea0, ea2, ea3⟩ := hC.flat
     have hc0 := (hbr.cell (p := ⟨p, o + k * 6 + 0, none⟩) (by simp; omega)).trans (hcs 0 (by omega))
     simp at hc0
     have hc1 := (hbr.cell (p := ⟨p, o + k * 6 + 1, none⟩) (by simp; omega)).trans (hcs 1 (by omega))
     simp at hc1
     have hc2 := (hbr.cell (p := ⟨p, o + k * 6 + 2, none⟩) (by simp; omega)).trans (hcs 2 (by omega))
     simp at hc2
     have hc3 := (hbr.cell (p := ⟨p, o + k * 6 + 3, none⟩) (by simp; omega)).trans (hcs 3 (by omega))
     simp at hc3
     have hc4 := (hbr.cell (p := ⟨p, o + k * 6 + 4, none⟩) (by simp; omega)).trans (hcs 4 (by omega))
     simp at hc4
     have hc5 := (hbr.cell (p := ⟨p, o + k * 6 + 5, none⟩) (by simp; omega)).trans (hcs 5 (by omega))
     simp at hc5
     have hbr1 := Nat.lt_of_lt_of_le hbl hbr.size
     have hk0 : (0 : Int) <= k := by omega
     have hk1 : (k : Int) < dkd.length := by omega
     have HC := Lib.hid hC
     have HKi := Lib.hid (kidAt_eq (f := shapeT n) ht)
     clear hcs hcell hA hC ht
     rcases q0 : shapeT n t with _ | _
     ·have HX := Lib.hid (show z = false by rw [hE2.out]; exact allR_bad _ k _ hlt (by rw [HKi.out, q0]))
      go_wp2_with (go_at_call 59; refine (ih t _ _ _ (HC.out.now bel)).mono ?_; rintro e w9 ⟨rfl, hb9⟩)
      go_ret
      exact ⟨ret_bool HX.out.symm, bel⟩
     ·have Hn := Lib.hid (show allR (k + 1) (kidAt (shapeT n) dkd) = true by rw [allR_succ, Hall.out, HKi.out, q0]; rfl)
      go_wp2_with (go_at_call 59; refine (ih t _ _ _ (HC.out.now bel)).mono ?_; rintro e w9 ⟨rfl, hb9⟩)
      have HT9 := Lib.hid ((hb9.block _ l0).trans HT.out)
      go_roundw
      case rel => ((repeat apply Exists.intro); exact ⟨⟨k + 1, by omega, by go_num, Hn.out, HT9.out, bel⟩, rfl⟩)
      case measure => simp [intOf]; omega
    ·obtain rfl : k = dkd.length := by omega
     have HX := Lib.hid (show z = true by rw [hE2.out]; exact Hall.out)
     clear hA
     go_wp2_with fail
     go_ret
     exact ⟨ret_bool HX.out.symm, bel⟩
theorem all_nodS : ∀ n, T_nodS n
 | 0 => fun _ _ _ _ h => (C_Tree.none h).elim
 | n + 1 => of_nodS n (all_nodS n)
def okT (n : Nat) (d : TreeD) : Bool := decide (depthT n d <= 8) && decide (sizeT n d <= 300) && shapeT n d
theorem okT_def (n : Nat) (d : TreeD) : okT n d = (decide (depthT n d <= 8) && decide (sizeT n d <= 300) && shapeT n d) := rfl
theorem c_impl_TreeOk (n : Nat) (d : TreeD) (cs : List Value) (w : World) (lo : Nat) (h : C_Tree n lo w.heap.size w d cs) (hz : sizeT n d <= 1073741824) (hT : Tabs w) :
  Calls Tryz.prog 81 #[.agg cs.toArray] w fun e w' => e = .returned (.bool (okT n d)) /\ Below w.heap.size w w' := by
 have Hf := Lib.hid (okT_def n d)
 have HD := Lib.hid (fun (w' : World) (hb : Below w.heap.size w w') => all_DepthI n d cs w' lo (h.now hb) hz)
 have HS := Lib.hid (fun (w' : World) (hb : Below w.heap.size w w') => all_SizeI n d cs w' lo (h.now hb) hz)
 have HN := Lib.hid (fun (w' : World) (hb : Below w.heap.size w w') => all_nodI n d cs w' lo (h.now hb) (hT.below hb))
 have hds := depth_size n d
 obtain ⟨A4, c4, A5, c5, rfl⟩ := C_Tree.open h
 obtain ⟨x, hx⟩ : ∃ x, x = depthT n d := ⟨_, rfl⟩
 obtain ⟨y, hy⟩ : ∃ y, y = sizeT n d := ⟨_, rfl⟩
 obtain ⟨z, hzz⟩ : ∃ z, z = shapeT n d := ⟨_, rfl⟩
 rw [<- hx, <- hy, <- hzz] at Hf
 rw [<- hx] at HD hds
 rw [<- hy] at HS hz hds
 rw [<- hzz] at HN
 clear h hx hy hzz hT
 by_cases h8 : x <= 8
 ·have d8 : decide ((x : Int) <= 8) = true := decide_eq_true (by omega)
  by_cases h3 : y <= 300
  ·have d3 : decide ((y : Int) <= 300) = true := decide_eq_true (by omega)
   have HX := Lib.hid (show okT n d = z by rw [Hf.out, decide_eq_true h8, decide_eq_true h3]; rfl)
   clear h8 h3
   go_enter Tryz.func81, Tryz.ntmps81
   go_wp2_with (first | (go_at_call 150; refine (HD.out _ bel).mono ?_; rintro e w1 ⟨rfl, hb⟩; (first | (have hcu2 := Cum.join hcu hb; (try clear hcu); (try clear hc); (try clear hfz); (try clear hsz); (try clear hs0); (try clear hs1); (try clear hs2); (try clear hs3); (try clear hs4); ) | have hcu2 := Cum.mk hb); have hcu := hcu2; clear hcu2; obtain ⟨hc, hfz⟩ := bcell hcu.h; have hsz := hcu.h.size; (try simp at hsz); (try have hs0 := lt_of_succ_le hsz); (try (have hs1 := lt_pred hsz; (try (have hs2 := lt_pred hs1; (try (have hs3 := lt_pred hs2; (try have hs4 := lt_pred hs3)))))))) | (go_at_call 151; refine (HS.out _ bel).mono ?_; rintro e w1 ⟨rfl, hb⟩; (first | (have hcu2 := Cum.join hcu hb; (try clear hcu); (try clear hc); (try clear hfz); (try clear hsz); (try clear hs0); (try clear hs1); (try clear hs2); (try clear hs3); (try clear hs4); ) | have hcu2 := Cum.mk hb); have hcu := hcu2; clear hcu2; obtain ⟨hc, hfz⟩ := bcell hcu.h; have hsz := hcu.h.size; (try simp at hsz); (try have hs0 := lt_of_succ_le hsz); (try (have hs1 := lt_pred hsz; (try (have hs2 := lt_pred hs1; (try (have hs3 := lt_pred hs2; (try have hs4 := lt_pred hs3)))))))) | (go_at_call 152; refine (HN.out _ bel).mono ?_; rintro e w1 ⟨rfl, hb⟩; (first | (have hcu2 := Cum.join hcu hb; (try clear hcu); (try clear hc); (try clear hfz); (try clear hsz); (try clear hs0); (try clear hs1); (try clear hs2); (try clear hs3); (try clear hs4); ) | have hcu2 := Cum.mk hb); have hcu := hcu2; clear hcu2; obtain ⟨hc, hfz⟩ := bcell hcu.h; have hsz := hcu.h.size; (try simp at hsz); (try have hs0 := lt_of_succ_le hsz); (try (have hs1 := lt_pred hsz; (try (have hs2 := lt_pred hs1; (try (have hs3 := lt_pred hs2; (try have hs4 := lt_pred hs3)))))))))
   go_ret
   exact ⟨ret_bool HX.out.symm, bel⟩
  ·have d3 : decide ((y : Int) <= 300) = false := decide_eq_false (by omega)
   have HX := Lib.hid (show okT n d = false by rw [Hf.out, decide_eq_true h8, decide_eq_false h3]; rfl)
   clear h8 h3
   go_enter Tryz.func81, Tryz.ntmps81
   go_wp2_with (first | (go_at_call 150; refine (HD.out _ bel).mono ?_; rintro e w1 ⟨rfl, hb⟩; (first | (have hcu2 := Cum.join hcu hb; (try clear hcu); (try clear hc); (try clear hfz); (try clear hsz); (try clear hs0); (try clear hs1); (try clear hs2); (try clear hs3); (try clear hs4); ) | have hcu2 := Cum.mk hb); have hcu := hcu2; clear hcu2; obtain ⟨hc, hfz⟩ := bcell hcu.h; have hsz := hcu.h.size; (try simp at hsz); (try have hs0 := lt_of_succ_le hsz); (try (have hs1 := lt_pred hsz; (try (have hs2 := lt_pred hs1; (try (have hs3 := lt_pred hs2; (try have hs4 := lt_pred hs3)))))))) | (go_at_call 151; refine (HS.out _ bel).mono ?_; rintro e w1 ⟨rfl, hb⟩; (first | (have hcu2 := Cum.join hcu hb; (try clear hcu); (try clear hc); (try clear hfz); (try clear hsz); (try clear hs0); (try clear hs1); (try clear hs2); (try clear hs3); (try clear hs4); ) | have hcu2 := Cum.mk hb); have hcu := hcu2; clear hcu2; obtain ⟨hc, hfz⟩ := bcell hcu.h; have hsz := hcu.h.size; (try simp at hsz); (try have hs0 := lt_of_succ_le hsz); (try (have hs1 := lt_pred hsz; (try (have hs2 := lt_pred hs1; (try (have hs3 := lt_pred hs2; (try have hs4 := lt_pred hs3)))))))))
   go_ret
   exact ⟨ret_bool HX.out.symm, bel⟩
 ·have d8 : decide ((x : Int) <= 8) = false := decide_eq_false (by omega)
  have HX := Lib.hid (show okT n d = false by rw [Hf.out, decide_eq_false h8]; rfl)
  clear h8
  go_enter Tryz.func81, Tryz.ntmps81
  go_wp2_with (go_at_call 150; refine (HD.out _ bel).mono ?_; rintro e w1 ⟨rfl, hb⟩; (first | (have hcu2 := Cum.join hcu hb; (try clear hcu); (try clear hc); (try clear hfz); (try clear hsz); (try clear hs0); (try clear hs1); (try clear hs2); (try clear hs3); (try clear hs4); ) | have hcu2 := Cum.mk hb); have hcu := hcu2; clear hcu2; obtain ⟨hc, hfz⟩ := bcell hcu.h; have hsz := hcu.h.size; (try simp at hsz); (try have hs0 := lt_of_succ_le hsz); (try (have hs1 := lt_pred hsz; (try (have hs2 := lt_pred hs1; (try (have hs3 := lt_pred hs2; (try have hs4 := lt_pred hs3))))))))
  go_ret
  exact ⟨ret_bool HX.out.symm, bel⟩
theorem c_spec_TreeOk (n : Nat) (d : TreeD) (cs : List Value) (w : World) (lo : Nat) (h : C_Tree n lo w.heap.size w d cs) (hz : sizeT n d <= 1073741824) :
  Calls Tryz.prog 22 #[.agg cs.toArray] w fun e w' => e = .returned (.bool (okT n d)) /\ Below w.heap.size w w' := by
 have Hf := Lib.hid (okT_def n d)
 have HD := Lib.hid (fun (w' : World) (hb : Below w.heap.size w w') => all_DepthS n d cs w' lo (h.now hb) hz)
 have HS := Lib.hid (fun (w' : World) (hb : Below w.heap.size w w') => all_SizeS n d cs w' lo (h.now hb) hz)
 have HN := Lib.hid (fun (w' : World) (hb : Below w.heap.size w w') => all_nodS n d cs w' lo (h.now hb))
 have hds := depth_size n d
 obtain ⟨A4, c4, A5, c5, rfl⟩ := C_Tree.open h
 obtain ⟨x, hx⟩ : ∃ x, x = depthT n d := ⟨_, rfl⟩
 obtain ⟨y, hy⟩ : ∃ y, y = sizeT n d := ⟨_, rfl⟩
 obtain ⟨z, hzz⟩ : ∃ z, z = shapeT n d := ⟨_, rfl⟩
 rw [<- hx, <- hy, <- hzz] at Hf
 rw [<- hx] at HD hds
 rw [<- hy] at HS hz hds
 rw [<- hzz] at HN
 clear h hx hy hzz
 by_cases h8 : x <= 8
 ·have d8 : decide ((x : Int) <= 8) = true := decide_eq_true (by omega)
  by_cases h3 : y <= 300
  ·have d3 : decide ((y : Int) <= 300) = true := decide_eq_true (by omega)
   have HX := Lib.hid (show okT n d = z by rw [Hf.out, decide_eq_true h8, decide_eq_true h3]; rfl)
   clear h8 h3
   go_enter Tryz.func22, Tryz.ntmps22
   go_wp2_with (first | (go_at_call 57; refine (HD.out _ bel).mono ?_; rintro e w1 ⟨rfl, hb⟩; (first | (have hcu2 := Cum.join hcu hb; (try clear hcu); (try clear hc); (try clear hfz); (try clear hsz); (try clear hs0); (try clear hs1); (try clear hs2); (try clear hs3); (try clear hs4); ) | have hcu2 := Cum.mk hb); have hcu := hcu2; clear hcu2; obtain ⟨hc, hfz⟩ := bcell hcu.h; have hsz := hcu.h.size; (try simp at hsz); (try have hs0 := lt_of_succ_le hsz); (try (have hs1 := lt_pred hsz; (try (have hs2 := lt_pred hs1; (try (have hs3 := lt_pred hs2; (try have hs4 := lt_pred hs3)))))))) | (go_at_call 58; refine (HS.out _ bel).mono ?_; rintro e w1 ⟨rfl, hb⟩; (first | (have hcu2 := Cum.join hcu hb; (try clear hcu); (try clear hc); (try clear hfz); (try clear hsz); (try clear hs0); (try clear hs1); (try clear hs2); (try clear hs3); (try clear hs4); ) | have hcu2 := Cum.mk hb); have hcu := hcu2; clear hcu2; obtain ⟨hc, hfz⟩ := bcell hcu.h; have hsz := hcu.h.size; (try simp at hsz); (try have hs0 := lt_of_succ_le hsz); (try (have hs1 := lt_pred hsz; (try (have hs2 := lt_pred hs1; (try (have hs3 := lt_pred hs2; (try have hs4 := lt_pred hs3)))))))) | (go_at_call 59; refine (HN.out _ bel).mono ?_; rintro e w1 ⟨rfl, hb⟩; (first | (have hcu2 := Cum.join hcu hb; (try clear hcu); (try clear hc); (try clear hfz); (try clear hsz); (try clear hs0); (try clear hs1); (try clear hs2); (try clear hs3); (try clear hs4); ) | have hcu2 := Cum.mk hb); have hcu := hcu2; clear hcu2; obtain ⟨hc, hfz⟩ := bcell hcu.h; have hsz := hcu.h.size; (try simp at hsz); (try have hs0 := lt_of_succ_le hsz); (try (have hs1 := lt_pred hsz; (try (have hs2 := lt_pred hs1; (try (have hs3 := lt_pred hs2; (try have hs4 := lt_pred hs3)))))))))
   go_ret
   exact ⟨ret_bool HX.out.symm, bel⟩
  ·have d3 : decide ((y : Int) <= 300) = false := decide_eq_false (by omega)
   have HX := Lib.hid (show okT n d = false by rw [Hf.out, decide_eq_true h8, decide_eq_false h3]; rfl)
   clear h8 h3
   go_enter Tryz.func22, Tryz.ntmps22
   go_wp2_with (first | (go_at_call 57; refine (HD.out _ bel).mono ?_; rintro e w1 ⟨rfl, hb⟩; (first | (have hcu2 := Cum.join hcu hb; (try clear hcu); (try clear hc); (try clear hfz); (try clear hsz); (try clear hs0); (try clear hs1); (try clear hs2); (try clear hs3); (try clear hs4); ) | have hcu2 := Cum.mk hb); have hcu := hcu2; clear hcu2; obtain ⟨hc, hfz⟩ := bcell hcu.h; have hsz := hcu.h.size; (try simp at hsz); (try have hs0 := lt_of_succ_le hsz); (try (have hs1 := lt_pred hsz; (try (have hs2 := lt_pred hs1; (try (have hs3 := lt_pred hs2; (try have hs4 := lt_pred hs3)))))))) | (go_at_call 58; refine (HS.out _ bel).mono ?_; rintro e w1 ⟨rfl, hb⟩; (first | (have hcu2 := Cum.join hcu hb; (try clear hcu); (try clear hc); (try clear hfz); (try clear hsz); (try clear hs0); (try clear hs1); (try clear hs2); (try clear hs3); (try clear hs4); ) | have hcu2 := Cum.mk hb); have hcu := hcu2; clear hcu2; obtain ⟨hc, hfz⟩ := bcell hcu.h; have hsz := hcu.h.size; (try simp at hsz); (try have hs0 := lt_of_succ_le hsz); (try (have hs1 := lt_pred hsz; (try (have hs2 := lt_pred hs1; (try (have hs3 := lt_pred hs2; (try have hs4 := lt_pred hs3)))))))))
   go_ret
   exact ⟨ret_bool HX.out.symm, bel⟩
 ·have d8 : decide ((x : Int) <= 8) = false := decide_eq_false (by omega)
  have HX := Lib.hid (show okT n d = false by rw [Hf.out, decide_eq_false h8]; rfl)
  clear h8
  go_enter Tryz.func22, Tryz.ntmps22
  go_wp2_with (go_at_call 57; refine (HD.out _ bel).mono ?_; rintro e w1 ⟨rfl, hb⟩; (first | (have hcu2 := Cum.join hcu hb; (try clear hcu); (try clear hc); (try clear hfz); (try clear hsz); (try clear hs0); (try clear hs1); (try clear hs2); (try clear hs3); (try clear hs4); ) | have hcu2 := Cum.mk hb); have hcu := hcu2; clear hcu2; obtain ⟨hc, hfz⟩ := bcell hcu.h; have hsz := hcu.h.size; (try simp at hsz); (try have hs0 := lt_of_succ_le hsz); (try (have hs1 := lt_pred hsz; (try (have hs2 := lt_pred hs1; (try (have hs3 := lt_pred hs2; (try have hs4 := lt_pred hs3))))))))
  go_ret
  exact ⟨ret_bool HX.out.symm, bel⟩
open Go.RowKit Go.Lib
def litN : List UInt8 := [110, 117, 108, 108]
def litT : List UInt8 := [116, 114, 117, 101]
def litF : List UInt8 := [102, 97, 108, 115, 101]
def itemsT (pre : Nat -> List UInt8) (f : TreeD -> List UInt8) (l : List TreeD) : Nat -> List UInt8
 | 0 => []
 | k + 1 => itemsT pre f l k ++ (match l[k]? with | none => [] | some t => (if k = 0 then [] else [44]) ++ pre k ++ f t)
def preM (ks : List ByteArray) (i : Nat) : List UInt8 := match ks[i]? with | none => [] | some k => (quoteB k).data.toList ++ [58]
def sayL : Nat -> TreeD -> List UInt8
 | 0, _ => []
 | n + 1, d => if d.kind = 1 then litN else if d.kind = 2 then (if d.flag then litT else litF) else if d.kind = 3 then (decS d.num).data.toList else if d.kind = 4 then (quoteB d.text).data.toList
  else if d.kind = 5 then [91] ++ itemsT (fun _ => []) (sayL n) d.kids d.kids.length ++ [93] else [123] ++ itemsT (preM d.keys) (sayL n) d.kids d.kids.length ++ [125]
theorem sayL_succ (n : Nat) (d : TreeD) : sayL (n + 1) d = if d.kind = 1 then litN else if d.kind = 2 then (if d.flag then litT else litF) else if d.kind = 3 then (decS d.num).data.toList else if d.kind = 4 then (quoteB d.text).data.toList
  else if d.kind = 5 then [91] ++ itemsT (fun _ => []) (sayL n) d.kids d.kids.length ++ [93] else [123] ++ itemsT (preM d.keys) (sayL n) d.kids d.kids.length ++ [125] := rfl
theorem items_next {pre : Nat -> List UInt8} {f : TreeD -> List UInt8} {l : List TreeD} {k : Nat} {t : TreeD} (h : l[k]? = some t) : itemsT pre f l (k + 1) = itemsT pre f l k ++ ((if k = 0 then [] else [44]) ++ pre k ++ f t) := by
 rw [itemsT, h]
theorem quote_len (s : ByteArray) : (quoteB s).data.toList.length <= 6 * s.size + 2 := by
 unfold quoteB
 split
 ·have h : ∀ l : List UInt8, (l.flatMap qB).length <= 6 * l.length := by
   intro l
   induction l with
   | nil => simp
   | cons c l ih =>
    have := qN_len c.toNat
    rw [List.flatMap_cons, List.length_append, List.length_cons]
    have h2 : (qB c).length <= 6 := this
    omega
  have h1 := h s.data.toList
  have e : s.data.toList.length = s.size := Array.length_toList
  show (34 :: s.data.toList.flatMap qB ++ [34]).length <= _
  rw [List.length_append, List.length_cons]
  simp only [List.length_cons, List.length_nil]
  omega
 ·show (0 : Nat) <= _
  omega
theorem shape_parts {n : Nat} {d : TreeD} (h : shapeT (n + 1) d = true) : badH d = false /\ strB d.text = true /\ lensOk d = true /\ (∀ i, i < d.keys.length -> keyOk d.keys i = true) /\ ∀ i, i < d.kids.length -> kidAt (shapeT n) d.kids i = true := by
 rw [shapeT_succ] at h
 simp only [Bool.and_eq_true, Bool.not_eq_true'] at h
 obtain ⟨⟨⟨⟨h1, h2⟩, h3⟩, h4⟩, h5⟩ := h
 have hall : ∀ {m : Nat} {p : Nat -> Bool}, allR m p = true -> ∀ i, i < m -> p i = true := fun {m p} ha i hi => by
  unfold allR at ha
  exact List.all_eq_true.1 ha i (List.mem_range.2 hi)
 exact ⟨h1, h2, h3, hall h4, hall h5⟩
theorem shape_kid {n k : Nat} {d t : TreeD} (h : shapeT (n + 1) d = true) (ht : d.kids[k]? = some t) : shapeT n t = true := by
 have := (shape_parts h).2.2.2.2 k (List.getElem?_eq_some_iff.1 ht).1
 rw [kidAt_eq ht] at this
 exact this
theorem shape_key {n k : Nat} {d : TreeD} {s : ByteArray} (h : shapeT (n + 1) d = true) (hs : d.keys[k]? = some s) : s.size <= 400 := by
 have := (shape_parts h).2.2.2.1 k (List.getElem?_eq_some_iff.1 hs).1
 unfold keyOk at this
 rw [hs] at this
 simp only [Bool.and_eq_true] at this
 have h2 := this.1
 unfold strB at h2
 simp only [Bool.and_eq_true, decide_eq_true_eq] at h2
 exact h2.1
theorem pre_len {n : Nat} {d : TreeD} (h : shapeT (n + 1) d = true) (i : Nat) : (preM d.keys i).length <= 2403 := by
 unfold preM
 rcases hs : d.keys[i]? with _ | s
 ·exact Nat.zero_le _
 ·have h1 := quote_len s
  have h2 := shape_key h hs
  simp only [List.length_append, List.length_cons, List.length_nil]
  omega
theorem items_len {pre : Nat -> List UInt8} {f : TreeD -> List UInt8} {g : TreeD -> Nat} {l : List TreeD} (hp : ∀ i, (pre i).length <= 2403) (hf : ∀ t ∈ l, (f t).length + 2404 <= 5000 * g t) : ∀ k, k <= l.length -> (itemsT pre f l k).length <= 5000 * szL g (l.take k)
 | 0, _ => Nat.zero_le _
 | k + 1, hk => by
  obtain ⟨t, ht⟩ := exists_at (show k < l.length by omega)
  have h1 := items_len hp hf k (by omega)
  have h2 := hf t (List.mem_of_getElem? ht)
  have h3 := hp k
  rw [items_next ht, szL_take_succ g l k t ht]
  have h4 : (if k = 0 then ([] : List UInt8) else [44]).length <= 1 := by split <;> simp
  simp only [List.length_append]
  omega
def numT : Nat -> TreeD -> Prop
 | 0, _ => True
 | n + 1, d => I64 d.num /\ ∀ t ∈ d.kids, numT n t
theorem num_of : ∀ {n lo hi : Nat} {w : World} {d : TreeD} {cs : List Value}, C_Tree n lo hi w d cs -> numT n d
 | 0, _, _, _, _, _, h => h.none.elim
 | n + 1, lo, hi, w, d, cs, h => by
  obtain ⟨v4, v5, -, -, a2, -, -, A, c, -, -, -, hA⟩ := h.out
  refine ⟨a2, fun t ht => ?_⟩
  obtain ⟨i, hi⟩ := List.getElem?_of_mem ht
  obtain ⟨b, o, -, -, -, hc⟩ := hA (Nat.lt_of_le_of_lt (Nat.zero_le i) (List.getElem?_eq_some_iff.1 hi).1)
  obtain ⟨es, -, -, he⟩ := hc i t hi
  exact num_of he
theorem say_len : ∀ (n : Nat) (d : TreeD), shapeT n d = true -> numT n d -> (sayL n d).length + 2404 <= 5000 * sizeT n d
 | 0, _, h, _ => by cases h
 | n + 1, d, h, hn => by
  have hz : 1 <= sizeT (n + 1) d := by rw [sizeT_succ]; omega
  have hkids : ∀ t ∈ d.kids, (sayL n t).length + 2404 <= 5000 * sizeT n t := fun t ht => by
   obtain ⟨i, hi⟩ := List.getElem?_of_mem ht
   exact say_len n t (shape_kid h hi) (hn.2 t ht)
  have hsz : sizeT (n + 1) d = 1 + szL (sizeT n) d.kids := rfl
  have htk : d.kids.take d.kids.length = d.kids := List.take_of_length_le (Nat.le_refl _)
  rw [sayL_succ]
  by_cases c1 : d.kind = 1
  ·rw [if_pos c1]
   have : litN.length = 4 := rfl
   omega
  rw [if_neg c1]
  by_cases c2 : d.kind = 2
  ·rw [if_pos c2]
   have h1 : litT.length = 4 := rfl
   have h2 : litF.length = 5 := rfl
   split <;> omega
  rw [if_neg c2]
  by_cases c3 : d.kind = 3
  ·rw [if_pos c3]
   have h20 := decS_size d.num hn.1
   have he : (decS d.num).data.toList.length = (decS d.num).size := Array.length_toList
   omega
  rw [if_neg c3]
  by_cases c4 : d.kind = 4
  ·rw [if_pos c4]
   have h1 := quote_len d.text
   have h2 := (shape_parts h).2.1
   unfold strB at h2
   simp only [Bool.and_eq_true, decide_eq_true_eq] at h2
   omega
  rw [if_neg c4]
  by_cases c5 : d.kind = 5
  ·rw [if_pos c5]
   have h1 := items_len (pre := fun _ => []) (f := sayL n) (g := sizeT n) (l := d.kids) (fun _ => Nat.zero_le _) hkids d.kids.length (Nat.le_refl _)
   rw [htk] at h1
   simp only [List.length_append, List.length_cons, List.length_nil]
   omega
  ·rw [if_neg c5]
   have h1 := items_len (pre := preM d.keys) (f := sayL n) (g := sizeT n) (l := d.kids) (pre_len h) hkids d.kids.length (Nat.le_refl _)
   rw [htk] at h1
   simp only [List.length_append, List.length_cons, List.length_nil]
   omega
def cutA : List UInt8 -> List UInt8 -> List (List UInt8)
 | acc, [] => [acc]
 | acc, c :: r => if c = 10 then acc :: cutA [] r else cutA (acc ++ [c]) r
def scanB : Bool -> Bool -> List UInt8 -> Nat
 | _, _, [] => 0
 | _, true, [_] => 1
 | _, true, c :: d :: r => if c = 92 then 2 + scanB false true r else 1 + scanB false (c != 34) (d :: r)
 | first, false, c :: r => if first && c == 34 then 1 + scanB false true r else if first && c == 35 then 0 else 1 + scanB (c == 32) false r
def bareL (l : List UInt8) : List UInt8 := trimRightB (l.take (scanB true false l)) 32
def indL (l : List UInt8) : Nat := l.length - (trimLeftB l 32).length
structure LineD where
 ind : Nat
 text : ByteArray
 at' : Nat
def bs (l : List UInt8) : ByteArray := ⟨l.toArray⟩
def lineO (i : Nat) (l : List UInt8) : List LineD := if bareL l = [] then [] else [⟨indL (bareL l), bs (trimLeftB (bareL l) 32), i⟩]
def lowB (l : List UInt8) : Bool := l.any fun c => decide (c.toNat < 32)
def linesK (P : List (List UInt8)) : Nat -> List LineD
 | 0 => []
 | k + 1 => linesK P k ++ (match P[k]? with | some l => lineO (k + 1) l | none => [])
def linesF (s : ByteArray) : List LineD × Flt :=
 if (textF s).code ≠ 0 then ([], textF s) else match (cutA [] s.data.toList).findIdx? lowB with
  | some k => ([], ⟨3, ((k + 1 : Nat) : Int), ⟨#[]⟩⟩)
  | none => (linesK (cutA [] s.data.toList) (cutA [] s.data.toList).length, flt0)
def endsB (s : ByteArray) (i : Nat) : Bool := decide (i < s.size) && decide (byteI s i = 58) && (decide (i + 1 = s.size) || decide (byteI s (i + 1) = 32))
def firstBad : List UInt8 := [45, 63, 58, 44, 91, 93, 123, 125, 38, 42, 33, 124, 62, 39, 37, 64, 96]
def plainC (s : ByteArray) (i : Nat) : Bool := !(decide (byteI s i < 32) || decide (byteI s i = 34) || decide (byteI s i = 35) || decide (byteI s i = 92) || endsB s i)
def figsB (s : ByteArray) : Bool := s.data.toList.all fun c => decide (48 <= c.toNat) && decide (c.toNat <= 57)
def plainB (s : ByteArray) : Bool :=
 decide (1 <= s.size) && decide (s.size <= 400) && utf8B s && !(firstBad.any fun c => decide (byteI s 0 = (c.toNat : Int))) && !(decide (byteI s 0 = 32)) && !(decide (byteI s (s.size - 1) = 32)) && allR s.size (plainC s) && !figsB s
  && !(decide (s = bs [110, 117, 108, 108])) && !(decide (s = bs [126])) && !(decide (s = bs [116, 114, 117, 101])) && !(decide (s = bs [102, 97, 108, 115, 101]))
def findE (s : ByteArray) : Nat -> Nat -> Option Nat
 | 0, _ => none
 | f + 1, i => if i < s.size then (if endsB s i then some i else findE s f (i + 1)) else none
def tailL (s : ByteArray) (i : Nat) : ByteArray := bs (trimLeftB (s.data.toList.drop i) 32)
def keyB (s : ByteArray) : Option (ByteArray × ByteArray) :=
 if 0 < s.size /\ byteI s 0 = 34 then (if 0 <= (quotB s 0).2 /\ endsB s (quotB s 0).2.toNat = true then some ((quotB s 0).1, tailL s ((quotB s 0).2.toNat + 1)) else none)
 else match findE s s.size 0 with
  | none => none
  | some i => if plainB (bs (s.data.toList.take i)) then some (bs (s.data.toList.take i), tailL s (i + 1)) else none
def itemB (s : ByteArray) : Option (ByteArray × Nat) :=
 if s = bs [45] then some (bs [], 0) else if 2 <= s.size /\ byteI s 0 = 45 /\ byteI s 1 = 32 then some (tailL s 2, s.size - (tailL s 2).size) else none
def scalB (s : ByteArray) : Option TreeD :=
 if s = bs [91, 93] then some (tList []) else if s = bs [123, 125] then some (tMap [] []) else if s = bs [110, 117, 108, 108] ∨ s = bs [126] then some tNull
 else if s = bs [116, 114, 117, 101] then some (tFlag true) else if s = bs [102, 97, 108, 115, 101] then some (tFlag false)
 else if 0 < s.size /\ byteI s 0 = 34 then (if (quotB s 0).2 = s.size /\ (quotB s 0).1.size <= 400 then some (tText (quotB s 0).1) else none)
 else if (wholeB s 0).2 = s.size /\ 0 < (wholeB s 0).2 then some (tInt (wholeB s 0).1)
 else if plainB s then some (tText s) else none
def treeE : TreeD := ⟨0, false, 0, ⟨#[]⟩, [], []⟩
inductive JobI where
 | value (deep : Nat)
 | below (ind deep at' : Nat)
 | list (ind deep : Nat) (acc : List TreeD)
 | pairs (ind deep : Nat) (ks : List ByteArray) (acc : List TreeD)
inductive ResI where
 | bad (f : Flt)
 | good (t : TreeD) (L : List LineD) (m : Nat)
def fltA (code : Int) (at' : Nat) : Flt := ⟨code, at', ⟨#[]⟩⟩
def beginF (d m at' : Nat) : Option Flt := if 8 < d then some (fltA 6 at') else if 300 <= m then some (fltA 7 at') else none
def readK : Nat -> JobI -> List LineD -> Nat -> ResI
 | 0, _, _, _ => .bad flt0
 | n + 1, .value d, L, m => match L with
  | [] => .bad flt0
  | x :: r => match beginF d m x.at' with
   | some f => .bad f
   | none =>
    if (itemB x.text).isSome then readK n (.list x.ind d []) (x :: r) (m + 1)
    else if (keyB x.text).isSome then readK n (.pairs x.ind d [] []) (x :: r) (m + 1)
    else match scalB x.text with
     | some t => .good t r (m + 1)
     | none => .bad (fltA 4 x.at')
 | n + 1, .below i d a, L, m =>
  if (match L with | [] => false | x :: _ => decide (i < x.ind)) then readK n (.value d) L m
  else match beginF d m a with
   | some f => .bad f
   | none => .good tNull L (m + 1)
 | n + 1, .list i d acc, L, m => match L with
  | [] => .good (tList acc) [] m
  | x :: r => if x.ind ≠ i then .good (tList acc) (x :: r) m else match itemB x.text with
   | none => .good (tList acc) (x :: r) m
   | some (rest, k) => match (if k = 0 then readK n (.below i (d + 1) x.at') r m else readK n (.value (d + 1)) (⟨i + k, rest, x.at'⟩ :: r) m) with
    | .bad f => .bad f
    | .good t L' m' => readK n (.list i d (acc ++ [t])) L' m'
 | n + 1, .pairs i d ks acc, L, m => match L with
  | [] => .good (tMap ks acc) [] m
  | x :: r => if x.ind ≠ i ∨ (itemB x.text).isSome then .good (tMap ks acc) (x :: r) m else match keyB x.text with
   | none => .good (tMap ks acc) (x :: r) m
   | some (key, rest) =>
    if 400 < key.size then .bad (fltA 8 x.at')
    else if ks.contains key then .bad (fltA 5 x.at')
    else match (if rest.size = 0 then readK n (.below i (d + 1) x.at') r m else match beginF (d + 1) m x.at' with
      | some f => .bad f
      | none => match scalB rest with
       | none => .bad (fltA 4 x.at')
       | some t => .good t r (m + 1)) with
     | .bad f => .bad f
     | .good t L' m' => readK n (.pairs i d (insL ks (posK ks key) key) (insL acc (posK ks key) t)) L' m'
def costL (L : List LineD) : Nat := szL (fun x => x.text.size + 3) L
def readIn (s : ByteArray) : Flt × TreeD :=
 if (linesF s).2.code ≠ 0 then ((linesF s).2, treeE) else match (linesF s).1 with
  | [] => (fltA 4 (cutA [] s.data.toList).length, treeE)
  | x :: r => if x.ind ≠ 0 then (fltA 4 x.at', treeE) else match readK (3 * costL (x :: r) + 3) (.value 1) (x :: r) 0 with
   | .bad f => (f, treeE)
   | .good t [] _ => (flt0, t)
   | .good _ (y :: _) _ => (fltA 4 y.at', treeE)
def keyText (s : ByteArray) : ByteArray := if plainB s then s else quoteB s
def scalText (d : TreeD) : ByteArray := if d.kind = 4 then keyText d.text else if d.kind = 5 then bs [91, 93] else if d.kind = 6 then bs [123, 125] else if d.kind = 1 then bs litN else if d.kind = 2 then (if d.flag then bs litT else bs litF) else decS d.num
def blank2 (L : List (List UInt8)) : List (List UInt8) := L.map fun x => [32, 32] ++ x
def kidLines (f : TreeD -> List (List UInt8)) (d : TreeD) (i : Nat) : List (List UInt8) := match d.kids[i]? with
 | none => []
 | some t => if d.kind = 6 then (match d.keys[i]? with
   | none => []
   | some k => if t.kids = [] then [(keyText k).data.toList ++ [58, 32] ++ (f t).headD []] else ((keyText k).data.toList ++ [58]) :: blank2 (f t))
  else (match f t with | [] => [] | x :: r => ([45, 32] ++ x) :: blank2 r)
def manyL (g : Nat -> List (List UInt8)) : Nat -> List (List UInt8)
 | 0 => []
 | k + 1 => manyL g k ++ g k
def linesT : Nat -> TreeD -> List (List UInt8)
 | 0, _ => []
 | n + 1, d => if d.kids = [] then [(scalText d).data.toList] else manyL (kidLines (linesT n) d) d.kids.length
def textL (L : List (List UInt8)) : List UInt8 := L.flatMap fun x => x ++ [10]
def indB (n : Nat) (d : TreeD) : ByteArray := if okT n d = true then (if 20000 < (textL (linesT n d)).length then ⟨#[]⟩ else bs (textL (linesT n d))) else ⟨#[]⟩
open Go.Shelf
def laysTrimL_ren : Go.Shelf.Ren := ⟨fun | 161 => 175 | 231 => 230 | 227 => 227 | 233 => 231 | 235 => 232 | 228 => 258 | 197 => 224 | 151 => 260 | 260 => 257 | 152 => 279 | 137 => 130 | 119 => 292 | 224 => 234 | 225 => 233 | 217 => 208 | 266 => 249 | n => n, fun | 9 => 9 | 4 => 4 | 3 => 3 | 5 => 5 | 117 => 186 | 116 => 185 | 0 => 0 | 124 => 189 | 105 => 180 | 21 => 21 | 119 => 219 | 46 => 179 | 139 => 222 | 138 => 221 | n => n, fun | 3 => 1 | 4 => 2 | n => n⟩
theorem laysTrimL : Go.Proofs.Lays.n161 Tryz.prog laysTrimL_ren := {
 mixed := by kernel_rfl
 f119 := Tryz.func292.trans (congrArg some (by kernel_rfl))
 f137 := Tryz.func130.trans (congrArg some (by kernel_rfl))
 f151 := Tryz.func260.trans (congrArg some (by kernel_rfl))
 f152 := Tryz.func279.trans (congrArg some (by kernel_rfl))
 f161 := Tryz.func175.trans (congrArg some (by kernel_rfl))
 f197 := Tryz.func224.trans (congrArg some (by kernel_rfl))
 f217 := Tryz.func208.trans (congrArg some (by kernel_rfl))
 f224 := Tryz.func234.trans (congrArg some (by kernel_rfl))
 f225 := Tryz.func233.trans (congrArg some (by kernel_rfl))
 f227 := Tryz.func227.trans (congrArg some (by kernel_rfl))
 f228 := Tryz.func258.trans (congrArg some (by kernel_rfl))
 f231 := Tryz.func230.trans (congrArg some (by kernel_rfl))
 f233 := Tryz.func231.trans (congrArg some (by kernel_rfl))
 f235 := Tryz.func232.trans (congrArg some (by kernel_rfl))
 f260 := Tryz.func257.trans (congrArg some (by kernel_rfl))
 f266 := Tryz.func249.trans (congrArg some (by kernel_rfl))
 t0 := Tryz.underlying0
 a0 := Tryz.isAgg0
 z0 := Tryz.sizeOf0
 v0 := Tryz.zeroValue0
 t3 := Tryz.underlying3
 a3 := Tryz.isAgg3
 z3 := Tryz.sizeOf3
 v3 := Tryz.zeroValue3
 t4 := Tryz.underlying4
 a4 := Tryz.isAgg4
 z4 := Tryz.sizeOf4
 v4 := Tryz.zeroValue4
 t5 := Tryz.underlying5
 a5 := Tryz.isAgg5
 z5 := Tryz.sizeOf5
 v5 := Tryz.zeroValue5
 t9 := Tryz.underlying9
 a9 := Tryz.isAgg9
 z9 := Tryz.sizeOf9
 v9 := Tryz.zeroValue9
 t21 := Tryz.underlying21
 a21 := Tryz.isAgg21
 z21 := Tryz.sizeOf21
 v21 := Tryz.zeroValue21
 t46 := Tryz.underlying179
 a46 := Tryz.isAgg179
 z46 := Tryz.sizeOf179
 v46 := Tryz.zeroValue179
 t105 := Tryz.underlying180
 a105 := Tryz.isAgg180
 z105 := Tryz.sizeOf180
 v105 := Tryz.zeroValue180
 t116 := Tryz.underlying185
 a116 := Tryz.isAgg185
 z116 := Tryz.sizeOf185
 t117 := Tryz.underlying186
 a117 := Tryz.isAgg186
 z117 := Tryz.sizeOf186
 v117 := Tryz.zeroValue186
 t119 := Tryz.underlying219
 a119 := Tryz.isAgg219
 z119 := Tryz.sizeOf219
 t124 := Tryz.underlying189
 a124 := Tryz.isAgg189
 z124 := Tryz.sizeOf189
 v124 := Tryz.zeroValue189
 t138 := Tryz.underlying221
 a138 := Tryz.isAgg221
 z138 := Tryz.sizeOf221
 v138 := Tryz.zeroValue221
 t139 := Tryz.underlying222
 a139 := Tryz.isAgg222
 z139 := Tryz.sizeOf222
 v139 := Tryz.zeroValue222
 g3 := by kernel_rfl
 g4 := by kernel_rfl }
def laysTrimR_ren : Go.Shelf.Ren := ⟨fun | 162 => 174 | 232 => 226 | 227 => 227 | 234 => 228 | 236 => 229 | 228 => 258 | 271 => 259 | 151 => 260 | 120 => 278 | 197 => 224 | 152 => 279 | 260 => 257 | 137 => 130 | 119 => 292 | 224 => 234 | 225 => 233 | 217 => 208 | 266 => 249 | n => n, fun | 9 => 9 | 4 => 4 | 3 => 3 | 5 => 5 | 117 => 186 | 116 => 185 | 0 => 0 | 124 => 189 | 21 => 21 | 105 => 180 | 46 => 179 | 119 => 219 | 139 => 222 | 138 => 221 | n => n, fun | 3 => 1 | 4 => 2 | n => n⟩
theorem laysTrimR : Go.Proofs.Lays.n162 Tryz.prog laysTrimR_ren := {
 mixed := by kernel_rfl
 f119 := Tryz.func292.trans (congrArg some (by kernel_rfl))
 f120 := Tryz.func278.trans (congrArg some (by kernel_rfl))
 f137 := Tryz.func130.trans (congrArg some (by kernel_rfl))
 f151 := Tryz.func260.trans (congrArg some (by kernel_rfl))
 f152 := Tryz.func279.trans (congrArg some (by kernel_rfl))
 f162 := Tryz.func174.trans (congrArg some (by kernel_rfl))
 f197 := Tryz.func224.trans (congrArg some (by kernel_rfl))
 f217 := Tryz.func208.trans (congrArg some (by kernel_rfl))
 f224 := Tryz.func234.trans (congrArg some (by kernel_rfl))
 f225 := Tryz.func233.trans (congrArg some (by kernel_rfl))
 f227 := Tryz.func227.trans (congrArg some (by kernel_rfl))
 f228 := Tryz.func258.trans (congrArg some (by kernel_rfl))
 f232 := Tryz.func226.trans (congrArg some (by kernel_rfl))
 f234 := Tryz.func228.trans (congrArg some (by kernel_rfl))
 f236 := Tryz.func229.trans (congrArg some (by kernel_rfl))
 f260 := Tryz.func257.trans (congrArg some (by kernel_rfl))
 f266 := Tryz.func249.trans (congrArg some (by kernel_rfl))
 f271 := Tryz.func259.trans (congrArg some (by kernel_rfl))
 t0 := Tryz.underlying0
 a0 := Tryz.isAgg0
 z0 := Tryz.sizeOf0
 v0 := Tryz.zeroValue0
 t3 := Tryz.underlying3
 a3 := Tryz.isAgg3
 z3 := Tryz.sizeOf3
 v3 := Tryz.zeroValue3
 t4 := Tryz.underlying4
 a4 := Tryz.isAgg4
 z4 := Tryz.sizeOf4
 v4 := Tryz.zeroValue4
 t5 := Tryz.underlying5
 a5 := Tryz.isAgg5
 z5 := Tryz.sizeOf5
 v5 := Tryz.zeroValue5
 t9 := Tryz.underlying9
 a9 := Tryz.isAgg9
 z9 := Tryz.sizeOf9
 v9 := Tryz.zeroValue9
 t21 := Tryz.underlying21
 a21 := Tryz.isAgg21
 z21 := Tryz.sizeOf21
 v21 := Tryz.zeroValue21
 t46 := Tryz.underlying179
 a46 := Tryz.isAgg179
 z46 := Tryz.sizeOf179
 v46 := Tryz.zeroValue179
 t105 := Tryz.underlying180
 a105 := Tryz.isAgg180
 z105 := Tryz.sizeOf180
 v105 := Tryz.zeroValue180
 t116 := Tryz.underlying185
 a116 := Tryz.isAgg185
 z116 := Tryz.sizeOf185
 t117 := Tryz.underlying186
 a117 := Tryz.isAgg186
 z117 := Tryz.sizeOf186
 v117 := Tryz.zeroValue186
 t119 := Tryz.underlying219
 a119 := Tryz.isAgg219
 z119 := Tryz.sizeOf219
 t124 := Tryz.underlying189
 a124 := Tryz.isAgg189
 z124 := Tryz.sizeOf189
 v124 := Tryz.zeroValue189
 t138 := Tryz.underlying221
 a138 := Tryz.isAgg221
 z138 := Tryz.sizeOf221
 v138 := Tryz.zeroValue221
 t139 := Tryz.underlying222
 a139 := Tryz.isAgg222
 z139 := Tryz.sizeOf222
 v139 := Tryz.zeroValue222
 g3 := by kernel_rfl
 g4 := by kernel_rfl }
end Go.Proofs.YtohcpifekcehjaaGreatDoor
