/- Steps to FnBracedNormal. No conditions. -/
import Derived.Test.YtohcpifekcehjaaGreatDoorKSm5
import Derived.Test.YtohcpifekcehjaaGreatDoorKSm1
import Derived.Test.YtohcpifekcehjaaGreatDoorKSm4
import Derived.Test.YtohcpifekcehjaaGreatDoorKSm2
import Derived.Deep.AppendLies
import Derived.OwnWalk
set_option maxHeartbeats 16000000
set_option maxRecDepth 20000
namespace Go.Proofs.YtohcpifekcehjaaGreatDoor
open Go.RowKit Go.Lib
def rdC (A : Option Addr) (n c : Nat) (p : Nat) (E : Int) (m : Nat) (f : Flt) : Array Value := #[.slice A n c, .int .i64 p, .int .i64 E, .int .i64 m, .int .i64 f.code, .int .i64 f.at', .string f.path]
def RdAt (L : List SignD) (E : Int) (b : Nat) (p m : Nat) (f : Flt) (w : World) : Prop :=
 ∃ (A : Option Addr) (c : Nat), w.heap[b]? = some (.cells (rdC A L.length c p E m f) 84 (0, 0)) /\ SignsE 0 w L (.slice A L.length c) /\ ∀ g, (Value.slice A L.length c).ownBlock = some g -> g < b
theorem RdAt.lt {L : List SignD} {E : Int} {b p m : Nat} {f : Flt} {w : World} (h : RdAt L E b p m f w) : b < w.heap.size := by
 obtain ⟨A, c, h1, -, -⟩ := h
 exact row_lt h1
theorem RdAt.below {L : List SignD} {E : Int} {b p m : Nat} {f : Flt} {w w' : World} (h : RdAt L E b p m f w) (hb : Below w.heap.size w w') : RdAt L E b p m f w' := by
 obtain ⟨A, c, h1, h2, h3⟩ := h
 exact ⟨A, c, (hb.block b (row_lt h1)).trans h1, h2.below hb, h3⟩
theorem row7r {w : World} {b : Nat} {a0 a1 a2 a3 a4 a5 a6 : Value} {e : TypeId} (hr : w.heap[b]? = some (.cells #[a0, a1, a2, a3, a4, a5, a6] e (0, 0))) :
  w.cell? ⟨b, 0, none⟩ = some a0 /\ w.cell? ⟨b, 1, none⟩ = some a1 /\ w.cell? ⟨b, 2, none⟩ = some a2 /\ w.cell? ⟨b, 3, none⟩ = some a3 /\ w.cell? ⟨b, 4, none⟩ = some a4 /\ w.cell? ⟨b, 5, none⟩ = some a5 /\ w.cell? ⟨b, 6, none⟩ = some a6 /\ ∀ o, w.frozen? ⟨b, o, none⟩ = false :=
 ⟨by rw [cell_of_row _ _ _ _ _ _ hr]; rfl, by rw [cell_of_row _ _ _ _ _ _ hr]; rfl, by rw [cell_of_row _ _ _ _ _ _ hr]; rfl, by rw [cell_of_row _ _ _ _ _ _ hr]; rfl, by rw [cell_of_row _ _ _ _ _ _ hr]; rfl, by rw [cell_of_row _ _ _ _ _ _ hr]; rfl, by rw [cell_of_row _ _ _ _ _ _ hr]; rfl, fun o => frozen_row hr o⟩
theorem sign_row {w : World} {L : List SignD} {A : Option Addr} {c p : Nat} (h : SignsE 0 w L (.slice A L.length c)) (hp : p < L.length) :
  ∃ (g : Nat) (x : SignD), A = some ⟨g, 0, none⟩ /\ L[p]? = some x /\ L.length <= c /\ g < w.heap.size /\ w.cell? ⟨g, p * 4, none⟩ = some (.int .i64 x.kind) /\ w.cell? ⟨g, p * 4 + 1, none⟩ = some (.string x.text) /\ w.cell? ⟨g, p * 4 + 2, none⟩ = some (.int .i64 x.num) /\ w.cell? ⟨g, p * 4 + 3, none⟩ = some (.int .i64 x.at') := by
 obtain ⟨g, cap, cur, hv, -, hg, h1, h2, -, h4⟩ := RowE.row encSg_len h (by omega)
 simp only [Value.slice.injEq] at hv
 obtain ⟨rfl, -, rfl⟩ := hv
 obtain ⟨x, hx⟩ : ∃ x, L[p]? = some x := ⟨L[p], List.getElem?_eq_getElem hp⟩
 exact ⟨g, x, rfl, hx, h1, row_lt hg, by rw [cell_of_row _ g _ cur _ _ hg]; exact h4 p x hx 0 (by decide), by rw [cell_of_row _ g _ cur _ _ hg]; exact h4 p x hx 1 (by decide), by rw [cell_of_row _ g _ cur _ _ hg]; exact h4 p x hx 2 (by decide), by rw [cell_of_row _ g _ cur _ _ hg]; exact h4 p x hx 3 (by decide)⟩
theorem c_rd_kind (L : List SignD) (E : Int) (b p m : Nat) (f : Flt) (w : World) (hp : p <= 1048577) (h : RdAt L E b p m f w) :
  Calls Tryz.prog 132 #[.pointer (some ⟨b, 0, none⟩)] w fun e w' => e = .returned (.int .i64 (kindAt L p)) /\ Below w.heap.size w w' := by
 obtain ⟨A, c, hbox, hrow, hne⟩ := h
 have HB := hid hbox
 unfold rdC at hbox
 obtain ⟨a0, a1, a2, a3, a4, a5, a6, af⟩ := row7r hbox
 have l0 := row_lt hbox
 clear hbox
 by_cases hlt : (p : Int) < L.length
 ·have hz0 : (0 : Int) <= p := by omega
  have HRow := hid hrow
  clear hrow hne
  go_enter Tryz.func132, Tryz.ntmps132
  go_wp2_with fail
  refine wp_region_det 10 (by kernel_rfl) (by kernel_rfl) (by decide) ?_
  iterate 3 refine ds ?_
  refine ds ?_
  iterate 3 refine ds ?_
  refine ds ?_
  iterate 2 refine ds ?_
  intro wq hbwq
  (try simp only [Act.put, List.setIfInBounds_toArray, List.set_cons_zero, List.set_cons_succ])
  (try simp only [List.drop_succ_cons, List.drop_nil])
  have hb1 := (hbwq.block b l0).trans HB.out
  clear a0 a1 a2 a3 a4 a5 a6 af
  obtain ⟨a0, a1, a2, a3, a4, a5, a6, af⟩ := row7r (show wq.heap[b]? = some (.cells #[.slice A L.length c, .int .i64 p, .int .i64 E, .int .i64 m, .int .i64 f.code, .int .i64 f.at', .string f.path] 84 (0, 0)) from hb1)
  have l1 := row_lt hb1
  obtain ⟨g, x, rfl, hx, hlc, lg, d0, d1, d2, d3⟩ := sign_row (p := p) (HRow.out.below hbwq) (by omega)
  have HK := hid (show kindAt L p = x.kind by unfold kindAt; rw [hx])
  clear hx hb1
  go_wp2_with fail
  refine wp_region_det 11 (by kernel_rfl) (by kernel_rfl) (by decide) ?_
  iterate 3 refine ds ?_
  refine ds ?_
  iterate 3 refine ds ?_
  refine ds ?_
  iterate 2 refine ds ?_
  refine ds ?_
  intro wr hbwr
  (try simp only [Act.put, List.setIfInBounds_toArray, List.set_cons_zero, List.set_cons_succ])
  (try simp only [List.drop_succ_cons, List.drop_zero])
  go_wp2_with fail
  exact bodyPost_ret (v := .int .i64 x.kind) (by simp only [results, Tryz.results132]; go_simp) rfl ⟨by rw [HK.out], bel⟩
 ·have HK := hid (show kindAt L p = 0 by unfold kindAt; rw [List.getElem?_eq_none (by omega)])
  clear hrow hne
  go_enter Tryz.func132, Tryz.ntmps132
  go_wp2_with fail
  refine wp_region_det 10 (by kernel_rfl) (by kernel_rfl) (by decide) ?_
  iterate 3 refine ds ?_
  refine ds ?_
  iterate 3 refine ds ?_
  refine ds ?_
  iterate 2 refine ds ?_
  intro wq hbwq
  (try simp only [Act.put, List.setIfInBounds_toArray, List.set_cons_zero, List.set_cons_succ])
  (try simp only [List.drop_succ_cons, List.drop_nil])
  go_wp2_with fail
  exact bodyPost_ret (v := .int .i64 0) (by simp only [results, Tryz.results132]; go_simp) rfl ⟨by rw [HK.out], bel⟩
theorem RdAt.poke {L : List SignD} {E : Int} {b p m p' m' : Nat} {f f' : Flt} {w w' : World} (h : RdAt L E b p m f w) (hF : Aside (fun q => q = b) w w') (hset : ∀ A c, w.heap[b]? = some (.cells (rdC A L.length c p E m f) 84 (0, 0)) -> w'.heap[b]? = some (.cells (rdC A L.length c p' E m' f') 84 (0, 0))) : RdAt L E b p' m' f' w' := by
 obtain ⟨A, c, h1, h2, h3⟩ := h
 exact ⟨A, c, hset A c h1, h2.carry (fun q hq => hF.block q (World.ownsRow.lt h2 q hq).2 (fun e => absurd (h3 q hq) (by omega))), h3⟩
theorem RdAt.past {L : List SignD} {E : Int} {b p m : Nat} {f : Flt} {w w' : World} {S : Nat -> Prop} (h : RdAt L E b p m f w) (hF : Aside S w w') (hS : ∀ q, S q -> b < q) : RdAt L E b p m f w' := by
 obtain ⟨A, c, h1, h2, h3⟩ := h
 exact ⟨A, c, (hF.block b (row_lt h1) (fun h => absurd (hS b h) (Nat.lt_irrefl _))).trans h1, h2.carry (fun q hq => hF.block q (World.ownsRow.lt h2 q hq).2 (fun hs => by have := hS q hs; have := h3 q hq; omega)), h3⟩
theorem set7_1 {w : World} {b : Nat} {a0 a1 a2 a3 a4 a5 a6 u : Value} {e : TypeId} (h : w.heap[b]? = some (.cells #[a0, a1, a2, a3, a4, a5, a6] e (0, 0))) : (w.setCell ⟨b, 1, none⟩ u).heap[b]? = some (.cells #[a0, u, a2, a3, a4, a5, a6] e (0, 0)) := heap_setCell_same w b 1 _ _ u h
theorem set7_4 {w : World} {b : Nat} {a0 a1 a2 a3 a4 a5 a6 u : Value} {e : TypeId} (h : w.heap[b]? = some (.cells #[a0, a1, a2, a3, a4, a5, a6] e (0, 0))) : (w.setCell ⟨b, 4, none⟩ u).heap[b]? = some (.cells #[a0, a1, a2, a3, u, a5, a6] e (0, 0)) := heap_setCell_same w b 4 _ _ u h
theorem set7_5 {w : World} {b : Nat} {a0 a1 a2 a3 a4 a5 a6 u : Value} {e : TypeId} (h : w.heap[b]? = some (.cells #[a0, a1, a2, a3, a4, a5, a6] e (0, 0))) : (w.setCell ⟨b, 5, none⟩ u).heap[b]? = some (.cells #[a0, a1, a2, a3, a4, u, a6] e (0, 0)) := heap_setCell_same w b 5 _ _ u h
theorem set7_6 {w : World} {b : Nat} {a0 a1 a2 a3 a4 a5 a6 u : Value} {e : TypeId} (h : w.heap[b]? = some (.cells #[a0, a1, a2, a3, a4, a5, a6] e (0, 0))) : (w.setCell ⟨b, 6, none⟩ u).heap[b]? = some (.cells #[a0, a1, a2, a3, a4, a5, u] e (0, 0)) := heap_setCell_same w b 6 _ _ u h
theorem c_rd_skip_no (L : List SignD) (E k : Int) (b p m : Nat) (f : Flt) (w : World) (hp : p <= 1048577) (h : RdAt L E b p m f w) (hn : f.code ≠ 0 ∨ kindAt L p ≠ k) :
  Calls Tryz.prog 210 #[.pointer (some ⟨b, 0, none⟩), .int .i64 k] w fun e w' => e = .returned (.bool false) /\ Below w.heap.size w w' := by
 have HRd := hid h
 obtain ⟨A, c, hbox, hrow, hne⟩ := h
 unfold rdC at hbox
 obtain ⟨a0, a1, a2, a3, a4, a5, a6, af⟩ := row7r hbox
 have l0 := row_lt hbox
 obtain ⟨z, hz⟩ : ∃ z, z = f.code := ⟨_, rfl⟩
 rw [<- hz] at a4 hn
 clear hbox hrow hne hz
 by_cases hc : z = 0
 ·have hk : kindAt L p ≠ k := hn.resolve_left (fun e => e hc)
  obtain rfl := hc
  obtain ⟨t, ht⟩ : ∃ t, t = kindAt L p := ⟨_, rfl⟩
  rw [<- ht] at hk
  have HT := hid ht
  have d1 : (t != k) = true := bne_iff_ne.2 hk
  have d2 : (t == k) = false := beq_eq_false_iff_ne.2 hk
  clear ht hk hn
  go_enter Tryz.func210, Tryz.ntmps210
  go_wp2_with (go_at_call 132; refine (c_rd_kind L E b p m f _ hp HRd.out).mono ?_; rintro e w1 ⟨rfl, hb1⟩; rw [<- HT.out])
  go_ret
  exact ⟨rfl, bel⟩
 ·have d1 : (z != 0) = true := bne_iff_ne.2 hc
  have d2 : (z == 0) = false := beq_eq_false_iff_ne.2 hc
  clear hc hn
  go_enter Tryz.func210, Tryz.ntmps210
  go_wp2_with fail
  go_ret
  exact ⟨rfl, bel⟩
theorem c_rd_skip_yes (L : List SignD) (E k : Int) (b p m : Nat) (f : Flt) (w : World) (hp : p <= 1048577) (h : RdAt L E b p m f w) (hf : f.code = 0) (hk : kindAt L p = k) :
  Calls Tryz.prog 210 #[.pointer (some ⟨b, 0, none⟩), .int .i64 k] w fun e w' => e = .returned (.bool true) /\ RdAt L E b (p + 1) m f w' /\ Aside (fun q => q = b) w w' := by
 have HRd := hid h
 obtain ⟨A, c, hbox, hrow, hne⟩ := h
 have HBx := hid hbox
 unfold rdC at hbox
 obtain ⟨a0, a1, a2, a3, a4, a5, a6, af⟩ := row7r hbox
 have l0 := row_lt hbox
 rw [hf] at a4
 have HK := hid hk
 clear hbox hrow hne hf hk
 go_enter Tryz.func210, Tryz.ntmps210
 go_wp2_with (go_at_call 132; refine (c_rd_kind L E b p m f _ hp HRd.out).mono ?_; rintro e w1 ⟨rfl, hb1⟩; rw [HK.out]; have hx1 := (hb1.block b l0).trans HBx.out; have HX1 := hid hx1; have HB1 := hid hb1; clear a0 a1 a2 a3 a4 a5 a6 af; obtain ⟨a0, a1, a2, a3, a4, a5, a6, af⟩ := row7r (show w1.heap[b]? = some (.cells #[.slice A L.length c, .int .i64 p, .int .i64 E, .int .i64 m, .int .i64 f.code, .int .i64 f.at', .string f.path] 84 (0, 0)) from hx1); have l1 := row_lt hx1; clear hx1)
 have hF : Aside (fun q => q = b) w1 (w1.setCell ⟨b, 1, none⟩ (.int .i64 ((p : Int) + 1))) := aside_set rfl (Aside.refl _ _)
 have hR := RdAt.poke (p' := p + 1) (m' := m) (f' := f) (HRd.out.below HB1.out) hF (fun A c h => by unfold rdC at h ⊢; exact set7_1 h)
 have HF := hid ((Aside.of_below (S := fun q => q = b) HB1.out).trans hF)
 have HR := hid hR
 clear hF hR
 go_ret
 exact ⟨rfl, HR.out, HF.out⟩
theorem c_rd_fail_old (L : List SignD) (E k : Int) (b p m : Nat) (f : Flt) (w : World) (h : RdAt L E b p m f w) (hf : f.code ≠ 0) :
  Calls Tryz.prog 74 #[.pointer (some ⟨b, 0, none⟩), .int .i64 k] w fun e w' => e = .returned (.tuple #[]) /\ Below w.heap.size w w' := by
 obtain ⟨A, c, hbox, hrow, hne⟩ := h
 unfold rdC at hbox
 obtain ⟨a0, a1, a2, a3, a4, a5, a6, af⟩ := row7r hbox
 have l0 := row_lt hbox
 obtain ⟨z, hz⟩ : ∃ z, z = f.code := ⟨_, rfl⟩
 rw [<- hz] at a4 hf
 have d1 : (z != 0) = true := bne_iff_ne.2 hf
 have d2 : (z == 0) = false := beq_eq_false_iff_ne.2 hf
 clear hbox hrow hne hz hf
 go_enter Tryz.func74, Tryz.ntmps74
 go_wp2_with fail
 exact bodyPost_ret (v := .tuple #[]) (by simp only [results, Tryz.results74]; go_simp) rfl ⟨rfl, bel⟩
theorem c_rd_fail_new (L : List SignD) (E k : Int) (b p m : Nat) (f : Flt) (w : World) (hp : p <= 1048577) (h : RdAt L E b p m f w) (hf : f.code = 0) :
  Calls Tryz.prog 74 #[.pointer (some ⟨b, 0, none⟩), .int .i64 k] w fun e w' => e = .returned (.tuple #[]) /\ RdAt L E b p m (badF L E k p) w' /\ Aside (fun q => q = b) w w' := by
 have HRd := hid h
 obtain ⟨A, c, hbox, hrow, hne⟩ := h
 have HBx := hid hbox
 unfold rdC at hbox
 obtain ⟨a0, a1, a2, a3, a4, a5, a6, af⟩ := row7r hbox
 have HB0 := hid hbox
 have l0 := row_lt hbox
 rw [hf] at a4
 clear hbox hrow hne hf
 obtain ⟨wf, hwf⟩ : ∃ wf, wf = ((w.setCell ⟨b, 4, none⟩ (.int .i64 k)).setCell ⟨b, 5, none⟩ (.int .i64 E)).setCell ⟨b, 6, none⟩ (.string ⟨#[]⟩) := ⟨_, rfl⟩
 have hF : Aside (fun q => q = b) w wf := by rw [hwf]; exact aside_set rfl (aside_set rfl (aside_set rfl (Aside.refl _ _)))
 have hx : wf.heap[b]? = some (.cells #[.slice A L.length c, .int .i64 p, .int .i64 E, .int .i64 m, .int .i64 k, .int .i64 E, .string ⟨#[]⟩] 84 (0, 0)) := by rw [hwf]; exact set7_6 (set7_5 (set7_4 HB0.out))
 have hR : RdAt L E b p m ⟨k, E, ⟨#[]⟩⟩ wf := RdAt.poke HRd.out hF (fun A' c' h' => by rw [hwf]; unfold rdC at h' ⊢; exact set7_6 (set7_5 (set7_4 h')))
 have HF := hid hF
 have HX := hid hx
 have HR := hid hR
 have HW := hid hwf
 clear hF hx hR hwf
 by_cases hlt : (p : Int) < L.length
 ·have hz0 : (0 : Int) <= p := by omega
  go_enter Tryz.func74, Tryz.ntmps74
  go_wp2_with fail
  rw [<- HW.out]
  clear a0 a1 a2 a3 a4 a5 a6 af
  obtain ⟨a0, a1, a2, a3, a4, a5, a6, af⟩ := row7r HX.out
  have l1 := row_lt HX.out
  refine wp_region_det 10 (by kernel_rfl) (by kernel_rfl) (by decide) ?_
  iterate 3 refine ds ?_
  refine ds ?_
  iterate 3 refine ds ?_
  refine ds ?_
  iterate 2 refine ds ?_
  intro wq hbwq
  (try simp only [Act.put, List.setIfInBounds_toArray, List.set_cons_zero, List.set_cons_succ])
  (try simp only [List.drop_succ_cons, List.drop_nil])
  have hb1 := (hbwq.block b l1).trans HX.out
  have HBq := hid hbwq
  clear a0 a1 a2 a3 a4 a5 a6 af
  obtain ⟨a0, a1, a2, a3, a4, a5, a6, af⟩ := row7r hb1
  have l2 := row_lt hb1
  have HRq := hid (HR.out.below hbwq)
  obtain ⟨A2, c2, hq1, hq2, hq3⟩ := HRq.out
  obtain ⟨rfl, rfl⟩ : A2 = A /\ c2 = c := by
   have := hb1.symm.trans hq1
   unfold rdC at this
   simp at this
   exact ⟨this.1.symm, this.2.symm⟩
  obtain ⟨g, x, rfl, hx, hlc, lg, d0, d1, d2, d3⟩ := sign_row (p := p) hq2 (by omega)
  have HP := hid (show badF L E k p = ⟨k, x.at', ⟨#[]⟩⟩ by unfold badF placeAt; rw [hx])
  clear hx hb1 hq1 hq2 hq3
  go_wp2_with fail
  go_region_law (fail)
  all_goals
   (try go_wp2_with fail)
   have hF2 : Aside (fun q => q = b) wq (wq.setCell ⟨b, 5, none⟩ (.int .i64 x.at')) := aside_set rfl (Aside.refl _ _)
   have hR2 := RdAt.poke (p' := p) (m' := m) (f' := ⟨k, x.at', ⟨#[]⟩⟩) HRq.out hF2 (fun A' c' h' => by unfold rdC at h' ⊢; exact set7_5 h')
   have hD : Below (wq.setCell ⟨b, 5, none⟩ (.int .i64 x.at')).heap.size (wq.setCell ⟨b, 5, none⟩ (.int .i64 x.at')) (wq.setCell ⟨b, 5, none⟩ (.int .i64 x.at')).drew := bel
   exact bodyPost_end (v := .tuple #[]) (by simp only [results, Tryz.results74]; go_simp) rfl ⟨rfl, by rw [HP.out]; exact hR2.below hD, HF.out.trans ((Aside.of_below HBq.out).trans (hF2.trans (Aside.of_below hD)))⟩
 ·have HP := hid (show badF L E k p = ⟨k, E, ⟨#[]⟩⟩ by unfold badF placeAt; rw [List.getElem?_eq_none (by omega)])
  go_enter Tryz.func74, Tryz.ntmps74
  go_wp2_with fail
  rw [<- HW.out]
  clear a0 a1 a2 a3 a4 a5 a6 af
  obtain ⟨a0, a1, a2, a3, a4, a5, a6, af⟩ := row7r HX.out
  have l1 := row_lt HX.out
  refine wp_region_det 10 (by kernel_rfl) (by kernel_rfl) (by decide) ?_
  iterate 3 refine ds ?_
  refine ds ?_
  iterate 3 refine ds ?_
  refine ds ?_
  iterate 2 refine ds ?_
  intro wq hbwq
  (try simp only [Act.put, List.setIfInBounds_toArray, List.set_cons_zero, List.set_cons_succ])
  (try simp only [List.drop_succ_cons, List.drop_nil])
  have HRq := hid (HR.out.below hbwq)
  have HBq := hid hbwq
  go_wp2_with fail
  exact bodyPost_end (v := .tuple #[]) (by simp only [results, Tryz.results74]; go_simp) rfl ⟨rfl, by rw [HP.out]; exact HRq.out, HF.out.trans (Aside.of_below HBq.out)⟩
open Go.RowKit
theorem takeAny_succ {D : Type} (p : D -> Bool) (l : List D) (k : Nat) (d : D) (h : l[k]? = some d) : (l.take (k + 1)).any p = ((l.take k).any p || p d) := by
 rw [List.take_add_one, h]; simp
theorem takeAny_no {D : Type} (p : D -> Bool) (l : List D) (k : Nat) (d : D) (h : l[k]? = some d) (ha : (l.take k).any p = false) (hp : p d = false) : (l.take (k + 1)).any p = false := by
 rw [takeAny_succ p l k d h, ha, hp]; rfl
theorem any_hit {D : Type} (p : D -> Bool) (l : List D) (k : Nat) (d : D) (h : l[k]? = some d) (hp : p d = true) : l.any p = true := by
 rw [List.any_eq_true]; exact ⟨d, List.mem_of_getElem? h, hp⟩
theorem any_end {D : Type} (p : D -> Bool) (l : List D) (ha : (l.take l.length).any p = false) : l.any p = false := by rw [List.take_length] at ha; exact ha
def isS (s x : ByteArray) : Bool := x.toList == s.toList
def hasS (l : List ByteArray) (s : ByteArray) : Bool := l.any (isS s)
theorem c_Index_Str (l : List ByteArray) (s : ByteArray) (v : Value) (w : World) (lo : Nat) (hs : Sl_Str lo w.heap.size w l v) :
  Calls Tryz.prog 198 #[v, .string s] w fun e w' => ∃ ix : Int, e = .returned (.int .i64 ix) /\ decide (ix ≥ 0) = hasS l s /\ -1 <= ix /\ ix <= 9223372036854775807 /\ Below w.heap.size w w' := by
 obtain ⟨A, c, rfl, hlc, hc, hA⟩ := hs
 go_enter Tryz.func198, Tryz.ntmps198
 go_wp2_with fail
 go_loopw [8] (fun i wr => ∃ k : Nat, k <= l.length /\ i = .int .i64 k /\ (l.take k).any (isS s) = false /\ Below w.heap.size w wr) (fun i _ => l.length - (intOf i).toNat)
 case atStart => exact ⟨0, Nat.zero_le _, rfl, rfl, bel⟩
 case round =>
  obtain ⟨k, hk, rfl, hall, hbr⟩ := hrel
  have Hall := Lib.hid hall
  clear hall
  by_cases hlt : k < l.length
  ·obtain ⟨b, o, rfl, -, hb2, hcell⟩ := hA (by omega)
   obtain ⟨d, hd⟩ := exists_at hlt
   obtain ⟨es, -, hcs, hC⟩ := hcell k d hd
   obtain ⟨rfl, ea0⟩ := hC
   have hc0 := (hbr.cell (p := ⟨b, o + k * 1 + 0, none⟩) (by simp; omega)).trans (hcs 0 (by omega))
   simp at hc0
   have hbl : b < wr.heap.size := Nat.lt_of_lt_of_le hb2 hbr.size
   have hk0 : (0 : Int) <= k := by omega
   have hk1 : (k : Int) < l.length := by omega
   have hq2 : (s.toList == d.toList) = (d.toList == s.toList) := by rw [Bool.eq_iff_iff, beq_iff_eq, beq_iff_eq]; exact eq_comm
   rcases hq : (d.toList == s.toList) with _ | _
   ·have Hn := Lib.hid (takeAny_no (isS s) l k d hd Hall.out hq)
    rw [hq] at hq2
    clear hcs hcell hA hd
    go_wp2_with fail
    go_roundw
    case rel => exact ⟨k + 1, by omega, by go_num, Hn.out, bel⟩
    case measure => simp [intOf]; omega
   ·have Hh := Lib.hid (show hasS l s = true from any_hit (isS s) l k d hd hq)
    rw [hq] at hq2
    clear hcs hcell hA hd
    go_wp2_with fail
    go_ret
    exact ⟨_, rfl, by rw [Hh.out]; simp, by omega, by omega, bel⟩
  ·obtain rfl : k = l.length := by omega
   have Hh := Lib.hid (show hasS l s = false from any_end (isS s) l Hall.out)
   clear hA
   go_wp2_with fail
   go_ret
   exact ⟨_, rfl, by rw [Hh.out]; simp, by omega, by omega, bel⟩
theorem c_Contains_Str (l : List ByteArray) (s : ByteArray) (v : Value) (w : World) (lo : Nat) (hs : Sl_Str lo w.heap.size w l v) :
  Calls Tryz.prog 250 #[v, .string s] w fun e w' => e = .returned (.bool (hasS l s)) /\ Below w.heap.size w w' := by
 obtain ⟨A, c, rfl⟩ := hs.form
 go_enter Tryz.func250, Tryz.ntmps250
 go_wp2_with (first | (go_at_call 198; refine (c_Index_Str _ _ _ _ _ (Sl_Str.now (by assumption) bel)).mono ?_; rintro e w1 ⟨ix, rfl, hix, hix1, hix2, hb⟩; (first | (have hcu2 := Cum.join hcu hb; (try clear hcu); (try clear hc); (try clear hfz); (try clear hsz); (try clear hs0); (try clear hs1); (try clear hs2); (try clear hs3); (try clear hs4); ) | have hcu2 := Cum.mk hb); have hcu := hcu2; clear hcu2; obtain ⟨hc, hfz⟩ := bcell hcu.h; have hsz := hcu.h.size; (try simp at hsz); (try have hs0 := lt_of_succ_le hsz); (try (have hs1 := lt_pred hsz; (try (have hs2 := lt_pred hs1; (try (have hs3 := lt_pred hs2; (try have hs4 := lt_pred hs3)))))))))
 go_ret
 exact ⟨ret_bool (by simp), bel⟩
theorem aside_below {S : Nat -> Prop} {a b c : World} (h : Aside S a b) (hb : Below b.heap.size b c) : Aside S a c := h.trans (Aside.of_below hb)
theorem c_rd_key_kind (L : List SignD) (E : Int) (b p m : Nat) (f : Flt) (v : Value) (w : World) (hp : p <= 1048577) (h : RdAt L E b p m f w) (hf : f.code = 0) (hk : kindAt L p ≠ 7) :
  Calls Tryz.prog 211 #[.pointer (some ⟨b, 0, none⟩), v] w fun e w' => e = .returned (.string ⟨#[]⟩) /\ RdAt L E b p m (badF L E 4 p) w' /\ Aside (fun q => q = b) w w' := by
 have HRd := hid h
 obtain ⟨t, ht⟩ : ∃ t, t = kindAt L p := ⟨_, rfl⟩
 rw [<- ht] at hk
 have HT := hid ht
 have HFl := hid hf
 have d1 : (t != 7) = true := bne_iff_ne.2 hk
 have d2 : (t == 7) = false := beq_eq_false_iff_ne.2 hk
 clear ht hk h hf
 go_enter Tryz.func211, Tryz.ntmps211
 go_wp2_with fail
 refine (c_rd_kind L E b p m f _ hp HRd.out).mono ?_
 rintro e w1 ⟨rfl, hb1⟩
 rw [<- HT.out]
 have HR1 := hid (HRd.out.below hb1)
 have HB1 := hid hb1
 clear hb1
 go_wp2_with fail
 refine (c_rd_fail_new L E 4 b p m f _ hp HR1.out HFl.out).mono ?_
 rintro e w2 ⟨rfl, hR2, hA2⟩
 have HR2 := hid hR2
 have HA2 := hid ((Aside.of_below HB1.out).trans hA2)
 clear hR2 hA2
 go_wp2_with fail
 go_ret
 exact ⟨rfl, HR2.out, HA2.out⟩
def keyF (L : List SignD) (E : Int) (ks : List ByteArray) (p : Nat) (x : SignD) (f : Flt) : Flt := if 400 < x.text.size then badF L E 8 p else if hasS ks x.text = true then badF L E 5 p else f
theorem c_rd_key (L : List SignD) (E : Int) (b p m lo : Nat) (f : Flt) (ks : List ByteArray) (v : Value) (x : SignD) (w : World) (hp : p <= 1048576) (h : RdAt L E b p m f w) (hf : f.code = 0) (hx : L[p]? = some x) (hk : x.kind = 7) (hsz : x.text.size <= 1048576)
  (hks : ∀ w', Aside (fun q => q = b) w w' -> Sl_Str lo w'.heap.size w' ks v) :
  Calls Tryz.prog 211 #[.pointer (some ⟨b, 0, none⟩), v] w fun e w' => e = .returned (.string x.text) /\ RdAt L E b (p + 1) m (keyF L E ks p x f) w' /\ Aside (fun q => q = b) w w' := by
 have HRd := hid h
 have HK := hid (show kindAt L p = 7 by unfold kindAt; rw [hx]; exact hk)
 have HFl := hid hf
 have HX := hid hx
 have hpl : p < L.length := (List.getElem?_eq_some_iff.1 hx).1
 obtain ⟨t, ht⟩ : ∃ t, t = x.text := ⟨_, rfl⟩
 have HXt := hid ht
 rw [<- ht] at hsz
 have hz0 : (0 : Int) <= p := by omega
 have hz1 : (p : Int) < L.length := by omega
 have HKs := hid hks
 clear h hf hx hk ht hks
 go_enter Tryz.func211, Tryz.ntmps211
 go_wp2_with fail
 refine (c_rd_kind L E b p m f _ (by omega) HRd.out).mono ?_
 rintro e w1 ⟨rfl, hb1⟩
 rw [HK.out]
 have HR1 := hid (HRd.out.below hb1)
 have HA1 := hid (Aside.of_below (S := fun q => q = b) hb1)
 clear hb1
 obtain ⟨A, c, hbx, hrow, -⟩ := HR1.out
 unfold rdC at hbx
 obtain ⟨a0, a1, a2, a3, a4, a5, a6, af⟩ := row7r hbx
 have l0 := row_lt hbx
 obtain ⟨g, y, rfl, hy, hlc, lg, d0, d1, d2, d3⟩ := sign_row (p := p) hrow hpl
 obtain rfl : y = x := Option.some.inj (hy.symm.trans HX.out)
 rw [<- HXt.out] at d1
 clear hbx hrow hy
 go_wp2_with fail
 refine wp_region_det 11 (by kernel_rfl) (by kernel_rfl) (by decide) ?_
 iterate 3 refine ds ?_
 refine ds ?_
 iterate 3 refine ds ?_
 refine ds ?_
 iterate 2 refine ds ?_
 refine ds ?_
 intro w2 hbw2
 (try simp only [Act.put, List.setIfInBounds_toArray, List.set_cons_zero, List.set_cons_succ])
 (try simp only [List.drop_succ_cons, List.drop_zero])
 have HR2 := hid (HR1.out.below hbw2)
 have HA2 := hid (aside_below HA1.out hbw2)
 have l2 := HR2.out.lt
 clear a0 a1 a2 a3 a4 a5 a6 af d0 d1 d2 d3
 by_cases c8 : (400 : Int) < t.size
 ·have HKf := hid (show keyF L E ks p y f = badF L E 8 p by unfold keyF; rw [<- HXt.out, if_pos (by omega)])
  go_wp2_with fail
  refine (c_rd_fail_new L E 8 b p m f _ (by omega) HR2.out HFl.out).mono ?_
  rintro e w3 ⟨rfl, hR3, hA3⟩
  have HR3 := hid hR3
  have HA3 := hid (HA2.out.trans hA3)
  clear hR3 hA3
  go_wp2_with fail
  refine (c_Contains_Str ks t v _ lo (HKs.out _ HA3.out)).mono ?_
  rintro e w4 ⟨rfl, hb4⟩
  obtain ⟨z, hz⟩ : ∃ z, z = hasS ks t := ⟨_, rfl⟩
  rw [<- hz]
  clear hz
  have HR4 := hid (HR3.out.below hb4)
  have HA4 := hid (aside_below HA3.out hb4)
  clear hb4
  cases z
  ·have HRk := hid HR4.out
   have HAk := hid HA4.out
   obtain ⟨A5, c5, hx5, -, -⟩ := HRk.out
   unfold rdC at hx5
   obtain ⟨q0, q1, q2, q3, q4, q5, q6, qf⟩ := row7r hx5
   have l5 := row_lt hx5
   clear hx5
   go_wp2_with fail
   have hF5 : Aside (fun q => q = b) w4 ((w4).setCell ⟨b, 1, none⟩ (.int .i64 ((p : Int) + 1))) := aside_set rfl (Aside.refl _ _)
   have hR5 := RdAt.poke (p' := p + 1) (m' := m) (f' := badF L E 8 p) HRk.out hF5 (fun A c h => by unfold rdC at h ⊢; exact set7_1 h)
   have HF5 := hid (HAk.out.trans hF5)
   have HR5 := hid hR5
   clear hF5 hR5
   go_ret
   exact ⟨by rw [<- HXt.out]; rfl, by rw [HKf.out]; exact HR5.out, HF5.out⟩
  ·go_wp2_with fail
   refine (c_rd_fail_old L E 5 b p m _ _ HR4.out (by show (8 : Int) ≠ 0; decide)).mono ?_
   rintro e w6 ⟨rfl, hb6⟩
   have HRk := hid (HR4.out.below hb6)
   have HAk := hid (aside_below HA4.out hb6)
   obtain ⟨A5, c5, hx5, -, -⟩ := HRk.out
   unfold rdC at hx5
   obtain ⟨q0, q1, q2, q3, q4, q5, q6, qf⟩ := row7r hx5
   have l5 := row_lt hx5
   clear hx5
   go_wp2_with fail
   have hF5 : Aside (fun q => q = b) w6 ((w6).setCell ⟨b, 1, none⟩ (.int .i64 ((p : Int) + 1))) := aside_set rfl (Aside.refl _ _)
   have hR5 := RdAt.poke (p' := p + 1) (m' := m) (f' := badF L E 8 p) HRk.out hF5 (fun A c h => by unfold rdC at h ⊢; exact set7_1 h)
   have HF5 := hid (HAk.out.trans hF5)
   have HR5 := hid hR5
   clear hF5 hR5
   go_ret
   exact ⟨by rw [<- HXt.out]; rfl, by rw [HKf.out]; exact HR5.out, HF5.out⟩
 ·have d8 : decide ((400 : Int) < t.size) = false := decide_eq_false c8
  go_wp2_with fail
  refine (c_Contains_Str ks t v _ lo (HKs.out _ HA2.out)).mono ?_
  rintro e w4 ⟨rfl, hb4⟩
  have HR4 := hid (HR2.out.below hb4)
  have HA4 := hid (aside_below HA2.out hb4)
  clear hb4
  rcases hz : hasS ks t with _ | _
  ·have HKf := hid (show keyF L E ks p y f = f by unfold keyF; rw [<- HXt.out, if_neg (by omega), hz]; rfl)
   clear hz
   have HRk := hid HR4.out
   have HAk := hid HA4.out
   obtain ⟨A5, c5, hx5, -, -⟩ := HRk.out
   unfold rdC at hx5
   obtain ⟨q0, q1, q2, q3, q4, q5, q6, qf⟩ := row7r hx5
   have l5 := row_lt hx5
   clear hx5
   go_wp2_with fail
   have hF5 : Aside (fun q => q = b) w4 ((w4).setCell ⟨b, 1, none⟩ (.int .i64 ((p : Int) + 1))) := aside_set rfl (Aside.refl _ _)
   have hR5 := RdAt.poke (p' := p + 1) (m' := m) (f' := f) HRk.out hF5 (fun A c h => by unfold rdC at h ⊢; exact set7_1 h)
   have HF5 := hid (HAk.out.trans hF5)
   have HR5 := hid hR5
   clear hF5 hR5
   go_ret
   exact ⟨by rw [<- HXt.out]; rfl, by rw [HKf.out]; exact HR5.out, HF5.out⟩
  ·have HKf := hid (show keyF L E ks p y f = badF L E 5 p by unfold keyF; rw [<- HXt.out, if_neg (by omega), hz]; rfl)
   clear hz
   go_wp2_with fail
   refine (c_rd_fail_new L E 5 b p m f _ (by omega) HR4.out HFl.out).mono ?_
   rintro e w6 ⟨rfl, hR6, hA6⟩
   have HRk := hid hR6
   have HAk := hid (HA4.out.trans hA6)
   obtain ⟨A5, c5, hx5, -, -⟩ := HRk.out
   unfold rdC at hx5
   obtain ⟨q0, q1, q2, q3, q4, q5, q6, qf⟩ := row7r hx5
   have l5 := row_lt hx5
   clear hx5
   go_wp2_with fail
   have hF5 : Aside (fun q => q = b) w6 ((w6).setCell ⟨b, 1, none⟩ (.int .i64 ((p : Int) + 1))) := aside_set rfl (Aside.refl _ _)
   have hR5 := RdAt.poke (p' := p + 1) (m' := m) (f' := badF L E 5 p) HRk.out hF5 (fun A c h => by unfold rdC at h ⊢; exact set7_1 h)
   have HF5 := hid (HAk.out.trans hF5)
   have HR5 := hid hR5
   clear hF5 hR5
   go_ret
   exact ⟨by rw [<- HXt.out]; rfl, by rw [HKf.out]; exact HR5.out, HF5.out⟩
structure SgOk (L : List SignD) : Prop where
 len : L.length <= 1048576
 kind : ∀ (i : Nat) (x : SignD), L[i]? = some x -> 1 <= x.kind /\ x.kind <= 11
 num : ∀ (i : Nat) (x : SignD), L[i]? = some x -> I64 x.num
 text : ∀ (i : Nat) (x : SignD), L[i]? = some x -> x.text.size <= 1048576
def GoodR (L : List SignD) (p : Nat) (r : Res) : Prop := match r with
 | .bad f => f.code ≠ 0
 | .good _ q m' => p < q /\ q <= L.length /\ m' <= 300
def needJ (L : List SignD) (p : Nat) : Job -> Nat
 | .value _ => 2 * (L.length - p) + 1
 | .list _ _ => 2 * (L.length - p) + 2
 | .pairs _ _ _ => 2 * (L.length - p) + 2
theorem kindAt_some {L : List SignD} {p : Nat} {x : SignD} (h : L[p]? = some x) : kindAt L p = x.kind := by unfold kindAt; rw [h]
theorem kindAt_none {L : List SignD} {p : Nat} (h : L[p]? = none) : kindAt L p = 0 := by unfold kindAt; rw [h]
theorem kindAt_lt {L : List SignD} {p : Nat} (h : kindAt L p ≠ 0) : p < L.length := by
 rcases hx : L[p]? with _ | x
 ·exact absurd (kindAt_none hx) h
 ·exact (List.getElem?_eq_some_iff.1 hx).1
theorem readJ_value (L : List SignD) (E : Int) (n d p m : Nat) : readJ L E (n + 1) (.value d) p m =
  if ¬ (kindAt L p = 1 ∨ kindAt L p = 3 ∨ 7 <= kindAt L p) then .bad (badF L E 4 p)
  else if 8 < d then .bad (badF L E 6 p)
  else if 300 <= m then .bad (badF L E 7 p)
  else match L[p]? with
   | none => .bad flt0
   | some x =>
    if x.kind = 7 then (if 400 < x.text.size then .bad (badF L E 8 p) else .good (tText x.text) (p + 1) (m + 1))
    else if x.kind = 8 then .good (tInt x.num) (p + 1) (m + 1)
    else if x.kind = 11 then .good tNull (p + 1) (m + 1)
    else if x.kind = 3 then (if kindAt L (p + 1) = 4 then .good (tList []) (p + 2) (m + 1) else readJ L E n (.list d []) (p + 1) (m + 1))
    else if x.kind = 1 then (if kindAt L (p + 1) = 2 then .good (tMap [] []) (p + 2) (m + 1) else readJ L E n (.pairs d [] []) (p + 1) (m + 1))
    else .good (tFlag (x.kind == 9)) (p + 1) (m + 1) := by rw [readJ]; rfl
theorem readJ_list (L : List SignD) (E : Int) (n d : Nat) (acc : List TreeD) (p m : Nat) : readJ L E (n + 1) (.list d acc) p m =
  match readJ L E n (.value (d + 1)) p m with
  | .bad f => .bad f
  | .good t q m' =>
   if kindAt L q = 4 then .good (tList (acc ++ [t])) (q + 1) m'
   else if kindAt L q = 6 then readJ L E n (.list d (acc ++ [t])) (q + 1) m'
   else .bad (badF L E 4 q) := by rw [readJ]; rfl
theorem readJ_pairs (L : List SignD) (E : Int) (n d : Nat) (ks : List ByteArray) (acc : List TreeD) (p m : Nat) : readJ L E (n + 1) (.pairs d ks acc) p m =
  match L[p]? with
  | none => .bad (badF L E 4 p)
  | some x =>
   if x.kind ≠ 7 then .bad (badF L E 4 p)
   else if 400 < x.text.size then .bad (badF L E 8 p)
   else if ks.contains x.text then .bad (badF L E 5 p)
   else if kindAt L (p + 1) ≠ 5 then .bad (badF L E 4 (p + 1))
   else match readJ L E n (.value (d + 1)) (p + 2) m with
    | .bad f => .bad f
    | .good t q m' =>
     if kindAt L q = 2 then .good (tMap (insL ks (posK ks x.text) x.text) (insL acc (posK ks x.text) t)) (q + 1) m'
     else if kindAt L q = 6 then readJ L E n (.pairs d (insL ks (posK ks x.text) x.text) (insL acc (posK ks x.text) t)) (q + 1) m'
     else .bad (badF L E 4 q) := by rw [readJ]; rfl
theorem good_more {L : List SignD} {p p' : Nat} {r : Res} (h : GoodR L p' r) (hp : p <= p') : GoodR L p r := by
 cases r with
 | bad f => exact h
 | good t q m' => exact ⟨Nat.lt_of_le_of_lt hp h.1, h.2.1, h.2.2⟩
theorem bad_code (L : List SignD) (E : Int) (c : Int) (p q : Nat) (hc : c ≠ 0) : GoodR L q (.bad (badF L E c p)) := hc
theorem readJ_good (L : List SignD) (E : Int) : ∀ (n : Nat) (j : Job) (p m : Nat), p <= L.length -> m <= 300 -> needJ L p j <= n -> GoodR L p (readJ L E n j p m)
 | 0, j, p, m, _, _, hn => by cases j <;> simp [needJ] at hn
 | n + 1, .value d, p, m, hp, hm, hn => by
  rw [readJ_value]
  by_cases c1 : ¬ (kindAt L p = 1 ∨ kindAt L p = 3 ∨ 7 <= kindAt L p)
  ·rw [if_pos c1]; exact bad_code _ _ _ _ _ (by decide)
  ·rw [if_neg c1]
   have c1 := Classical.not_not.1 c1
   by_cases c2 : 8 < d
   ·rw [if_pos c2]; exact bad_code _ _ _ _ _ (by decide)
   ·rw [if_neg c2]
    by_cases c3 : 300 <= m
    ·rw [if_pos c3]; exact bad_code _ _ _ _ _ (by decide)
    ·rw [if_neg c3]
     have hlt : p < L.length := kindAt_lt (L := L) (p := p) (by omega)
     unfold needJ at hn
     simp only at hn
     rcases hx : L[p]? with _ | x
     ·rw [List.getElem?_eq_getElem hlt] at hx; cases hx
     ·simp only
      by_cases c4 : x.kind = 7
      ·rw [if_pos c4]
       by_cases c5 : 400 < x.text.size
       ·rw [if_pos c5]; exact bad_code _ _ _ _ _ (by decide)
       ·rw [if_neg c5]; exact ⟨by omega, by omega, by omega⟩
      ·rw [if_neg c4]
       by_cases c6 : x.kind = 8
       ·rw [if_pos c6]; exact ⟨by omega, by omega, by omega⟩
       ·rw [if_neg c6]
        by_cases c7 : x.kind = 11
        ·rw [if_pos c7]; exact ⟨by omega, by omega, by omega⟩
        ·rw [if_neg c7]
         by_cases c8 : x.kind = 3
         ·rw [if_pos c8]
          by_cases c9 : kindAt L (p + 1) = 4
          ·rw [if_pos c9]
           have := kindAt_lt (L := L) (p := p + 1) (by omega)
           exact ⟨by omega, by omega, by omega⟩
          ·rw [if_neg c9]
           exact good_more (readJ_good L E n _ (p + 1) (m + 1) (by omega) (by omega) (by unfold needJ; simp only; omega)) (by omega)
         ·rw [if_neg c8]
          by_cases c10 : x.kind = 1
          ·rw [if_pos c10]
           by_cases c9 : kindAt L (p + 1) = 2
           ·rw [if_pos c9]
            have := kindAt_lt (L := L) (p := p + 1) (by omega)
            exact ⟨by omega, by omega, by omega⟩
           ·rw [if_neg c9]
            exact good_more (readJ_good L E n _ (p + 1) (m + 1) (by omega) (by omega) (by unfold needJ; simp only; omega)) (by omega)
          ·rw [if_neg c10]; exact ⟨by omega, by omega, by omega⟩
 | n + 1, .list d acc, p, m, hp, hm, hn => by
  rw [readJ_list]
  unfold needJ at hn
  simp only at hn
  have h1 := readJ_good L E n (.value (d + 1)) p m hp hm (by unfold needJ; simp only; omega)
  rcases hr : readJ L E n (.value (d + 1)) p m with f | ⟨t, q, m'⟩
  ·rw [hr] at h1; exact h1
  ·rw [hr] at h1
   obtain ⟨h2, h3, h4⟩ := h1
   simp only
   by_cases c1 : kindAt L q = 4
   ·rw [if_pos c1]
    have := kindAt_lt (L := L) (p := q) (by omega)
    exact ⟨by omega, by omega, h4⟩
   ·rw [if_neg c1]
    by_cases c2 : kindAt L q = 6
    ·rw [if_pos c2]
     have := kindAt_lt (L := L) (p := q) (by omega)
     exact good_more (readJ_good L E n _ (q + 1) m' (by omega) h4 (by unfold needJ; simp only; omega)) (by omega)
    ·rw [if_neg c2]; exact bad_code _ _ _ _ _ (by decide)
 | n + 1, .pairs d ks acc, p, m, hp, hm, hn => by
  rw [readJ_pairs]
  unfold needJ at hn
  simp only at hn
  rcases hx : L[p]? with _ | x
  ·exact bad_code _ _ _ _ _ (by decide)
  ·simp only
   have hlt := (List.getElem?_eq_some_iff.1 hx).1
   by_cases c1 : x.kind ≠ 7
   ·rw [if_pos c1]; exact bad_code _ _ _ _ _ (by decide)
   ·rw [if_neg c1]
    by_cases c2 : 400 < x.text.size
    ·rw [if_pos c2]; exact bad_code _ _ _ _ _ (by decide)
    ·rw [if_neg c2]
     by_cases c3 : ks.contains x.text = true
     ·rw [if_pos c3]; exact bad_code _ _ _ _ _ (by decide)
     ·rw [if_neg c3]
      by_cases c4 : kindAt L (p + 1) ≠ 5
      ·rw [if_pos c4]; exact bad_code _ _ _ _ _ (by decide)
      ·rw [if_neg c4]
       have hlt2 := kindAt_lt (L := L) (p := p + 1) (by omega)
       have h1 := readJ_good L E n (.value (d + 1)) (p + 2) m (by omega) hm (by unfold needJ; simp only; omega)
       rcases hr : readJ L E n (.value (d + 1)) (p + 2) m with f | ⟨t, q, m'⟩
       ·rw [hr] at h1; exact h1
       ·rw [hr] at h1
        obtain ⟨h2, h3, h4⟩ := h1
        simp only
        by_cases c5 : kindAt L q = 2
        ·rw [if_pos c5]
         have := kindAt_lt (L := L) (p := q) (by omega)
         exact ⟨by omega, by omega, h4⟩
        ·rw [if_neg c5]
         by_cases c6 : kindAt L q = 6
         ·rw [if_pos c6]
          have := kindAt_lt (L := L) (p := q) (by omega)
          exact good_more (readJ_good L E n _ (q + 1) m' (by omega) h4 (by unfold needJ; simp only; omega)) (by omega)
         ·rw [if_neg c6]; exact bad_code _ _ _ _ _ (by decide)
theorem readP_kind {L : List SignD} {E : Int} {n d p m : Nat} {ks : List ByteArray} {acc : List TreeD} (h : kindAt L p ≠ 7) : readJ L E (n + 1) (.pairs d ks acc) p m = .bad (badF L E 4 p) := by
 rw [readJ_pairs]
 rcases hx : L[p]? with _ | x
 ·rfl
 ·simp only
  rw [if_pos (by rw [<- kindAt_some hx]; exact h)]
theorem readP_wide {L : List SignD} {E : Int} {n d p m : Nat} {ks : List ByteArray} {acc : List TreeD} {x : SignD} (hx : L[p]? = some x) (hk : x.kind = 7) (hs : 400 < x.text.size) : readJ L E (n + 1) (.pairs d ks acc) p m = .bad (badF L E 8 p) := by
 rw [readJ_pairs, hx]
 simp only
 rw [if_neg (fun h => h hk), if_pos hs]
theorem readP_twice {L : List SignD} {E : Int} {n d p m : Nat} {ks : List ByteArray} {acc : List TreeD} {x : SignD} (hx : L[p]? = some x) (hk : x.kind = 7) (hs : ¬ 400 < x.text.size) (hn : ks.contains x.text = true) : readJ L E (n + 1) (.pairs d ks acc) p m = .bad (badF L E 5 p) := by
 rw [readJ_pairs, hx]
 simp only
 rw [if_neg (fun h => h hk), if_neg hs, if_pos hn]
theorem readP_colon {L : List SignD} {E : Int} {n d p m : Nat} {ks : List ByteArray} {acc : List TreeD} {x : SignD} (hx : L[p]? = some x) (hk : x.kind = 7) (hs : ¬ 400 < x.text.size) (hn : ks.contains x.text = false) (h5 : kindAt L (p + 1) ≠ 5) : readJ L E (n + 1) (.pairs d ks acc) p m = .bad (badF L E 4 (p + 1)) := by
 rw [readJ_pairs, hx]
 simp only
 rw [if_neg (fun h => h hk), if_neg hs, if_neg (by rw [hn]; decide), if_pos h5]
theorem readP_bad {L : List SignD} {E : Int} {n d p m : Nat} {ks : List ByteArray} {acc : List TreeD} {x : SignD} {f : Flt} (hx : L[p]? = some x) (hk : x.kind = 7) (hs : ¬ 400 < x.text.size) (hn : ks.contains x.text = false) (h5 : kindAt L (p + 1) = 5) (hq : readJ L E n (.value (d + 1)) (p + 2) m = .bad f) : readJ L E (n + 1) (.pairs d ks acc) p m = .bad f := by
 rw [readJ_pairs, hx]
 simp only
 rw [if_neg (fun h => h hk), if_neg hs, if_neg (by rw [hn]; decide), if_neg (fun h => h h5), hq]
theorem readP_good {L : List SignD} {E : Int} {n d p m : Nat} {ks : List ByteArray} {acc : List TreeD} {x : SignD} {t : TreeD} {q m' : Nat} (hx : L[p]? = some x) (hk : x.kind = 7) (hs : ¬ 400 < x.text.size) (hn : ks.contains x.text = false) (h5 : kindAt L (p + 1) = 5) (hq : readJ L E n (.value (d + 1)) (p + 2) m = .good t q m') : readJ L E (n + 1) (.pairs d ks acc) p m =
  if kindAt L q = 2 then .good (tMap (insL ks (posK ks x.text) x.text) (insL acc (posK ks x.text) t)) (q + 1) m'
  else if kindAt L q = 6 then readJ L E n (.pairs d (insL ks (posK ks x.text) x.text) (insL acc (posK ks x.text) t)) (q + 1) m'
  else .bad (badF L E 4 q) := by
 rw [readJ_pairs, hx]
 simp only
 rw [if_neg (fun h => h hk), if_neg hs, if_neg (by rw [hn]; decide), if_neg (fun h => h h5), hq]
def KidsAt (O : (Nat -> Prop) -> World -> TreeD -> List Value -> Prop) (F : Nat -> Nat -> Prop) (g : Nat) (w : World) (l : List TreeD) : Prop :=
 ∃ cur, w.heap[g]? = some (.cells cur 34 (0, 0)) /\ ∀ i d, l[i]? = some d -> ∃ es, es.length = 6 /\ (∀ j, j < 6 -> cur[i * 6 + j]? = es[j]?) /\ O (F i) w d es
def OwnK (O : (Nat -> Prop) -> World -> TreeD -> List Value -> Prop) (S : Nat -> Prop) (w : World) (l : List TreeD) (v : Value) : Prop :=
 ∃ A c, v = .slice A l.length c /\ l.length <= c /\ c <= 9223372036854775807 /\ (0 < l.length -> ∃ g F, A = some ⟨g, 0, none⟩ /\ S g /\ (∀ i b, F i b -> S b /\ b ≠ g) /\ (∀ i j b, F i b -> F j b -> i = j) /\ KidsAt O F g w l)
def OwnT : Nat -> (Nat -> Prop) -> World -> TreeD -> List Value -> Prop
 | 0, _, _, _, _ => False
 | n + 1, S, w, d, cs => ∃ (v4 v5 : Value) (S4 S5 : Nat -> Prop), cs = [.int .i64 d.kind, .bool d.flag, .int .i64 d.num, .string d.text, v4, v5] /\ I64 d.kind /\ I64 d.num /\ d.text.size <= 9223372036854775807 /\
   (∀ b, S4 b -> S b /\ ¬ S5 b) /\ (∀ b, S5 b -> S b) /\ OwnS S4 w d.keys v4 /\ OwnK (OwnT n) S5 w d.kids v5
theorem OwnT.out {n : Nat} {S : Nat -> Prop} {w : World} {d : TreeD} {cs : List Value} (h : OwnT (n + 1) S w d cs) : ∃ (v4 v5 : Value) (S4 S5 : Nat -> Prop), cs = [.int .i64 d.kind, .bool d.flag, .int .i64 d.num, .string d.text, v4, v5] /\ I64 d.kind /\ I64 d.num /\ d.text.size <= 9223372036854775807 /\
   (∀ b, S4 b -> S b /\ ¬ S5 b) /\ (∀ b, S5 b -> S b) /\ OwnS S4 w d.keys v4 /\ OwnK (OwnT n) S5 w d.kids v5 := h
theorem OwnT.into {n : Nat} {S : Nat -> Prop} {w : World} {d : TreeD} {cs : List Value} (h : ∃ (v4 v5 : Value) (S4 S5 : Nat -> Prop), cs = [.int .i64 d.kind, .bool d.flag, .int .i64 d.num, .string d.text, v4, v5] /\ I64 d.kind /\ I64 d.num /\ d.text.size <= 9223372036854775807 /\
   (∀ b, S4 b -> S b /\ ¬ S5 b) /\ (∀ b, S5 b -> S b) /\ OwnS S4 w d.keys v4 /\ OwnK (OwnT n) S5 w d.kids v5) : OwnT (n + 1) S w d cs := h
theorem OwnT.none {S : Nat -> Prop} {w : World} {d : TreeD} {cs : List Value} (h : OwnT 0 S w d cs) : False := h
theorem OwnT.any {n : Nat} {S : Nat -> Prop} {w : World} {d : TreeD} {cs : List Value} (h : OwnT n S w d cs) : ∃ m, n = m + 1 := by
 cases n with
 | zero => exact h.none.elim
 | succ m => exact ⟨m, rfl⟩
theorem OwnK.form {O : (Nat -> Prop) -> World -> TreeD -> List Value -> Prop} {S : Nat -> Prop} {w : World} {l : List TreeD} {v : Value} (h : OwnK O S w l v) : ∃ A c, v = .slice A l.length c := by
 obtain ⟨A, c, hv, _⟩ := h
 exact ⟨A, c, hv⟩
theorem OwnT.flat {n : Nat} {S : Nat -> Prop} {w : World} {d : TreeD} {cs : List Value} (h : OwnT n S w d cs) : ∃ A4 c4 A5 c5, cs = [.int .i64 d.kind, .bool d.flag, .int .i64 d.num, .string d.text, .slice A4 d.keys.length c4, .slice A5 d.kids.length c5] /\ I64 d.kind /\ I64 d.num /\ d.text.size <= 9223372036854775807 := by
 obtain ⟨m, rfl⟩ := h.any
 obtain ⟨v4, v5, S4, S5, rfl, a0, a2, a3, -, -, a4, a5⟩ := h.out
 obtain ⟨A4, c4, rfl⟩ := a4.form
 obtain ⟨A5, c5, rfl⟩ := a5.form
 exact ⟨A4, c4, A5, c5, rfl, a0, a2, a3⟩
theorem OwnK.carry {O O' : (Nat -> Prop) -> World -> TreeD -> List Value -> Prop} {S S' : Nat -> Prop} {w w' : World} {l : List TreeD} {v : Value} (h : OwnK O S w l v) (hs : ∀ b, S b -> w'.heap[b]? = w.heap[b]?) (hS : ∀ b, S b -> S' b)
  (hO : ∀ F d es, (∀ b, F b -> S b) -> O F w d es -> O' F w' d es) : OwnK O' S' w' l v := by
 obtain ⟨A, c, hv, h1, h2, h3⟩ := h
 refine ⟨A, c, hv, h1, h2, fun hp => ?_⟩
 obtain ⟨g, F, hA, hg, hF, hF2, cur, hr, hc⟩ := h3 hp
 refine ⟨g, F, hA, hS g hg, fun i b hb => ⟨hS b (hF i b hb).1, (hF i b hb).2⟩, hF2, cur, (hs g hg).trans hr, fun i d hd => ?_⟩
 obtain ⟨es, e1, e2, e3⟩ := hc i d hd
 exact ⟨es, e1, e2, hO (F i) d es (fun b hb => (hF i b hb).1) e3⟩
theorem OwnT.carry : ∀ {n : Nat} {S S' : Nat -> Prop} {w w' : World} {d : TreeD} {cs : List Value}, OwnT n S w d cs -> (∀ b, S b -> w'.heap[b]? = w.heap[b]?) -> (∀ b, S b -> S' b) -> OwnT n S' w' d cs
 | 0, _, _, _, _, _, _, h, _, _ => h.none.elim
 | n + 1, S, S', w, w', d, cs, h, hs, hS => by
  obtain ⟨v4, v5, S4, S5, e, a0, a2, a3, d4, d5, a4, a5⟩ := h.out
  exact OwnT.into ⟨v4, v5, S4, S5, e, a0, a2, a3, fun b hb => ⟨hS b (d4 b hb).1, (d4 b hb).2⟩, fun b hb => hS b (d5 b hb), a4.carry (fun b hb => hs b (d4 b hb).1) (fun _ h => h),
   a5.carry (fun b hb => hs b (d5 b hb)) (fun _ h => h) (fun F d es hF ho => OwnT.carry ho (fun b hb => hs b (d5 b (hF b hb))) (fun _ h => h))⟩
theorem OwnK.keep {n : Nat} {S S' : Nat -> Prop} {w w' : World} {l : List TreeD} {v : Value} (h : OwnK (OwnT n) S w l v) (hs : ∀ b, S b -> w'.heap[b]? = w.heap[b]?) (hS : ∀ b, S b -> S' b) : OwnK (OwnT n) S' w' l v :=
 h.carry hs hS (fun _ _ _ hF ho => ho.carry (fun b hb => hs b (hF b hb)) (fun _ h => h))
theorem OwnT.up : ∀ {n m : Nat} {S : Nat -> Prop} {w : World} {d : TreeD} {cs : List Value}, OwnT n S w d cs -> n <= m -> OwnT m S w d cs
 | 0, _, _, _, _, _, h, _ => h.none.elim
 | n + 1, 0, _, _, _, _, _, hm => absurd hm (by omega)
 | n + 1, m + 1, _, _, _, _, h, hm => by
  obtain ⟨v4, v5, S4, S5, e, a0, a2, a3, d4, d5, a4, a5⟩ := h.out
  exact OwnT.into ⟨v4, v5, S4, S5, e, a0, a2, a3, d4, d5, a4, a5.carry (fun _ _ => rfl) (fun _ h => h) (fun F d es hF ho => OwnT.up ho (by omega))⟩
theorem OwnT.toC : ∀ {n lo hi : Nat} {S : Nat -> Prop} {w : World} {d : TreeD} {cs : List Value}, OwnT n S w d cs -> (∀ b, S b -> lo <= b /\ b < hi) -> C_Tree n lo hi w d cs
 | 0, _, _, _, _, _, _, h, _ => h.none.elim
 | n + 1, lo, hi, S, w, d, cs, h, hS => by
  obtain ⟨v4, v5, S4, S5, e, a0, a2, a3, d4, d5, a4, a5⟩ := h.out
  refine C_Tree.into ⟨v4, v5, e, a0, a2, a3, a4.toC (fun b hb => hS b (d4 b hb).1), ?_⟩
  obtain ⟨A, c, rfl, h1, h2, h3⟩ := a5
  refine ⟨A, c, rfl, h1, h2, fun hp => ?_⟩
  obtain ⟨g, F, rfl, hg, hF, hF2, cur, hr, hc⟩ := h3 hp
  refine ⟨g, 0, rfl, (hS g (d5 g hg)).1, (hS g (d5 g hg)).2, fun i d hd => ?_⟩
  obtain ⟨es, e1, e2, e3⟩ := hc i d hd
  refine ⟨es, e1, fun j hj => ?_, OwnT.toC e3 (fun b hb => hS b (d5 b (hF i b hb).1))⟩
  rw [cell_of_row w g _ cur _ _ hr, Nat.zero_add]
  exact e2 j hj
def cntT : Nat -> TreeD -> Nat
 | 0, _ => 0
 | n + 1, d => d.keys.length + szL (fun t => 4 + cntT n t) d.kids
def cntL (n : Nat) (l : List TreeD) : Nat := szL (fun t => 4 + cntT n t) l
theorem cntT_succ (n : Nat) (d : TreeD) : cntT (n + 1) d = d.keys.length + cntL n d.kids := rfl
def GrowS (base hi : Nat) (w : World) (l : List ByteArray) (v : Value) : Prop := w.ownsRow base 9 1 v l.length (l.map Value.string) /\ (∀ g, v.ownBlock = some g -> g < hi) /\ ∀ s ∈ l, s.size <= 9223372036854775807
theorem GrowS.form {base hi : Nat} {w : World} {l : List ByteArray} {v : Value} (h : GrowS base hi w l v) : ∃ A c, v = .slice A l.length c := by
 rcases h.1.2 with ⟨rfl, h0⟩ | ⟨g, cap, cur, rfl, _⟩
 ·exact ⟨_, _, by rw [h0]⟩
 ·exact ⟨_, _, rfl⟩
theorem GrowS.own {base hi : Nat} {w : World} {l : List ByteArray} {v : Value} (h : GrowS base hi w l v) : OwnS (fun b => base <= b /\ b < hi) w l v := by
 obtain ⟨⟨hl, h1⟩, h2, h3⟩ := h
 rcases h1 with ⟨rfl, h0⟩ | ⟨g, cap, cur, rfl, hb, hg, hnc, hcm, hcs, ht⟩
 ·exact ⟨none, 0, by rw [h0], by omega, by omega, fun hp => by omega⟩
 ·refine ⟨_, cap, rfl, hnc, by unfold maxLen at hcm; omega, fun _ => ⟨g, cur, rfl, ⟨hb, h2 g rfl⟩, hg, fun i s hs => ?_⟩⟩
  refine ⟨?_, h3 s (List.mem_of_getElem? hs)⟩
  have hi : i < l.length := (List.getElem?_eq_some_iff.1 hs).1
  have : (cur.toList.take (l.length * 1))[i]? = some (.string s) := by rw [ht, List.getElem?_map, hs]; rfl
  rw [List.getElem?_take, if_pos (by omega)] at this
  simpa using this
theorem flat_get : ∀ (ess : List (List Value)) (i : Nat) (es : List Value) (j : Nat), (∀ es ∈ ess, es.length = 6) -> ess[i]? = some es -> j < 6 -> ess.flatten[i * 6 + j]? = es[j]?
 | [], i, es, j, _, h, _ => by simp at h
 | x :: ess, 0, es, j, hl, h, hj => by
  simp at h
  subst h
  rw [List.flatten_cons, List.getElem?_append_left (by rw [hl x (by simp)]; omega)]
  simp
 | x :: ess, i + 1, es, j, hl, h, hj => by
  simp at h
  have hx := hl x (by simp)
  rw [List.flatten_cons, List.getElem?_append_right (by omega), hx, show (i + 1) * 6 + j - 6 = i * 6 + j by omega]
  exact flat_get ess i es j (fun y hy => hl y (by simp [hy])) h hj
def GrowK (n base hi : Nat) (w : World) (l : List TreeD) (v : Value) : Prop :=
 ∃ (ess : List (List Value)) (F : Nat -> Nat -> Prop), ess.length = l.length /\ (∀ es ∈ ess, es.length = 6) /\ w.ownsRow base 34 6 v l.length ess.flatten /\ (∀ g, v.ownBlock = some g -> g < hi) /\
  (∀ i b, F i b -> base <= b /\ b < hi /\ v.ownBlock ≠ some b) /\ (∀ i j b, F i b -> F j b -> i = j) /\ ∀ i d es, l[i]? = some d -> ess[i]? = some es -> OwnT n (F i) w d es
theorem GrowK.nil (n base hi : Nat) (w : World) : GrowK n base hi w [] (.slice none 0 0) :=
 ⟨[], fun _ _ => False, rfl, fun _ h => (by cases h), World.ownsRow_nil _ _ _ _, fun g h => (by cases h), fun _ _ h => h.elim, fun _ _ _ h => h.elim, fun i d es h => (by simp at h)⟩
theorem GrowK.form {n base hi : Nat} {w : World} {l : List TreeD} {v : Value} (h : GrowK n base hi w l v) : ∃ A c, v = .slice A l.length c := by
 obtain ⟨ess, F, -, -, h1, -⟩ := h
 rcases h1.2 with ⟨rfl, h0⟩ | ⟨g, cap, cur, rfl, _⟩
 ·exact ⟨_, _, by rw [h0]⟩
 ·exact ⟨_, _, rfl⟩
theorem GrowK.carry {n base hi hi' : Nat} {w w' : World} {l : List TreeD} {v : Value} (h : GrowK n base hi w l v) (hh : hi <= hi') (hb : ∀ g, base <= g -> g < hi -> w'.heap[g]? = w.heap[g]?) : GrowK n base hi' w' l v := by
 obtain ⟨ess, F, h1, h2, h3, h4, h5, h6, h7⟩ := h
 exact ⟨ess, F, h1, h2, ownsRow_carry h3 (fun g hg => hb g (h3.lt g hg).1 (h4 g hg)), fun g hg => Nat.lt_of_lt_of_le (h4 g hg) hh, fun i b hF => ⟨(h5 i b hF).1, Nat.lt_of_lt_of_le (h5 i b hF).2.1 hh, (h5 i b hF).2.2⟩, h6,
  fun i d es hd he => (h7 i d es hd he).carry (fun b hF => hb b (h5 i b hF).1 (h5 i b hF).2.1) (fun _ h => h)⟩
theorem GrowK.own {n base hi : Nat} {w : World} {l : List TreeD} {v : Value} (h : GrowK n base hi w l v) : OwnK (OwnT n) (fun b => base <= b /\ b < hi) w l v := by
 obtain ⟨ess, F, e1, e2, ⟨hl, h1⟩, h4, h5, h6, h7⟩ := h
 rcases h1 with ⟨rfl, h0⟩ | ⟨g, cap, cur, rfl, hb, hg, hnc, hcm, hcs, ht⟩
 ·exact ⟨none, 0, by rw [h0], by omega, by omega, fun hp => by omega⟩
 ·refine ⟨_, cap, rfl, hnc, by unfold maxLen at hcm; omega, fun _ => ⟨g, F, rfl, ⟨hb, h4 g rfl⟩, fun i b hF => ⟨⟨(h5 i b hF).1, (h5 i b hF).2.1⟩, fun e => (h5 i b hF).2.2 (by rw [e]; rfl)⟩, h6, cur, hg, fun i d hd => ?_⟩⟩
  have hi : i < l.length := (List.getElem?_eq_some_iff.1 hd).1
  obtain ⟨es, hes⟩ := exists_at (l := ess) (k := i) (by omega)
  refine ⟨es, e2 es (List.mem_of_getElem? hes), fun j hj => ?_, h7 i d es hd hes⟩
  have hf := flat_get ess i es j e2 hes hj
  rw [<- ht, List.getElem?_take, if_pos (by omega)] at hf
  simpa using hf
theorem OwnT.one {n : Nat} {S : Nat -> Prop} {w : World} {d : TreeD} {es : List Value} (h : OwnT n S w d es) : ∀ u ∈ es, u.oneCell' = true := by
 obtain ⟨A4, c4, A5, c5, rfl, -⟩ := h.flat
 intro u hu
 simp at hu
 rcases hu with rfl | rfl | rfl | rfl | rfl | rfl <;> rfl
theorem OwnT.len {n : Nat} {S : Nat -> Prop} {w : World} {d : TreeD} {es : List Value} (h : OwnT n S w d es) : es.length = 6 := by
 obtain ⟨A4, c4, A5, c5, rfl, -⟩ := h.flat
 rfl
theorem GrowK.push {n base hi : Nat} {w w' : World} {l : List TreeD} {v : Value} {d : TreeD} {es : List Value} {S : Nat -> Prop} {g cap : Nat} (m : Nat) (hm : l.length = m) (hhi : hi <= w.heap.size) (hd : OwnT n S w d es) (hS : ∀ b, S b -> hi <= b /\ b < w.heap.size) (hbh : base <= hi)
  (ess : List (List Value)) (F : Nat -> Nat -> Prop) (e1 : ess.length = l.length) (e2 : ∀ es ∈ ess, es.length = 6) (h4 : ∀ g, v.ownBlock = some g -> g < hi) (h5 : ∀ i b, F i b -> base <= b /\ b < hi /\ v.ownBlock ≠ some b) (h6 : ∀ i j b, F i b -> F j b -> i = j) (h7 : ∀ i d es, l[i]? = some d -> ess[i]? = some es -> OwnT n (F i) w d es)
  (ho : w'.ownsRow base 34 6 (.slice (some ⟨g, 0, none⟩) (m + 1) cap) (m + 1) (ess.flatten ++ es)) (hgr : w.grownBy w' v.ownBlock) (hat : v.ownBlock = some g ∨ w.heap.size <= g) (hg : g < w'.heap.size) :
  GrowK n base w'.heap.size w' (l ++ [d]) (.slice (some ⟨g, 0, none⟩) (m + 1) cap) := by
 subst hm
 have hkeep : ∀ b, b < w.heap.size -> v.ownBlock ≠ some b -> w'.heap[b]? = w.heap[b]? := fun b h1 h2 => hgr.block b h1 (fun e => h2 e.symm)
 refine ⟨ess ++ [es], fun i b => (i < l.length /\ F i b) ∨ (i = l.length /\ S b), by simp [e1], ?_, by simpa using ho, ?_, ?_, ?_, ?_⟩
 ·intro x hx
  rcases List.mem_append.1 hx with hx | hx
  ·exact e2 x hx
  ·simp at hx; subst hx; exact hd.len
 ·intro g' hg'
  simp [Value.ownBlock] at hg'
  omega
 ·rintro i b (⟨hi, hF⟩ | ⟨hi, hF⟩)
  ·obtain ⟨f1, f2, f3⟩ := h5 i b hF
   refine ⟨f1, by have := hgr.size; omega, fun e => ?_⟩
   simp [Value.ownBlock] at e
   rcases hat with hat | hat
   ·rw [hat, e] at f3; exact f3 rfl
   ·omega
  ·obtain ⟨f1, f2⟩ := hS b hF
   refine ⟨by omega, by have := hgr.size; omega, fun e => ?_⟩
   simp [Value.ownBlock] at e
   rcases hat with hat | hat
   ·have := h4 g hat; omega
   ·omega
 ·rintro i j b (⟨hi, hF⟩ | ⟨hi, hF⟩) (⟨hj, hG⟩ | ⟨hj, hG⟩)
  ·exact h6 i j b hF hG
  ·have := (h5 i b hF).2.1; have := (hS b hG).1; omega
  ·have := (h5 j b hG).2.1; have := (hS b hF).1; omega
  ·omega
 ·intro i d' es' hd' hes'
  by_cases hlt : i < l.length
  ·rw [List.getElem?_append_left hlt] at hd'
   rw [List.getElem?_append_left (by omega)] at hes'
   refine (h7 i d' es' hd' hes').carry (fun b hF => hkeep b ?_ (h5 i b hF).2.2) (fun b hF => .inl ⟨hlt, hF⟩)
   have := (h5 i b hF).2.1
   omega
  ·have hil : i = l.length := by
    have := (List.getElem?_eq_some_iff.1 hd').1
    simp at this
    omega
   subst hil
   rw [List.getElem?_append_right (by omega)] at hd'
   rw [List.getElem?_append_right (by omega)] at hes'
   simp at hd'
   simp [e1] at hes'
   subst hd' hes'
   refine hd.carry (fun b hF => hkeep b (hS b hF).2 (fun e => ?_)) (fun b hF => .inr ⟨rfl, hF⟩)
   have := h4 b e
   have := (hS b hF).1
   omega
theorem Aside.join {S S' : Nat -> Prop} {a b c : World} (h : Aside S a b) (k : Aside S' b c) (hs : ∀ q, S' q -> q < a.heap.size -> S q) : Aside S a c :=
 ⟨k.os.trans h.os, k.tape.trans h.tape, k.output.trans h.output, Nat.le_trans h.size k.size, fun i hi hn => (k.block i (Nat.lt_of_lt_of_le hi h.size) (fun hq => hn (hs i hq hi))).trans (h.block i hi hn)⟩
theorem own_leaf {n : Nat} {S : Nat -> Prop} {w : World} {k num : Int} {f : Bool} {t : ByteArray} (hk : I64 k) (hn : I64 num) (ht : t.size <= 9223372036854775807) : OwnT (n + 1) S w ⟨k, f, num, t, [], []⟩ [.int .i64 k, .bool f, .int .i64 num, .string t, .slice none 0 0, .slice none 0 0] :=
 OwnT.into ⟨_, _, fun _ => False, fun _ => False, rfl, hk, hn, ht, fun _ h => h.elim, fun _ h => h.elim, ⟨none, 0, rfl, Nat.le_refl _, by omega, fun h => absurd h (by simp)⟩, ⟨none, 0, rfl, Nat.le_refl _, by omega, fun h => absurd h (by simp)⟩⟩
def listR (L : List SignD) (E : Int) (n d p m : Nat) : Res := if kindAt L p = 4 then .good (tList []) (p + 1) m else readJ L E n (.list d []) p m
def pairsR (L : List SignD) (E : Int) (n d p m : Nat) : Res := if kindAt L p = 2 then .good (tMap [] []) (p + 1) m else readJ L E n (.pairs d [] []) p m
def BadT (R : Nat -> Nat -> Flt -> World -> Prop) (b : Nat) (N : Nat) (f : Flt) (w : World) (e : Ending) (w' : World) : Prop :=
 ∃ (k : Int) (fl : Bool) (nu : Int) (t : ByteArray) (A4 : Option Addr) (n4 c4 : Nat) (A5 : Option Addr) (n5 c5 p' m' : Nat), e = .returned (.agg #[.int .i64 k, .bool fl, .int .i64 nu, .string t, .slice A4 n4 c4, .slice A5 n5 c5]) /\ R p' m' f w' /\ p' <= N /\ Aside (fun q => q = b) w w'
def GoodT (R : Nat -> Nat -> Flt -> World -> Prop) (b : Nat) (nT : Nat) (t : TreeD) (q m' : Nat) (w : World) (e : Ending) (w' : World) : Prop :=
 ∃ cs, e = .returned (.agg cs.toArray) /\ OwnT nT (fun x => w.heap.size <= x /\ x < w'.heap.size) w' t cs /\ R q m' flt0 w' /\ Aside (fun q => q = b) w w'
def ValE (R : Nat -> Nat -> Flt -> World -> Prop) (b N nT : Nat) (r : Res) (w : World) (e : Ending) (w' : World) : Prop := match r with
 | .bad f => BadT R b N f w e w'
 | .good t q m' => GoodT R b nT t q m' w e w'
theorem ValE.bad {R : Nat -> Nat -> Flt -> World -> Prop} {b N nT : Nat} {r : Res} {f : Flt} {w w' : World} {e : Ending} (hr : r = .bad f) (h : BadT R b N f w e w') : ValE R b N nT r w e w' := by subst hr; exact h
theorem ValE.good {R : Nat -> Nat -> Flt -> World -> Prop} {b N nT : Nat} {r : Res} {t : TreeD} {q m' : Nat} {w w' : World} {e : Ending} (hr : r = .good t q m') (h : GoodT R b nT t q m' w e w') : ValE R b N nT r w e w' := by subst hr; exact h
theorem ValE.isBad {R : Nat -> Nat -> Flt -> World -> Prop} {b N nT : Nat} {r : Res} {f : Flt} {w w' : World} {e : Ending} (hr : r = .bad f) (h : ValE R b N nT r w e w') : BadT R b N f w e w' := by subst hr; exact h
theorem ValE.isGood {R : Nat -> Nat -> Flt -> World -> Prop} {b N nT : Nat} {r : Res} {t : TreeD} {q m' : Nat} {w w' : World} {e : Ending} (hr : r = .good t q m') (h : ValE R b N nT r w e w') : GoodT R b nT t q m' w e w' := by subst hr; exact h
theorem readJ_form {L : List SignD} {E : Int} {n d p m : Nat} (h : ¬ (kindAt L p = 1 ∨ kindAt L p = 3 ∨ 7 <= kindAt L p)) : readJ L E (n + 1) (.value d) p m = .bad (badF L E 4 p) := by rw [readJ_value, if_pos h]
theorem readJ_deep {L : List SignD} {E : Int} {n d p m : Nat} (h : kindAt L p = 1 ∨ kindAt L p = 3 ∨ 7 <= kindAt L p) (h2 : 8 < d) : readJ L E (n + 1) (.value d) p m = .bad (badF L E 6 p) := by rw [readJ_value, if_neg (fun g => g h), if_pos h2]
theorem readJ_many {L : List SignD} {E : Int} {n d p m : Nat} (h : kindAt L p = 1 ∨ kindAt L p = 3 ∨ 7 <= kindAt L p) (h2 : ¬ 8 < d) (h3 : 300 <= m) : readJ L E (n + 1) (.value d) p m = .bad (badF L E 7 p) := by rw [readJ_value, if_neg (fun g => g h), if_neg h2, if_pos h3]
theorem readJ_go {L : List SignD} {E : Int} {n d p m : Nat} {x : SignD} (hx : L[p]? = some x) (h : kindAt L p = 1 ∨ kindAt L p = 3 ∨ 7 <= kindAt L p) (h2 : ¬ 8 < d) (h3 : ¬ 300 <= m) : readJ L E (n + 1) (.value d) p m =
  if x.kind = 7 then (if 400 < x.text.size then .bad (badF L E 8 p) else .good (tText x.text) (p + 1) (m + 1))
  else if x.kind = 8 then .good (tInt x.num) (p + 1) (m + 1)
  else if x.kind = 11 then .good tNull (p + 1) (m + 1)
  else if x.kind = 3 then listR L E n d (p + 1) (m + 1)
  else if x.kind = 1 then pairsR L E n d (p + 1) (m + 1)
  else .good (tFlag (x.kind == 9)) (p + 1) (m + 1) := by
 rw [readJ_value, if_neg (fun g => g h), if_neg h2, if_neg h3, hx]
 rfl
def T_valI (L : List SignD) (E : Int) (b n : Nat) : Prop := ∀ (d p m : Nat) (w : World), 1 <= d -> d <= 9 -> p <= L.length -> m <= 300 -> needJ L p (.value d) <= n -> RdAt L E b p m flt0 w ->
 Calls Tryz.prog 73 #[.pointer (some ⟨b, 0, none⟩), .int .i64 d] w (ValE (RdAt L E b) b L.length (10 - d) (readJ L E n (.value d) p m) w)
def T_listI (L : List SignD) (E : Int) (b n : Nat) : Prop := ∀ (d p m : Nat) (w : World), 1 <= d -> d <= 8 -> p <= L.length -> m <= 300 -> needJ L p (.list d []) <= n -> RdAt L E b p m flt0 w ->
 Calls Tryz.prog 133 #[.pointer (some ⟨b, 0, none⟩), .int .i64 d] w (ValE (RdAt L E b) b L.length (10 - d) (listR L E n d p m) w)
def T_pairsI (L : List SignD) (E : Int) (b n : Nat) : Prop := ∀ (d p m : Nat) (w : World), 1 <= d -> d <= 8 -> p <= L.length -> m <= 300 -> needJ L p (.pairs d [] []) <= n -> RdAt L E b p m flt0 w ->
 Calls Tryz.prog 134 #[.pointer (some ⟨b, 0, none⟩), .int .i64 d] w (ValE (RdAt L E b) b L.length (10 - d) (pairsR L E n d p m) w)
theorem c_rd_TextTree (t : ByteArray) (w : World) : Calls Tryz.prog 135 #[.string t] w fun e w' => e = .returned (.agg #[.int .i64 4, .bool false, .int .i64 0, .string t, .slice none 0 0, .slice none 0 0]) /\ Below w.heap.size w w' := by
 go_enter Tryz.func135, Tryz.ntmps135
 go_wp2_with fail
 exact bodyPost_ret (v := .agg #[.int .i64 4, .bool false, .int .i64 0, .string t, .slice none 0 0, .slice none 0 0]) (by simp only [results, Tryz.results135]; go_simp) rfl ⟨rfl, bel⟩
theorem c_rd_IntTree (x : Int) (w : World) : Calls Tryz.prog 136 #[.int .i64 x] w fun e w' => e = .returned (.agg #[.int .i64 3, .bool false, .int .i64 x, .string ⟨#[]⟩, .slice none 0 0, .slice none 0 0]) /\ Below w.heap.size w w' := by
 go_enter Tryz.func136, Tryz.ntmps136
 go_wp2_with fail
 exact bodyPost_ret (v := .agg #[.int .i64 3, .bool false, .int .i64 x, .string ⟨#[]⟩, .slice none 0 0, .slice none 0 0]) (by simp only [results, Tryz.results136]; go_simp) rfl ⟨rfl, bel⟩
end Go.Proofs.YtohcpifekcehjaaGreatDoor
