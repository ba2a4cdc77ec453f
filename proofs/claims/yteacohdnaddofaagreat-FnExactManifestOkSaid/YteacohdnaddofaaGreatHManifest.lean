/- Manifests as data, and contracts of the laws' own functions on them. No conditions. -/
import Derived.Test.YteacohdnaddofaaGreatHPod
import Derived.Test.YteacohdnaddofaaGreatHHost
import Derived.Test.YteacohdnaddofaaGreatCum2
namespace Go.Proofs.YteacohdnaddofaaGreat
open Go.RowKit Go.ChangeShapes Go.WideShapes Go.Deep

structure Manifest where
  kind : Int
  pod : Pod
  host : Host
def C_Manifest (lo hi : Nat) (w : World) (d : Manifest) (cs : List Value) : Prop := ∃ cp ch, cs = .int .i64 d.kind :: (cp ++ ch) ∧ I64 d.kind ∧ C_Pod lo hi w d.pod cp ∧ C_Host lo hi w d.host ch
theorem C_Manifest.keep {lo hi lo' hi' : Nat} {w w' : World} {d : Manifest} {cs : List Value} (h : C_Manifest lo hi w d cs) (hs : Same lo hi w w') (h1 : lo' ≤ lo) (h2 : hi ≤ hi') : C_Manifest lo' hi' w' d cs := by
  obtain ⟨cp, ch, hc, a0, a1, a2⟩ := h
  exact ⟨cp, ch, hc, a0, a1.keep hs h1 h2, a2.keep hs h1 h2⟩
theorem C_Manifest.now {lo : Nat} {w w' : World} {d : Manifest} {cs : List Value} (h : C_Manifest lo w.heap.size w d cs) (hb : Below w.heap.size w w') : C_Manifest lo w'.heap.size w' d cs := h.keep (same_below hb) (Nat.le_refl _) hb.size
theorem heap_mat {w : World} {o : Obj} {b : Nat} (h : b = w.heap.size) : (w.alloc o).heap[b]? = some o := by subst h; exact heap_alloc_new w o
theorem C_Manifest.full {lo hi : Nat} {w : World} {d : Manifest} {cs : List Value} (h : C_Manifest lo hi w d cs) : ∃ A1 c1 A5 c5 A6 c6 B1 e1 B5 e5, cs = [.int .i64 d.kind, .string d.pod.name, .slice A1 d.pod.labels.length c1, .int .i64 d.pod.cpu, .int .i64 d.pod.mem, .int .i64 d.pod.rank, .slice A5 d.pod.needs.length c5, .slice A6 d.pod.tolerances.length c6, .string d.host.name, .slice B1 d.host.labels.length e1, .int .i64 d.host.cpu, .int .i64 d.host.mem, .int .i64 d.host.slots, .slice B5 d.host.taints.length e5] ∧ I64 d.kind ∧ C_Pod lo hi w d.pod [.string d.pod.name, .slice A1 d.pod.labels.length c1, .int .i64 d.pod.cpu, .int .i64 d.pod.mem, .int .i64 d.pod.rank, .slice A5 d.pod.needs.length c5, .slice A6 d.pod.tolerances.length c6] ∧ C_Host lo hi w d.host [.string d.host.name, .slice B1 d.host.labels.length e1, .int .i64 d.host.cpu, .int .i64 d.host.mem, .int .i64 d.host.slots, .slice B5 d.host.taints.length e5] := by
  obtain ⟨cp, ch, rfl, a0, a1, a2⟩ := h
  have b1 := a1
  have b2 := a2
  obtain ⟨A1, c1, A5, c5, A6, c6, rfl⟩ := C_Pod.open b1
  obtain ⟨B1, e1, B5, e5, rfl⟩ := C_Host.open b2
  exact ⟨A1, c1, A5, c5, A6, c6, B1, e1, B5, e5, rfl, a0, a1, a2⟩
theorem C_Manifest.open {lo hi : Nat} {w : World} {d : Manifest} {cs : List Value} (h : C_Manifest lo hi w d cs) : ∃ A1 c1 A5 c5 A6 c6 B1 e1 B5 e5, cs = [.int .i64 d.kind, .string d.pod.name, .slice A1 d.pod.labels.length c1, .int .i64 d.pod.cpu, .int .i64 d.pod.mem, .int .i64 d.pod.rank, .slice A5 d.pod.needs.length c5, .slice A6 d.pod.tolerances.length c6, .string d.host.name, .slice B1 d.host.labels.length e1, .int .i64 d.host.cpu, .int .i64 d.host.mem, .int .i64 d.host.slots, .slice B5 d.host.taints.length e5] := by
  obtain ⟨A1, c1, A5, c5, A6, c6, B1, e1, B5, e5, h, -⟩ := h.full
  exact ⟨A1, c1, A5, c5, A6, c6, B1, e1, B5, e5, h⟩
def nManifest (d : Manifest) : Nat := nPod d.pod + nHost d.host
section
variable {H : Type} {enc : TypeId × Value → H} {w : World} {base : Nat} {spare : Nat → Bool} {held : Bool} {fuel : Nat} {cs : List Value} {x : DataW H × List MemPlace}
theorem o_Manifest (h : DataW.trod enc Tryz.prog w base spare held fuel 31 cs = some x) : ∃ d, C_Manifest 0 w.heap.size w d cs := by
  obtain ⟨hl, n, -, hf⟩ := struct_cells Tryz.underlying31 h
  rw [show Tryz.prog.cellsOf 31 = 14 from by kernel_rfl] at hl
  have e0 : ∃ y, DataW.trod enc Tryz.prog w base spare held n 3 ((cs.drop 0).take (Tryz.prog.cellsOf 3)) = some y := hf 0 _ rfl
  have e1 : ∃ y, DataW.trod enc Tryz.prog w base spare held n 26 ((cs.drop 1).take (Tryz.prog.cellsOf 26)) = some y := hf 1 _ rfl
  have e2 : ∃ y, DataW.trod enc Tryz.prog w base spare held n 29 ((cs.drop 8).take (Tryz.prog.cellsOf 29)) = some y := hf 2 _ rfl
  rw [show Tryz.prog.cellsOf 3 = 1 from by kernel_rfl] at e0
  rw [show Tryz.prog.cellsOf 26 = 7 from by kernel_rfl] at e1
  rw [show Tryz.prog.cellsOf 29 = 6 from by kernel_rfl] at e2
  obtain ⟨y0, e0⟩ := e0
  obtain ⟨y1, e1⟩ := e1
  obtain ⟨y2, e2⟩ := e2
  obtain ⟨k, g0, b0⟩ := cell_int Tryz.underlying3 e0
  obtain ⟨p, b1⟩ := o_Pod e1
  obtain ⟨q, b2⟩ := o_Host e2
  refine ⟨⟨k, p, q⟩, _, _, ?_, b0, b1, b2⟩
  show cs = Value.int .i64 k :: (((cs.drop 1).take 7) ++ ((cs.drop 8).take 6))
  have h0 : cs.take 1 = [Value.int .i64 k] := by simpa using g0
  have h2 : (cs.drop 8).take 6 = cs.drop 8 := List.take_of_length_le (by simp; omega)
  have h3 : (cs.drop 1).take 7 ++ cs.drop 8 = cs.drop 1 := by
    have := List.take_append_drop 7 (cs.drop 1)
    rwa [List.drop_drop] at this
  have h4 := List.take_append_drop 1 cs
  rw [h2, h3, ← List.singleton_append, ← h0, h4]
def R_Manifest (w : World) (d : Manifest) (v : Value) : Prop := ∃ cs, v = .agg cs.toArray ∧ C_Manifest 0 w.heap.size w d cs
variable {r : Reach} {b0 : Nat} {v : Value} {d : DataW H} {p : List MemPlace}
set_option maxRecDepth 100000 in
theorem r_Manifest (hv : Value.okWide Tryz.prog w r b0 31 v) (h : DataW.Trod enc Tryz.prog w base spare held 31 v d p) : ∃ x, R_Manifest w x v := by
  obtain ⟨cs, rfl, _⟩ := okWide_struct Tryz.underlying31 hv
  obtain ⟨fuel, hf⟩ := h
  obtain ⟨x, hx⟩ := o_Manifest hf
  exact ⟨x, cs.toList, by simp, hx⟩
end
theorem c_laws_szManifest (d : Manifest) (cs : List Value) (left : Int) (w : World) (lo : Nat) (h : C_Manifest lo w.heap.size w d cs) (h3 : 0 ≤ left) (h4 : left ≤ 1048576) :
    Calls Tryz.prog 4 #[.agg cs.toArray, .int .i64 left] w fun e w' => e = .returned (.int .i64 (szI left (nManifest d))) ∧ Below w.heap.size w w' := by
  obtain ⟨A1, c1, A5, c5, A6, c6, B1, e1, B5, e5, rfl, a0, a1, a2⟩ := h.full
  by_cases g1 : left - (nPod d.pod : Nat) < 0
  · have Hf := Lib.hid (show szI left (nManifest d) = -1 by unfold nManifest szI; rw [if_neg (by omega)])
    have z1 : szI left (nPod d.pod) = -1 := szI_neg (by omega)
    go_enter Tryz.func4, Tryz.ntmps4
    go_wp2_with (first | (go_at_call 9; refine (c_laws_szPod _ _ _ _ _ (C_Pod.now (by assumption) (by repeat (first | (with_reducible exact Below.refl _ _) | (with_reducible refine ext_alloc ?_) | ((with_reducible refine ext_setCell ?_ ?_); focus (simp; (try omega))) | (with_reducible refine below_drewN ?_ _) | (with_reducible refine Below.drew ?_) | (with_reducible (apply ext_step; assumption))))) (by omega) (by omega)).mono ?_; rintro e w1 ⟨rfl, hb⟩; (first | (have hcu2 := Cum.join hcu hb; (try clear hcu); (try clear hc); (try clear hfz); (try clear hsz); (try clear hs0); (try clear hs1); (try clear hs2); (try clear hs3); (try clear hs4); ) | have hcu2 := Cum.mk hb); have hcu := hcu2; clear hcu2; obtain ⟨hc, hfz⟩ := bcell hcu.h; have hsz := hcu.h.size; (try simp at hsz); (try have hs0 := lt_of_succ_le hsz); (try (have hs1 := lt_pred hsz; (try (have hs2 := lt_pred hs1; (try (have hs3 := lt_pred hs2; (try have hs4 := lt_pred hs3)))))))) | (go_at_call 10; refine (c_laws_szHost _ _ _ _ _ (C_Host.now (by assumption) (by repeat (first | (with_reducible exact Below.refl _ _) | (with_reducible refine ext_alloc ?_) | ((with_reducible refine ext_setCell ?_ ?_); focus (simp; (try omega))) | (with_reducible refine below_drewN ?_ _) | (with_reducible refine Below.drew ?_) | (with_reducible (apply ext_step; assumption))))) (by omega) (by omega)).mono ?_; rintro e w1 ⟨rfl, hb⟩; (first | (have hcu2 := Cum.join hcu hb; (try clear hcu); (try clear hc); (try clear hfz); (try clear hsz); (try clear hs0); (try clear hs1); (try clear hs2); (try clear hs3); (try clear hs4); ) | have hcu2 := Cum.mk hb); have hcu := hcu2; clear hcu2; obtain ⟨hc, hfz⟩ := bcell hcu.h; have hsz := hcu.h.size; (try simp at hsz); (try have hs0 := lt_of_succ_le hsz); (try (have hs1 := lt_pred hsz; (try (have hs2 := lt_pred hs1; (try (have hs3 := lt_pred hs2; (try have hs4 := lt_pred hs3)))))))))
    go_ret
    exact ⟨ret_int Hf.out.symm, (by repeat (first | (with_reducible exact Below.refl _ _) | (with_reducible refine ext_alloc ?_) | ((with_reducible refine ext_setCell ?_ ?_); focus (simp; (try omega))) | (with_reducible refine below_drewN ?_ _) | (with_reducible refine Below.drew ?_) | (with_reducible (apply ext_step; assumption))))⟩
  have z1 : szI left (nPod d.pod) = left - (nPod d.pod : Nat) := szI_pos (by omega)
  by_cases g2 : left - (nPod d.pod : Nat) - (nHost d.host : Nat) < 0
  · have Hf := Lib.hid (show szI left (nManifest d) = -1 by unfold nManifest szI; rw [if_neg (by omega)])
    have z2 : szI (left - (nPod d.pod : Nat)) (nHost d.host) = -1 := szI_neg (by omega)
    go_enter Tryz.func4, Tryz.ntmps4
    go_wp2_with (first | (go_at_call 9; refine (c_laws_szPod _ _ _ _ _ (C_Pod.now (by assumption) (by repeat (first | (with_reducible exact Below.refl _ _) | (with_reducible refine ext_alloc ?_) | ((with_reducible refine ext_setCell ?_ ?_); focus (simp; (try omega))) | (with_reducible refine below_drewN ?_ _) | (with_reducible refine Below.drew ?_) | (with_reducible (apply ext_step; assumption))))) (by omega) (by omega)).mono ?_; rintro e w1 ⟨rfl, hb⟩; (first | (have hcu2 := Cum.join hcu hb; (try clear hcu); (try clear hc); (try clear hfz); (try clear hsz); (try clear hs0); (try clear hs1); (try clear hs2); (try clear hs3); (try clear hs4); ) | have hcu2 := Cum.mk hb); have hcu := hcu2; clear hcu2; obtain ⟨hc, hfz⟩ := bcell hcu.h; have hsz := hcu.h.size; (try simp at hsz); (try have hs0 := lt_of_succ_le hsz); (try (have hs1 := lt_pred hsz; (try (have hs2 := lt_pred hs1; (try (have hs3 := lt_pred hs2; (try have hs4 := lt_pred hs3)))))))) | (go_at_call 10; refine (c_laws_szHost _ _ _ _ _ (C_Host.now (by assumption) (by repeat (first | (with_reducible exact Below.refl _ _) | (with_reducible refine ext_alloc ?_) | ((with_reducible refine ext_setCell ?_ ?_); focus (simp; (try omega))) | (with_reducible refine below_drewN ?_ _) | (with_reducible refine Below.drew ?_) | (with_reducible (apply ext_step; assumption))))) (by omega) (by omega)).mono ?_; rintro e w1 ⟨rfl, hb⟩; (first | (have hcu2 := Cum.join hcu hb; (try clear hcu); (try clear hc); (try clear hfz); (try clear hsz); (try clear hs0); (try clear hs1); (try clear hs2); (try clear hs3); (try clear hs4); ) | have hcu2 := Cum.mk hb); have hcu := hcu2; clear hcu2; obtain ⟨hc, hfz⟩ := bcell hcu.h; have hsz := hcu.h.size; (try simp at hsz); (try have hs0 := lt_of_succ_le hsz); (try (have hs1 := lt_pred hsz; (try (have hs2 := lt_pred hs1; (try (have hs3 := lt_pred hs2; (try have hs4 := lt_pred hs3)))))))))
    go_ret
    exact ⟨ret_int Hf.out.symm, (by repeat (first | (with_reducible exact Below.refl _ _) | (with_reducible refine ext_alloc ?_) | ((with_reducible refine ext_setCell ?_ ?_); focus (simp; (try omega))) | (with_reducible refine below_drewN ?_ _) | (with_reducible refine Below.drew ?_) | (with_reducible (apply ext_step; assumption))))⟩
  have z2 : szI (left - (nPod d.pod : Nat)) (nHost d.host) = left - (nPod d.pod : Nat) - (nHost d.host : Nat) := szI_pos (by omega)
  have Hf := Lib.hid (show szI left (nManifest d) = left - (nPod d.pod : Nat) - (nHost d.host : Nat) by unfold nManifest szI; rw [if_pos (by omega)]; omega)
  go_enter Tryz.func4, Tryz.ntmps4
  go_wp2_with (first | (go_at_call 9; refine (c_laws_szPod _ _ _ _ _ (C_Pod.now (by assumption) (by repeat (first | (with_reducible exact Below.refl _ _) | (with_reducible refine ext_alloc ?_) | ((with_reducible refine ext_setCell ?_ ?_); focus (simp; (try omega))) | (with_reducible refine below_drewN ?_ _) | (with_reducible refine Below.drew ?_) | (with_reducible (apply ext_step; assumption))))) (by omega) (by omega)).mono ?_; rintro e w1 ⟨rfl, hb⟩; (first | (have hcu2 := Cum.join hcu hb; (try clear hcu); (try clear hc); (try clear hfz); (try clear hsz); (try clear hs0); (try clear hs1); (try clear hs2); (try clear hs3); (try clear hs4); ) | have hcu2 := Cum.mk hb); have hcu := hcu2; clear hcu2; obtain ⟨hc, hfz⟩ := bcell hcu.h; have hsz := hcu.h.size; (try simp at hsz); (try have hs0 := lt_of_succ_le hsz); (try (have hs1 := lt_pred hsz; (try (have hs2 := lt_pred hs1; (try (have hs3 := lt_pred hs2; (try have hs4 := lt_pred hs3)))))))) | (go_at_call 10; refine (c_laws_szHost _ _ _ _ _ (C_Host.now (by assumption) (by repeat (first | (with_reducible exact Below.refl _ _) | (with_reducible refine ext_alloc ?_) | ((with_reducible refine ext_setCell ?_ ?_); focus (simp; (try omega))) | (with_reducible refine below_drewN ?_ _) | (with_reducible refine Below.drew ?_) | (with_reducible (apply ext_step; assumption))))) (by omega) (by omega)).mono ?_; rintro e w1 ⟨rfl, hb⟩; (first | (have hcu2 := Cum.join hcu hb; (try clear hcu); (try clear hc); (try clear hfz); (try clear hsz); (try clear hs0); (try clear hs1); (try clear hs2); (try clear hs3); (try clear hs4); ) | have hcu2 := Cum.mk hb); have hcu := hcu2; clear hcu2; obtain ⟨hc, hfz⟩ := bcell hcu.h; have hsz := hcu.h.size; (try simp at hsz); (try have hs0 := lt_of_succ_le hsz); (try (have hs1 := lt_pred hsz; (try (have hs2 := lt_pred hs1; (try (have hs3 := lt_pred hs2; (try have hs4 := lt_pred hs3)))))))))
  go_ret
  exact ⟨ret_int Hf.out.symm, (by repeat (first | (with_reducible exact Below.refl _ _) | (with_reducible refine ext_alloc ?_) | ((with_reducible refine ext_setCell ?_ ?_); focus (simp; (try omega))) | (with_reducible refine below_drewN ?_ _) | (with_reducible refine Below.drew ?_) | (with_reducible (apply ext_step; assumption))))⟩
set_option maxHeartbeats 1000000 in
theorem c_laws_toManifest (d : Manifest) (cs : List Value) (w : World) (lo : Nat) (h : C_Manifest lo w.heap.size w d cs) (hn : nManifest d ≤ 1048576) :
    Calls Tryz.prog 6 #[.agg cs.toArray] w fun e w' => ∃ cs', e = .returned (.agg cs'.toArray) ∧ C_Manifest w.heap.size w'.heap.size w' d cs' ∧ Below w.heap.size w w' := by
  obtain ⟨A1, c1, A5, c5, A6, c6, B1, e1, B5, e5, rfl, a0, a1, a2⟩ := h.full
  unfold nManifest at hn
  go_enter Tryz.func6, Tryz.ntmps6
  go_wp2_with fail
  refine (c_laws_toPod d.pod _ _ _ (a1.now (by repeat (first | (with_reducible exact Below.refl _ _) | (with_reducible refine ext_alloc ?_) | ((with_reducible refine ext_setCell ?_ ?_); focus (simp; (try omega))) | (with_reducible refine below_drewN ?_ _) | (with_reducible refine Below.drew ?_) | (with_reducible (apply ext_step; assumption))))) (by omega)).mono ?_
  rintro e w1 ⟨cs1, rfl, r1, hb1⟩
  obtain ⟨D1, f1, D5, f5, D6, f6, rfl⟩ := C_Pod.open r1
  have st1 := hb1.size
  (try simp at st1)
  have hA := (hb1.block w.heap.size (by simp; try omega)).trans ((Below.heap_alloc _ _ _ (by simp; try omega)).trans ((Below.heap_alloc _ _ _ (by simp; try omega)).trans (heap_alloc_new _ _)))
  have hZ := (hb1.block (w.heap.size + 1) (by simp; try omega)).trans ((Below.heap_alloc _ _ _ (by simp; try omega)).trans (heap_mat (by simp)))
  have hT := (hb1.block (w.heap.size + 2) (by simp; try omega)).trans (heap_mat (by simp))
  have x8 := cell_of_row w1 (w.heap.size) 8 _ _ _ hA
  have x9 := cell_of_row w1 (w.heap.size) 9 _ _ _ hA
  have x10 := cell_of_row w1 (w.heap.size) 10 _ _ _ hA
  have x11 := cell_of_row w1 (w.heap.size) 11 _ _ _ hA
  have x12 := cell_of_row w1 (w.heap.size) 12 _ _ _ hA
  have x13 := cell_of_row w1 (w.heap.size) 13 _ _ _ hA
  simp at x8 x9 x10 x11 x12 x13
  have y1 := cell_of_row w1 (w.heap.size + 2) 1 _ _ _ hT
  have y2 := cell_of_row w1 (w.heap.size + 2) 2 _ _ _ hT
  have y3 := cell_of_row w1 (w.heap.size + 2) 3 _ _ _ hT
  have y4 := cell_of_row w1 (w.heap.size + 2) 4 _ _ _ hT
  have y5 := cell_of_row w1 (w.heap.size + 2) 5 _ _ _ hT
  have y6 := cell_of_row w1 (w.heap.size + 2) 6 _ _ _ hT
  have y7 := cell_of_row w1 (w.heap.size + 2) 7 _ _ _ hT
  simp at y1 y2 y3 y4 y5 y6 y7
  have yf := fun o => frozen_row hT o
  have HZ := Lib.hid hZ
  have HT := Lib.hid hT
  have Hb1 := Lib.hid hb1
  clear hA hZ hT
  go_wp2_with fail
  refine (c_laws_toHost d.host _ _ _ (a2.now (by repeat (first | (with_reducible exact Below.refl _ _) | (with_reducible refine ext_alloc ?_) | ((with_reducible refine ext_setCell ?_ ?_); focus (simp; (try omega))) | (with_reducible refine below_drewN ?_ _) | (with_reducible refine Below.drew ?_) | (with_reducible (apply ext_step; assumption))))) (by omega)).mono ?_
  rintro e w2 ⟨cs2, rfl, r2, hb2⟩
  obtain ⟨E1, g1, E5, g5, rfl⟩ := C_Host.open r2
  have st2 := hb2.size
  (try simp at st2)
  have hT2 := (hb2.block (w.heap.size + 2) (by simp; try omega)).trans (heap_setCell_same _ (w.heap.size + 2) 7 _ _ (.slice D6 d.pod.tolerances.length f6) (heap_setCell_same _ (w.heap.size + 2) 6 _ _ (.slice D5 d.pod.needs.length f5) (heap_setCell_same _ (w.heap.size + 2) 5 _ _ (.int .i64 d.pod.rank) (heap_setCell_same _ (w.heap.size + 2) 4 _ _ (.int .i64 d.pod.mem) (heap_setCell_same _ (w.heap.size + 2) 3 _ _ (.int .i64 d.pod.cpu) (heap_setCell_same _ (w.heap.size + 2) 2 _ _ (.slice D1 d.pod.labels.length f1) (heap_setCell_same _ (w.heap.size + 2) 1 _ _ (.string d.pod.name) HT.out)))))))
  have hZ2 := (hb2.block (w.heap.size + 1) (by simp; try omega)).trans ((Below.heap_setCell _ _ _ _ (by simp; try omega)).trans ((Below.heap_setCell _ _ _ _ (by simp; try omega)).trans ((Below.heap_setCell _ _ _ _ (by simp; try omega)).trans ((Below.heap_setCell _ _ _ _ (by simp; try omega)).trans ((Below.heap_setCell _ _ _ _ (by simp; try omega)).trans ((Below.heap_setCell _ _ _ _ (by simp; try omega)).trans ((Below.heap_setCell _ _ _ _ (by simp; try omega)).trans HZ.out)))))))
  simp at hT2
  clear x8 x9 x10 x11 x12 x13 y1 y2 y3 y4 y5 y6 y7 yf
  have u0 := cell_of_row w2 (w.heap.size + 2) 0 _ _ _ hT2
  have u1 := cell_of_row w2 (w.heap.size + 2) 1 _ _ _ hT2
  have u2 := cell_of_row w2 (w.heap.size + 2) 2 _ _ _ hT2
  have u3 := cell_of_row w2 (w.heap.size + 2) 3 _ _ _ hT2
  have u4 := cell_of_row w2 (w.heap.size + 2) 4 _ _ _ hT2
  have u5 := cell_of_row w2 (w.heap.size + 2) 5 _ _ _ hT2
  have u6 := cell_of_row w2 (w.heap.size + 2) 6 _ _ _ hT2
  have u7 := cell_of_row w2 (w.heap.size + 2) 7 _ _ _ hT2
  have u8 := cell_of_row w2 (w.heap.size + 2) 8 _ _ _ hT2
  have u9 := cell_of_row w2 (w.heap.size + 2) 9 _ _ _ hT2
  have u10 := cell_of_row w2 (w.heap.size + 2) 10 _ _ _ hT2
  have u11 := cell_of_row w2 (w.heap.size + 2) 11 _ _ _ hT2
  have u12 := cell_of_row w2 (w.heap.size + 2) 12 _ _ _ hT2
  have u13 := cell_of_row w2 (w.heap.size + 2) 13 _ _ _ hT2
  simp at u0 u1 u2 u3 u4 u5 u6 u7 u8 u9 u10 u11 u12 u13
  have v0 := cell_of_row w2 (w.heap.size + 1) 0 _ _ _ hZ2
  have v1 := cell_of_row w2 (w.heap.size + 1) 1 _ _ _ hZ2
  have v2 := cell_of_row w2 (w.heap.size + 1) 2 _ _ _ hZ2
  have v3 := cell_of_row w2 (w.heap.size + 1) 3 _ _ _ hZ2
  have v4 := cell_of_row w2 (w.heap.size + 1) 4 _ _ _ hZ2
  have v5 := cell_of_row w2 (w.heap.size + 1) 5 _ _ _ hZ2
  have v6 := cell_of_row w2 (w.heap.size + 1) 6 _ _ _ hZ2
  have v7 := cell_of_row w2 (w.heap.size + 1) 7 _ _ _ hZ2
  have v8 := cell_of_row w2 (w.heap.size + 1) 8 _ _ _ hZ2
  have v9 := cell_of_row w2 (w.heap.size + 1) 9 _ _ _ hZ2
  have v10 := cell_of_row w2 (w.heap.size + 1) 10 _ _ _ hZ2
  have v11 := cell_of_row w2 (w.heap.size + 1) 11 _ _ _ hZ2
  have v12 := cell_of_row w2 (w.heap.size + 1) 12 _ _ _ hZ2
  have v13 := cell_of_row w2 (w.heap.size + 1) 13 _ _ _ hZ2
  simp at v0 v1 v2 v3 v4 v5 v6 v7 v8 v9 v10 v11 v12 v13
  have uf := fun o => frozen_row hT2 o
  have vf := fun o => frozen_row hZ2 o
  clear hT2 hZ2
  go_wp2_with fail
  exact bodyPost_ret (v := .agg #[.int .i64 d.kind, .string d.pod.name, .slice D1 d.pod.labels.length f1, .int .i64 d.pod.cpu, .int .i64 d.pod.mem, .int .i64 d.pod.rank, .slice D5 d.pod.needs.length f5, .slice D6 d.pod.tolerances.length f6, .string d.host.name, .slice E1 d.host.labels.length g1, .int .i64 d.host.cpu, .int .i64 d.host.mem, .int .i64 d.host.slots, .slice E5 d.host.taints.length g5]) (by simp only [results, Tryz.results6]; go_simp) rfl ⟨[.int .i64 d.kind, .string d.pod.name, .slice D1 d.pod.labels.length f1, .int .i64 d.pod.cpu, .int .i64 d.pod.mem, .int .i64 d.pod.rank, .slice D5 d.pod.needs.length f5, .slice D6 d.pod.tolerances.length f6, .string d.host.name, .slice E1 d.host.labels.length g1, .int .i64 d.host.cpu, .int .i64 d.host.mem, .int .i64 d.host.slots, .slice E5 d.host.taints.length g5], rfl, ⟨_, _, rfl, a0, r1.keep (by repeat (first | (with_reducible exact Same.refl _ _ _) | ((with_reducible refine same_setCell ?_ ?_); focus (simp; (try omega))) | ((with_reducible refine same_alloc ?_ ?_); focus (simp; (try omega))) | (with_reducible refine same_drewN ?_ _) | ((with_reducible (apply same_step; assumption)); focus (simp; (try omega))))) (by simp; try omega) (by simp; try omega), r2.keep (by repeat (first | (with_reducible exact Same.refl _ _ _) | ((with_reducible refine same_setCell ?_ ?_); focus (simp; (try omega))) | ((with_reducible refine same_alloc ?_ ?_); focus (simp; (try omega))) | (with_reducible refine same_drewN ?_ _) | ((with_reducible (apply same_step; assumption)); focus (simp; (try omega))))) (by simp; try omega) (by simp; try omega)⟩, (by repeat (first | (with_reducible exact Below.refl _ _) | (with_reducible refine ext_alloc ?_) | ((with_reducible refine ext_setCell ?_ ?_); focus (simp; (try omega))) | (with_reducible refine below_drewN ?_ _) | (with_reducible refine Below.drew ?_) | (with_reducible (apply ext_step; assumption))))⟩
theorem c_laws_eqManifest (d : Manifest) (cs cs' : List Value) (w : World) (lo lo' : Nat) (h : C_Manifest lo w.heap.size w d cs) (h' : C_Manifest lo' w.heap.size w d cs') :
    Calls Tryz.prog 8 #[.agg cs.toArray, .agg cs'.toArray] w fun e w' => e = .returned (.bool true) ∧ Below w.heap.size w w' := by
  obtain ⟨A1, c1, A5, c5, A6, c6, B1, e1, B5, e5, rfl, a0, a1, a2⟩ := h.full
  obtain ⟨D1, f1, D5, f5, D6, f6, E1, g1, E5, g5, rfl, b0, b1, b2⟩ := h'.full
  go_enter Tryz.func8, Tryz.ntmps8
  go_wp2_with (first | (go_at_call 21; refine (c_laws_eqPod _ _ _ _ _ _ (C_Pod.now (by assumption) (by repeat (first | (with_reducible exact Below.refl _ _) | (with_reducible refine ext_alloc ?_) | ((with_reducible refine ext_setCell ?_ ?_); focus (simp; (try omega))) | (with_reducible refine below_drewN ?_ _) | (with_reducible refine Below.drew ?_) | (with_reducible (apply ext_step; assumption))))) (C_Pod.now (by assumption) (by repeat (first | (with_reducible exact Below.refl _ _) | (with_reducible refine ext_alloc ?_) | ((with_reducible refine ext_setCell ?_ ?_); focus (simp; (try omega))) | (with_reducible refine below_drewN ?_ _) | (with_reducible refine Below.drew ?_) | (with_reducible (apply ext_step; assumption)))))).mono ?_; rintro e w1 ⟨rfl, hb⟩; (first | (have hcu2 := Cum.join hcu hb; (try clear hcu); (try clear hc); (try clear hfz); (try clear hsz); (try clear hs0); (try clear hs1); (try clear hs2); (try clear hs3); (try clear hs4); ) | have hcu2 := Cum.mk hb); have hcu := hcu2; clear hcu2; obtain ⟨hc, hfz⟩ := bcell hcu.h; have hsz := hcu.h.size; (try simp at hsz); (try have hs0 := lt_of_succ_le hsz); (try (have hs1 := lt_pred hsz; (try (have hs2 := lt_pred hs1; (try (have hs3 := lt_pred hs2; (try have hs4 := lt_pred hs3)))))))) | (go_at_call 22; refine (c_laws_eqHost _ _ _ _ _ _ (C_Host.now (by assumption) (by repeat (first | (with_reducible exact Below.refl _ _) | (with_reducible refine ext_alloc ?_) | ((with_reducible refine ext_setCell ?_ ?_); focus (simp; (try omega))) | (with_reducible refine below_drewN ?_ _) | (with_reducible refine Below.drew ?_) | (with_reducible (apply ext_step; assumption))))) (C_Host.now (by assumption) (by repeat (first | (with_reducible exact Below.refl _ _) | (with_reducible refine ext_alloc ?_) | ((with_reducible refine ext_setCell ?_ ?_); focus (simp; (try omega))) | (with_reducible refine below_drewN ?_ _) | (with_reducible refine Below.drew ?_) | (with_reducible (apply ext_step; assumption)))))).mono ?_; rintro e w1 ⟨rfl, hb⟩; (first | (have hcu2 := Cum.join hcu hb; (try clear hcu); (try clear hc); (try clear hfz); (try clear hsz); (try clear hs0); (try clear hs1); (try clear hs2); (try clear hs3); (try clear hs4); ) | have hcu2 := Cum.mk hb); have hcu := hcu2; clear hcu2; obtain ⟨hc, hfz⟩ := bcell hcu.h; have hsz := hcu.h.size; (try simp at hsz); (try have hs0 := lt_of_succ_le hsz); (try (have hs1 := lt_pred hsz; (try (have hs2 := lt_pred hs1; (try (have hs3 := lt_pred hs2; (try have hs4 := lt_pred hs3)))))))))
  go_ret
  exact ⟨rfl, (by repeat (first | (with_reducible exact Below.refl _ _) | (with_reducible refine ext_alloc ?_) | ((with_reducible refine ext_setCell ?_ ?_); focus (simp; (try omega))) | (with_reducible refine below_drewN ?_ _) | (with_reducible refine Below.drew ?_) | (with_reducible (apply ext_step; assumption))))⟩
end Go.Proofs.YteacohdnaddofaaGreat
