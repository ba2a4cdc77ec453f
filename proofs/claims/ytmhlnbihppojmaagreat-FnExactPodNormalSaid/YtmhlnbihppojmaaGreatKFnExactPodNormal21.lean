/- Written by wip/tools/pack.py: the texts that FnExactPodNormal needs, without what it does not need. No conditions. -/
import Derived.Test.YtmhlnbihppojmaaGreatKFnExactPodNormal10
import Derived.Test.YtmhlnbihppojmaaGreatKFnExactPodNormal16
import Derived.Test.YtmhlnbihppojmaaGreatKFnExactPodNormal19
import Derived.Test.YtmhlnbihppojmaaGreatKFnExactPodNormal20
namespace Go.Proofs.YtmhlnbihppojmaaGreat
open Go.RowKit Go.Lib
theorem row7x {w : World} {b : Nat} {a0 a1 a2 a3 a4 a5 a6 : Value} {e : TypeId} (hr : w.heap[b]? = some (.cells #[a0, a1, a2, a3, a4, a5, a6] e (0, 0))) :
    w.cell? ⟨b, 0, none⟩ = some a0 ∧ w.cell? ⟨b, 1, none⟩ = some a1 ∧ w.cell? ⟨b, 2, none⟩ = some a2 ∧ w.cell? ⟨b, 3, none⟩ = some a3 ∧ w.cell? ⟨b, 4, none⟩ = some a4 ∧ w.cell? ⟨b, 5, none⟩ = some a5 ∧ w.cell? ⟨b, 6, none⟩ = some a6 ∧ ∀ o, w.frozen? ⟨b, o, none⟩ = false :=
  ⟨by rw [cell_of_row _ _ _ _ _ _ hr]; rfl, by rw [cell_of_row _ _ _ _ _ _ hr]; rfl, by rw [cell_of_row _ _ _ _ _ _ hr]; rfl, by rw [cell_of_row _ _ _ _ _ _ hr]; rfl, by rw [cell_of_row _ _ _ _ _ _ hr]; rfl, by rw [cell_of_row _ _ _ _ _ _ hr]; rfl, by rw [cell_of_row _ _ _ _ _ _ hr]; rfl, fun o => frozen_row hr o⟩
theorem set7_0 {w : World} {b : Nat} {a0 a1 a2 a3 a4 a5 a6 v : Value} {e : TypeId} (h : w.heap[b]? = some (.cells #[a0, a1, a2, a3, a4, a5, a6] e (0, 0))) : (w.setCell ⟨b, 0, none⟩ v).heap[b]? = some (.cells #[v, a1, a2, a3, a4, a5, a6] e (0, 0)) := heap_setCell_same w b 0 _ _ v h
theorem set7_1 {w : World} {b : Nat} {a0 a1 a2 a3 a4 a5 a6 v : Value} {e : TypeId} (h : w.heap[b]? = some (.cells #[a0, a1, a2, a3, a4, a5, a6] e (0, 0))) : (w.setCell ⟨b, 1, none⟩ v).heap[b]? = some (.cells #[a0, v, a2, a3, a4, a5, a6] e (0, 0)) := heap_setCell_same w b 1 _ _ v h
theorem set7_2 {w : World} {b : Nat} {a0 a1 a2 a3 a4 a5 a6 v : Value} {e : TypeId} (h : w.heap[b]? = some (.cells #[a0, a1, a2, a3, a4, a5, a6] e (0, 0))) : (w.setCell ⟨b, 2, none⟩ v).heap[b]? = some (.cells #[a0, a1, v, a3, a4, a5, a6] e (0, 0)) := heap_setCell_same w b 2 _ _ v h
theorem set7_3 {w : World} {b : Nat} {a0 a1 a2 a3 a4 a5 a6 v : Value} {e : TypeId} (h : w.heap[b]? = some (.cells #[a0, a1, a2, a3, a4, a5, a6] e (0, 0))) : (w.setCell ⟨b, 3, none⟩ v).heap[b]? = some (.cells #[a0, a1, a2, v, a4, a5, a6] e (0, 0)) := heap_setCell_same w b 3 _ _ v h
theorem set7_4 {w : World} {b : Nat} {a0 a1 a2 a3 a4 a5 a6 v : Value} {e : TypeId} (h : w.heap[b]? = some (.cells #[a0, a1, a2, a3, a4, a5, a6] e (0, 0))) : (w.setCell ⟨b, 4, none⟩ v).heap[b]? = some (.cells #[a0, a1, a2, a3, v, a5, a6] e (0, 0)) := heap_setCell_same w b 4 _ _ v h
theorem set7_5 {w : World} {b : Nat} {a0 a1 a2 a3 a4 a5 a6 v : Value} {e : TypeId} (h : w.heap[b]? = some (.cells #[a0, a1, a2, a3, a4, a5, a6] e (0, 0))) : (w.setCell ⟨b, 5, none⟩ v).heap[b]? = some (.cells #[a0, a1, a2, a3, a4, v, a6] e (0, 0)) := heap_setCell_same w b 5 _ _ v h
theorem set7_6 {w : World} {b : Nat} {a0 a1 a2 a3 a4 a5 a6 v : Value} {e : TypeId} (h : w.heap[b]? = some (.cells #[a0, a1, a2, a3, a4, a5, a6] e (0, 0))) : (w.setCell ⟨b, 6, none⟩ v).heap[b]? = some (.cells #[a0, a1, a2, a3, a4, a5, v] e (0, 0)) := heap_setCell_same w b 6 _ _ v h
def Own_Need (S : Nat → Prop) (w : World) (l : List Need) (v : Value) : Prop := ∃ L : List NeedV, L.map (·.d) = l ∧ OwnL S w L v
theorem Own_Need.carry {S S' : Nat → Prop} {w w' : World} {l : List Need} {v : Value} (h : Own_Need S w l v) (hs : ∀ b, S b → w'.heap[b]? = w.heap[b]?) (hS : ∀ b, S b → S' b) : Own_Need S' w' l v := by
  obtain ⟨L, h1, h2⟩ := h
  exact ⟨L, h1, h2.carry hs hS⟩
theorem Own_Need.toC {lo hi : Nat} {S : Nat → Prop} {w : World} {l : List Need} {v : Value} (h : Own_Need S w l v) (hS : ∀ b, S b → lo ≤ b ∧ b < hi) : Sl_Need lo hi w l v := by
  obtain ⟨L, rfl, h2⟩ := h
  exact h2.toC hS
theorem Own_Need.form {S : Nat → Prop} {w : World} {l : List Need} {v : Value} (h : Own_Need S w l v) : ∃ A c, v = .slice A l.length c := by
  obtain ⟨L, rfl, h2⟩ := h
  obtain ⟨A, c, rfl⟩ := h2.1.form
  exact ⟨A, c, by rw [List.length_map]⟩
/-- cs are the cells of pod d, its rows lie in blocks of S, no two in one block. -/
def OwnPod (S : Nat → Prop) (w : World) (d : Pod) (cs : List Value) : Prop := ∃ (v1 v5 v6 : Value) (S1 S5 S6 : Nat → Prop), cs = [.string d.name, v1, .int .i64 d.cpu, .int .i64 d.mem, .int .i64 d.rank, v5, v6] ∧ d.name.size ≤ 9223372036854775807 ∧ Own_Label S1 w d.labels v1 ∧ I64 d.cpu ∧ I64 d.mem ∧ I64 d.rank ∧ Own_Need S5 w d.needs v5 ∧ Own_Tolerance S6 w d.tolerances v6 ∧ (∀ b, S1 b → S b ∧ ¬ S5 b ∧ ¬ S6 b) ∧ (∀ b, S5 b → S b ∧ ¬ S6 b) ∧ (∀ b, S6 b → S b)
theorem OwnPod.carry {S S' : Nat → Prop} {w w' : World} {d : Pod} {cs : List Value} (h : OwnPod S w d cs) (hs : ∀ b, S b → w'.heap[b]? = w.heap[b]?) (hS : ∀ b, S b → S' b) : OwnPod S' w' d cs := by
  obtain ⟨v1, v5, v6, S1, S5, S6, rfl, a0, a1, a2, a3, a4, a5, a6, s1, s5, s6⟩ := h
  exact ⟨_, _, _, S1, S5, S6, rfl, a0, a1.carry (fun b hb => hs b (s1 b hb).1) (fun _ h => h), a2, a3, a4, a5.carry (fun b hb => hs b (s5 b hb).1) (fun _ h => h), a6.carry (fun b hb => hs b (s6 b hb)) (fun _ h => h), fun b hb => ⟨hS b (s1 b hb).1, (s1 b hb).2⟩, fun b hb => ⟨hS b (s5 b hb).1, (s5 b hb).2⟩, fun b hb => hS b (s6 b hb)⟩
theorem OwnPod.toC {lo hi : Nat} {S : Nat → Prop} {w : World} {d : Pod} {cs : List Value} (h : OwnPod S w d cs) (hS : ∀ b, S b → lo ≤ b ∧ b < hi) : C_Pod lo hi w d cs := by
  obtain ⟨v1, v5, v6, S1, S5, S6, rfl, a0, a1, a2, a3, a4, a5, a6, s1, s5, s6⟩ := h
  exact ⟨_, _, _, rfl, a0, a1.toC (fun b hb => hS b (s1 b hb).1), a2, a3, a4, a5.toC (fun b hb => hS b (s5 b hb).1), a6.toC (fun b hb => hS b (s6 b hb))⟩
theorem OwnPod.open {S : Nat → Prop} {w : World} {d : Pod} {cs : List Value} (h : OwnPod S w d cs) : ∃ A1 c1 A5 c5 A6 c6, cs = [.string d.name, .slice A1 d.labels.length c1, .int .i64 d.cpu, .int .i64 d.mem, .int .i64 d.rank, .slice A5 d.needs.length c5, .slice A6 d.tolerances.length c6] := by
  obtain ⟨v1, v5, v6, S1, S5, S6, rfl, a0, a1, a2, a3, a4, a5, a6, s1, s5, s6⟩ := h
  obtain ⟨A1, c1, rfl⟩ := a1.form
  obtain ⟨A5, c5, rfl⟩ := a5.form
  obtain ⟨A6, c6, rfl⟩ := a6.form
  exact ⟨A1, c1, A5, c5, A6, c6, rfl⟩
def podNB (d : Pod) : Pod × Bool :=
  if (sortLB d.labels).2 && (sortNB d.needs).2 && (sortTolB d.tolerances).2 && podB ⟨d.name, (sortLB d.labels).1, d.cpu, d.mem, d.rank, (sortNB d.needs).1, (sortTolB d.tolerances).1⟩ then (⟨d.name, (sortLB d.labels).1, d.cpu, d.mem, d.rank, (sortNB d.needs).1, (sortTolB d.tolerances).1⟩, true) else (d, false)
set_option maxHeartbeats 2000000 in
set_option maxRecDepth 10000 in
theorem c_spec_copyPod (d : Pod) (cs : List Value) (w : World) (lo : Nat) (h : C_Pod lo w.heap.size w d cs) (hn1 : d.labels.length ≤ 1048576) (hn5 : d.needs.length ≤ 1048576) (hn6 : d.tolerances.length ≤ 1048576) (hv : ∀ x ∈ d.needs, x.values.length ≤ 1048576) :
    Calls Tryz.prog 60 #[.agg cs.toArray] w fun e w' => ∃ cs', e = .returned (.agg cs'.toArray) ∧ C_Pod w.heap.size w'.heap.size w' d cs' ∧ Below w.heap.size w w' := by
  obtain ⟨v1, v5, v6, rfl, a0, a1, a2, a3, a4, a5, a6⟩ := h
  obtain ⟨A1, c1, rfl⟩ := a1.form
  obtain ⟨A5, c5, rfl⟩ := a5.form
  obtain ⟨A6, c6, rfl⟩ := a6.form
  have H1 := Lib.hid a1
  have H5 := Lib.hid a5
  have H6 := Lib.hid a6
  clear a1 a5 a6
  obtain ⟨i1, hi1, hz10, hz11, hz12⟩ := info_parts (show (Tryz.prog.info? 98).map (fun i => (i.zero, i.size, i.bytes)) = some (some (.agg #[.string ⟨#[]⟩, .string ⟨#[]⟩]), 2, 32) from by kernel_rfl)
  obtain ⟨i6, hi6, hz60, hz61, hz62⟩ := info_parts (show (Tryz.prog.info? 106).map (fun i => (i.zero, i.size, i.bytes)) = some (some (.agg #[.string ⟨#[]⟩, .bool false, .string ⟨#[]⟩, .int .i64 0]), 4, 48) from by kernel_rfl)
  go_enter Tryz.func60, Tryz.ntmps60
  have E1 : Below w.heap.size w ((w.alloc (.cells #[.string d.name, .slice A1 d.labels.length c1, .int .i64 d.cpu, .int .i64 d.mem, .int .i64 d.rank, .slice A5 d.needs.length c5, .slice A6 d.tolerances.length c6] 44)).alloc (.cells #[.string ⟨#[]⟩, .slice none 0 0, .int .i64 0, .int .i64 0, .int .i64 0, .slice none 0 0, .slice none 0 0] 44)) := bel
  obtain ⟨X1, x1, w1, hr1, R1, hb⟩ := fresh_row (P := Tryz.prog) (enc := encL) (C := C_Label) ((w.alloc (.cells #[.string d.name, .slice A1 d.labels.length c1, .int .i64 d.cpu, .int .i64 d.mem, .int .i64 d.rank, .slice A5 d.needs.length c5, .slice A6 d.tolerances.length c6] 44)).alloc (.cells #[.string ⟨#[]⟩, .slice none 0 0, .int .i64 0, .int .i64 0, .int .i64 0, .slice none 0 0, .slice none 0 0] 44)) 41 41 98 i1 (.agg #[.string ⟨#[]⟩, .string ⟨#[]⟩]) 2 32 Tryz.underlying41 hi1 hz10 hz11 hz12 rfl (by decide) encL_len encL_one encL_C (w.heap.size + 1 + 1) (by simp) d.labels A1 c1 lo (Sl_Label.now H1.out E1) (by unfold maxLen; omega) (by omega)
  clear E1
  have HR1 := Lib.hid R1
  clear R1
  have z_w1 := hb.size
  (try simp at z_w1)
  have K_w1 := hb
  clear hb
  have SP0 : w1.heap[w.heap.size]? = some (.cells #[.string d.name, .slice A1 d.labels.length c1, .int .i64 d.cpu, .int .i64 d.mem, .int .i64 d.rank, .slice A5 d.needs.length c5, .slice A6 d.tolerances.length c6] 44 (0, 0)) := (K_w1.block (w.heap.size) (by first | omega | (simp; omega) | (simp; done))).trans (by repeat (first | ((with_reducible refine heap_at ?_); (focus (simp; done))) | (with_reducible apply set7_0) | (with_reducible apply set7_1) | (with_reducible apply set7_2) | (with_reducible apply set7_3) | (with_reducible apply set7_4) | (with_reducible apply set7_5) | (with_reducible apply set7_6) | ((with_reducible refine (Below.heap_setCell _ _ _ _ ?_).trans ?_); focus (first | omega | (simp; omega) | (simp; done))) | ((with_reducible refine (Below.heap_alloc _ _ _ ?_).trans ?_); focus (first | omega | (simp; omega) | (simp; done)))))
  have SQ0 : w1.heap[w.heap.size + 1]? = some (.cells #[.string ⟨#[]⟩, .slice none 0 0, .int .i64 0, .int .i64 0, .int .i64 0, .slice none 0 0, .slice none 0 0] 44 (0, 0)) := (K_w1.block (w.heap.size + 1) (by first | omega | (simp; omega) | (simp; done))).trans (by repeat (first | ((with_reducible refine heap_at ?_); (focus (simp; done))) | (with_reducible apply set7_0) | (with_reducible apply set7_1) | (with_reducible apply set7_2) | (with_reducible apply set7_3) | (with_reducible apply set7_4) | (with_reducible apply set7_5) | (with_reducible apply set7_6) | ((with_reducible refine (Below.heap_setCell _ _ _ _ ?_).trans ?_); focus (first | omega | (simp; omega) | (simp; done))) | ((with_reducible refine (Below.heap_alloc _ _ _ ?_).trans ?_); focus (first | omega | (simp; omega) | (simp; done)))))
  obtain ⟨xP00, xP01, xP02, xP03, xP04, xP05, xP06, xP0f⟩ := row7x SP0
  have lP0 := row_lt SP0
  have mP0 := Nat.lt_succ_of_lt lP0
  have nP0 := Nat.lt_succ_of_lt mP0
  have RP0 := Lib.hid SP0
  clear SP0
  obtain ⟨xQ00, xQ01, xQ02, xQ03, xQ04, xQ05, xQ06, xQ0f⟩ := row7x SQ0
  have lQ0 := row_lt SQ0
  have mQ0 := Nat.lt_succ_of_lt lQ0
  have nQ0 := Nat.lt_succ_of_lt mQ0
  have RQ0 := Lib.hid SQ0
  clear SQ0
  have R1 := HR1.out
  clear HR1
  have W1 := Sl_Label.keep (RowE.sl encL_len R1 (C := C_Label) (Label_of_sl H1.out)) (Same.refl _ _ _) (show w.heap.size + 2 ≤ _ by simp) (Nat.le_refl _)
  clear R1
  have V1 := Lib.hid W1
  clear W1
  go_wp2_with (first | (at_builtin; refine wpList_append_of rfl (.tmp 3) (.tmp 5) 41 rfl _ _ _ w1 rfl rfl hr1 ?_))
  refine (c_l15Copy d.needs _ _ _ (Sl_Need.now H5.out bel) hn5 hv).mono ?_
  rintro e w2 ⟨L5, X5, x5, rfl, hL5, R5, N5, hb⟩
  have z_w2 := hb.size
  (try simp at z_w2)
  have K_w2 := hb
  clear hb
  have SP : w2.heap[w.heap.size]? = some (.cells #[.string d.name, .slice X1 d.labels.length x1, .int .i64 d.cpu, .int .i64 d.mem, .int .i64 d.rank, .slice A5 d.needs.length c5, .slice A6 d.tolerances.length c6] 44 (0, 0)) := (K_w2.block (w.heap.size) (by first | omega | (simp; omega) | (simp; done))).trans (by repeat (first | (exact RP0.out) | ((with_reducible refine heap_at ?_); (focus (simp; done))) | (with_reducible apply set7_0) | (with_reducible apply set7_1) | (with_reducible apply set7_2) | (with_reducible apply set7_3) | (with_reducible apply set7_4) | (with_reducible apply set7_5) | (with_reducible apply set7_6) | ((with_reducible refine (Below.heap_setCell _ _ _ _ ?_).trans ?_); focus (first | omega | (simp; omega) | (simp; done))) | ((with_reducible refine (Below.heap_alloc _ _ _ ?_).trans ?_); focus (first | omega | (simp; omega) | (simp; done)))))
  have SQ : w2.heap[w.heap.size + 1]? = some (.cells #[.string ⟨#[]⟩, .slice none 0 0, .int .i64 0, .int .i64 0, .int .i64 0, .slice none 0 0, .slice none 0 0] 44 (0, 0)) := (K_w2.block (w.heap.size + 1) (by first | omega | (simp; omega) | (simp; done))).trans (by repeat (first | (exact RQ0.out) | ((with_reducible refine heap_at ?_); (focus (simp; done))) | (with_reducible apply set7_0) | (with_reducible apply set7_1) | (with_reducible apply set7_2) | (with_reducible apply set7_3) | (with_reducible apply set7_4) | (with_reducible apply set7_5) | (with_reducible apply set7_6) | ((with_reducible refine (Below.heap_setCell _ _ _ _ ?_).trans ?_); focus (first | omega | (simp; omega) | (simp; done))) | ((with_reducible refine (Below.heap_alloc _ _ _ ?_).trans ?_); focus (first | omega | (simp; omega) | (simp; done)))))
  clear xP00 xP01 xP02 xP03 xP04 xP05 xP06 RP0 xP0f lP0 mP0 nP0
  clear xQ00 xQ01 xQ02 xQ03 xQ04 xQ05 xQ06 RQ0 xQ0f lQ0 mQ0 nQ0
  obtain ⟨xP0, xP1, xP2, xP3, xP4, xP5, xP6, xPf⟩ := row7x SP
  have lP := row_lt SP
  have mP := Nat.lt_succ_of_lt lP
  have nP := Nat.lt_succ_of_lt mP
  have RP := Lib.hid SP
  clear SP
  obtain ⟨xQ0, xQ1, xQ2, xQ3, xQ4, xQ5, xQ6, xQf⟩ := row7x SQ
  have lQ := row_lt SQ
  have mQ := Nat.lt_succ_of_lt lQ
  have nQ := Nat.lt_succ_of_lt mQ
  have RQ := Lib.hid SQ
  clear SQ
  have W5 : Sl_Need (w1.heap.size) w2.heap.size w2 d.needs (.slice X5 d.needs.length x5) := by have h9 := row_needs R5 N5; rw [hL5] at h9; exact Sl_Need.keep h9 (Same.refl _ _ _) (by simp) (Nat.le_refl _)
  clear hL5 R5 N5
  have V5 := Lib.hid W5
  clear W5
  have E6 : Below w.heap.size w (w2.setCell ⟨w.heap.size, 5, none⟩ (.slice X5 d.needs.length x5)) := bel
  obtain ⟨X6, x6, w3, hr6, R6, hb⟩ := fresh_row (P := Tryz.prog) (enc := encTol) (C := C_Tolerance) (w2.setCell ⟨w.heap.size, 5, none⟩ (.slice X5 d.needs.length x5)) 42 42 106 i6 (.agg #[.string ⟨#[]⟩, .bool false, .string ⟨#[]⟩, .int .i64 0]) 4 48 Tryz.underlying42 hi6 hz60 hz61 hz62 rfl (by decide) encTol_len encTol_one encTol_C (w2.heap.size) (by simp) d.tolerances A6 c6 lo (Sl_Tolerance.now H6.out E6) (by unfold maxLen; omega) (by omega)
  clear E6
  have HR6 := Lib.hid R6
  clear R6
  have z_w3 := hb.size
  (try simp at z_w3)
  have K_w3 := hb
  clear hb
  have SP2 : w3.heap[w.heap.size]? = some (.cells #[.string d.name, .slice X1 d.labels.length x1, .int .i64 d.cpu, .int .i64 d.mem, .int .i64 d.rank, .slice X5 d.needs.length x5, .slice A6 d.tolerances.length c6] 44 (0, 0)) := (K_w3.block (w.heap.size) (by first | omega | (simp; omega) | (simp; done))).trans (by repeat (first | (exact RP.out) | ((with_reducible refine heap_at ?_); (focus (simp; done))) | (with_reducible apply set7_0) | (with_reducible apply set7_1) | (with_reducible apply set7_2) | (with_reducible apply set7_3) | (with_reducible apply set7_4) | (with_reducible apply set7_5) | (with_reducible apply set7_6) | ((with_reducible refine (Below.heap_setCell _ _ _ _ ?_).trans ?_); focus (first | omega | (simp; omega) | (simp; done))) | ((with_reducible refine (Below.heap_alloc _ _ _ ?_).trans ?_); focus (first | omega | (simp; omega) | (simp; done)))))
  have SQ2 : w3.heap[w.heap.size + 1]? = some (.cells #[.string ⟨#[]⟩, .slice none 0 0, .int .i64 0, .int .i64 0, .int .i64 0, .slice none 0 0, .slice none 0 0] 44 (0, 0)) := (K_w3.block (w.heap.size + 1) (by first | omega | (simp; omega) | (simp; done))).trans (by repeat (first | (exact RQ.out) | ((with_reducible refine heap_at ?_); (focus (simp; done))) | (with_reducible apply set7_0) | (with_reducible apply set7_1) | (with_reducible apply set7_2) | (with_reducible apply set7_3) | (with_reducible apply set7_4) | (with_reducible apply set7_5) | (with_reducible apply set7_6) | ((with_reducible refine (Below.heap_setCell _ _ _ _ ?_).trans ?_); focus (first | omega | (simp; omega) | (simp; done))) | ((with_reducible refine (Below.heap_alloc _ _ _ ?_).trans ?_); focus (first | omega | (simp; omega) | (simp; done)))))
  obtain ⟨xP20, xP21, xP22, xP23, xP24, xP25, xP26, xP2f⟩ := row7x SP2
  have lP2 := row_lt SP2
  have mP2 := Nat.lt_succ_of_lt lP2
  have nP2 := Nat.lt_succ_of_lt mP2
  have RP2 := Lib.hid SP2
  clear SP2
  obtain ⟨xQ20, xQ21, xQ22, xQ23, xQ24, xQ25, xQ26, xQ2f⟩ := row7x SQ2
  have lQ2 := row_lt SQ2
  have mQ2 := Nat.lt_succ_of_lt lQ2
  have nQ2 := Nat.lt_succ_of_lt mQ2
  have RQ2 := Lib.hid SQ2
  clear SQ2
  have R6 := HR6.out
  clear HR6
  have W6 := Sl_Tolerance.keep (RowE.sl encTol_len R6 (C := C_Tolerance) (Tolerance_of_ord H6.out)) (Same.refl _ _ _) (show w2.heap.size ≤ _ by simp) (Nat.le_refl _)
  clear R6
  have V6 := Lib.hid W6
  clear W6
  go_wp2_with (first | (at_builtin; refine wpList_append_of rfl (.tmp 12) (.tmp 14) 42 rfl _ _ _ w3 rfl rfl hr6 ?_))
  refine bodyPost_ret (v := .agg #[.string d.name, .slice X1 d.labels.length x1, .int .i64 d.cpu, .int .i64 d.mem, .int .i64 d.rank, .slice X5 d.needs.length x5, .slice X6 d.tolerances.length x6]) (by simp only [results, Tryz.results60]; go_simp) rfl ?_
  refine ⟨[.string d.name, .slice X1 d.labels.length x1, .int .i64 d.cpu, .int .i64 d.mem, .int .i64 d.rank, .slice X5 d.needs.length x5, .slice X6 d.tolerances.length x6], rfl, ?_, bel⟩
  exact ⟨_, _, _, rfl, a0, SlOf.keep V1.out (by repeat (first | (with_reducible exact Same.refl _ _ _) | ((with_reducible refine same_setCell ?_ ?_); (focus (first | omega | (simp; done) | (simp; omega)))) | ((with_reducible refine same_alloc ?_ ?_); (focus (first | omega | (simp; done) | (simp; omega)))) | ((with_reducible refine same_step (by assumption) ?_ ?_); (focus (first | omega | (simp; done) | (simp; omega)))))) (by first | omega | (simp; done) | (simp; omega)) (by first | omega | (simp; done) | (simp; omega)) (fun _ _ _ h => h), a2, a3, a4, Sl_Need.keep V5.out (by repeat (first | (with_reducible exact Same.refl _ _ _) | ((with_reducible refine same_setCell ?_ ?_); (focus (first | omega | (simp; done) | (simp; omega)))) | ((with_reducible refine same_alloc ?_ ?_); (focus (first | omega | (simp; done) | (simp; omega)))) | ((with_reducible refine same_step (by assumption) ?_ ?_); (focus (first | omega | (simp; done) | (simp; omega)))))) (by first | omega | (simp; done) | (simp; omega)) (by first | omega | (simp; done) | (simp; omega)), SlOf.keep V6.out (by repeat (first | (with_reducible exact Same.refl _ _ _) | ((with_reducible refine same_setCell ?_ ?_); (focus (first | omega | (simp; done) | (simp; omega)))) | ((with_reducible refine same_alloc ?_ ?_); (focus (first | omega | (simp; done) | (simp; omega)))) | ((with_reducible refine same_step (by assumption) ?_ ?_); (focus (first | omega | (simp; done) | (simp; omega)))))) (by first | omega | (simp; done) | (simp; omega)) (by first | omega | (simp; done) | (simp; omega)) (fun _ _ _ h => h)⟩
set_option maxHeartbeats 2000000 in
set_option maxRecDepth 10000 in
theorem c_impl_copyPod (d : Pod) (cs : List Value) (w : World) (lo : Nat) (h : C_Pod lo w.heap.size w d cs) (hn1 : d.labels.length ≤ 1048576) (hn5 : d.needs.length ≤ 1048576) (hn6 : d.tolerances.length ≤ 1048576) (hv : ∀ x ∈ d.needs, x.values.length ≤ 1048576) :
    Calls Tryz.prog 67 #[.agg cs.toArray] w fun e w' => ∃ cs', e = .returned (.agg cs'.toArray) ∧ OwnPod (fun b => w.heap.size ≤ b ∧ b < w'.heap.size) w' d cs' ∧ Below w.heap.size w w' := by
  obtain ⟨v1, v5, v6, rfl, a0, a1, a2, a3, a4, a5, a6⟩ := h
  obtain ⟨A1, c1, rfl⟩ := a1.form
  obtain ⟨A5, c5, rfl⟩ := a5.form
  obtain ⟨A6, c6, rfl⟩ := a6.form
  have H1 := Lib.hid a1
  have H5 := Lib.hid a5
  have H6 := Lib.hid a6
  clear a1 a5 a6
  go_enter Tryz.func67, Tryz.ntmps67
  go_wp2_with fail
  refine (c_Clone_Label d.labels _ _ _ (Sl_Label.now H1.out bel) hn1).mono ?_
  rintro e w1 ⟨X1, x1, rfl, R1, hb⟩
  have z_w1 := hb.size
  (try simp at z_w1)
  have K_w1 := hb
  clear hb
  have SP : w1.heap[w.heap.size]? = some (.cells #[.string d.name, .slice A1 d.labels.length c1, .int .i64 d.cpu, .int .i64 d.mem, .int .i64 d.rank, .slice A5 d.needs.length c5, .slice A6 d.tolerances.length c6] 44 (0, 0)) := (K_w1.block (w.heap.size) (by first | omega | (simp; omega) | (simp; done))).trans (by repeat (first | ((with_reducible refine heap_at ?_); (focus (simp; done))) | (with_reducible apply set7_0) | (with_reducible apply set7_1) | (with_reducible apply set7_2) | (with_reducible apply set7_3) | (with_reducible apply set7_4) | (with_reducible apply set7_5) | (with_reducible apply set7_6) | ((with_reducible refine (Below.heap_setCell _ _ _ _ ?_).trans ?_); focus (first | omega | (simp; omega) | (simp; done))) | ((with_reducible refine (Below.heap_alloc _ _ _ ?_).trans ?_); focus (first | omega | (simp; omega) | (simp; done)))))
  have SQ : w1.heap[w.heap.size + 1]? = some (.cells #[.string ⟨#[]⟩, .slice none 0 0, .int .i64 0, .int .i64 0, .int .i64 0, .slice none 0 0, .slice none 0 0] 44 (0, 0)) := (K_w1.block (w.heap.size + 1) (by first | omega | (simp; omega) | (simp; done))).trans (by repeat (first | ((with_reducible refine heap_at ?_); (focus (simp; done))) | (with_reducible apply set7_0) | (with_reducible apply set7_1) | (with_reducible apply set7_2) | (with_reducible apply set7_3) | (with_reducible apply set7_4) | (with_reducible apply set7_5) | (with_reducible apply set7_6) | ((with_reducible refine (Below.heap_setCell _ _ _ _ ?_).trans ?_); focus (first | omega | (simp; omega) | (simp; done))) | ((with_reducible refine (Below.heap_alloc _ _ _ ?_).trans ?_); focus (first | omega | (simp; omega) | (simp; done)))))
  obtain ⟨xP0, xP1, xP2, xP3, xP4, xP5, xP6, xPf⟩ := row7x SP
  have lP := row_lt SP
  have mP := Nat.lt_succ_of_lt lP
  have nP := Nat.lt_succ_of_lt mP
  have RP := Lib.hid SP
  clear SP
  obtain ⟨xQ0, xQ1, xQ2, xQ3, xQ4, xQ5, xQ6, xQf⟩ := row7x SQ
  have lQ := row_lt SQ
  have mQ := Nat.lt_succ_of_lt lQ
  have nQ := Nat.lt_succ_of_lt mQ
  have RQ := Lib.hid SQ
  clear SQ
  have W1 := (RowE.own encL_len R1 (C := C_Label) (Label_of_sl H1.out)).carry (S' := fun b => w.heap.size + 2 ≤ b ∧ b < w1.heap.size) (fun _ _ => rfl) (fun b hb => ⟨by have := (World.ownsRow.lt R1 b hb).1; (try simp at this); omega, (World.ownsRow.lt R1 b hb).2⟩)
  clear R1
  have V1 := Lib.hid W1
  clear W1
  go_wp2_with fail
  refine (c_impl_copyNeeds d.needs _ _ _ (Sl_Need.now H5.out bel) hn5 hv).mono ?_
  rintro e w2 ⟨L5, X5, x5, rfl, hL5, R5, N5, P5, hb⟩
  have z_w2 := hb.size
  (try simp at z_w2)
  have K_w2 := hb
  clear hb
  have SP : w2.heap[w.heap.size]? = some (.cells #[.string d.name, .slice X1 d.labels.length x1, .int .i64 d.cpu, .int .i64 d.mem, .int .i64 d.rank, .slice A5 d.needs.length c5, .slice A6 d.tolerances.length c6] 44 (0, 0)) := (K_w2.block (w.heap.size) (by first | omega | (simp; omega) | (simp; done))).trans (by repeat (first | (exact RP.out) | ((with_reducible refine heap_at ?_); (focus (simp; done))) | (with_reducible apply set7_0) | (with_reducible apply set7_1) | (with_reducible apply set7_2) | (with_reducible apply set7_3) | (with_reducible apply set7_4) | (with_reducible apply set7_5) | (with_reducible apply set7_6) | ((with_reducible refine (Below.heap_setCell _ _ _ _ ?_).trans ?_); focus (first | omega | (simp; omega) | (simp; done))) | ((with_reducible refine (Below.heap_alloc _ _ _ ?_).trans ?_); focus (first | omega | (simp; omega) | (simp; done)))))
  have SQ : w2.heap[w.heap.size + 1]? = some (.cells #[.string ⟨#[]⟩, .slice none 0 0, .int .i64 0, .int .i64 0, .int .i64 0, .slice none 0 0, .slice none 0 0] 44 (0, 0)) := (K_w2.block (w.heap.size + 1) (by first | omega | (simp; omega) | (simp; done))).trans (by repeat (first | (exact RQ.out) | ((with_reducible refine heap_at ?_); (focus (simp; done))) | (with_reducible apply set7_0) | (with_reducible apply set7_1) | (with_reducible apply set7_2) | (with_reducible apply set7_3) | (with_reducible apply set7_4) | (with_reducible apply set7_5) | (with_reducible apply set7_6) | ((with_reducible refine (Below.heap_setCell _ _ _ _ ?_).trans ?_); focus (first | omega | (simp; omega) | (simp; done))) | ((with_reducible refine (Below.heap_alloc _ _ _ ?_).trans ?_); focus (first | omega | (simp; omega) | (simp; done)))))
  clear xP0 xP1 xP2 xP3 xP4 xP5 xP6 RP xPf lP mP nP
  clear xQ0 xQ1 xQ2 xQ3 xQ4 xQ5 xQ6 RQ xQf lQ mQ nQ
  obtain ⟨xP0, xP1, xP2, xP3, xP4, xP5, xP6, xPf⟩ := row7x SP
  have lP := row_lt SP
  have mP := Nat.lt_succ_of_lt lP
  have nP := Nat.lt_succ_of_lt mP
  have RP := Lib.hid SP
  clear SP
  obtain ⟨xQ0, xQ1, xQ2, xQ3, xQ4, xQ5, xQ6, xQf⟩ := row7x SQ
  have lQ := row_lt SQ
  have mQ := Nat.lt_succ_of_lt lQ
  have nQ := Nat.lt_succ_of_lt mQ
  have RQ := Lib.hid SQ
  clear SQ
  have W5 : Own_Need (fun b => w1.heap.size ≤ b ∧ b < w2.heap.size) w2 d.needs (.slice X5 d.needs.length x5) := ⟨L5, hL5, (OwnL.of_rows R5 N5 P5).carry (fun _ _ => rfl) (fun b hb => ⟨by have := hb.1; (try simp at this); omega, hb.2⟩)⟩
  clear hL5 R5 N5 P5
  have V5 := Lib.hid W5
  clear W5
  go_wp2_with fail
  refine (c_Clone_Tolerance d.tolerances _ _ _ (Sl_Tolerance.now H6.out bel) hn6).mono ?_
  rintro e w3 ⟨X6, x6, rfl, R6, hb⟩
  have z_w3 := hb.size
  (try simp at z_w3)
  have K_w3 := hb
  clear hb
  have SP : w3.heap[w.heap.size]? = some (.cells #[.string d.name, .slice X1 d.labels.length x1, .int .i64 d.cpu, .int .i64 d.mem, .int .i64 d.rank, .slice X5 d.needs.length x5, .slice A6 d.tolerances.length c6] 44 (0, 0)) := (K_w3.block (w.heap.size) (by first | omega | (simp; omega) | (simp; done))).trans (by repeat (first | (exact RP.out) | ((with_reducible refine heap_at ?_); (focus (simp; done))) | (with_reducible apply set7_0) | (with_reducible apply set7_1) | (with_reducible apply set7_2) | (with_reducible apply set7_3) | (with_reducible apply set7_4) | (with_reducible apply set7_5) | (with_reducible apply set7_6) | ((with_reducible refine (Below.heap_setCell _ _ _ _ ?_).trans ?_); focus (first | omega | (simp; omega) | (simp; done))) | ((with_reducible refine (Below.heap_alloc _ _ _ ?_).trans ?_); focus (first | omega | (simp; omega) | (simp; done)))))
  have SQ : w3.heap[w.heap.size + 1]? = some (.cells #[.string ⟨#[]⟩, .slice none 0 0, .int .i64 0, .int .i64 0, .int .i64 0, .slice none 0 0, .slice none 0 0] 44 (0, 0)) := (K_w3.block (w.heap.size + 1) (by first | omega | (simp; omega) | (simp; done))).trans (by repeat (first | (exact RQ.out) | ((with_reducible refine heap_at ?_); (focus (simp; done))) | (with_reducible apply set7_0) | (with_reducible apply set7_1) | (with_reducible apply set7_2) | (with_reducible apply set7_3) | (with_reducible apply set7_4) | (with_reducible apply set7_5) | (with_reducible apply set7_6) | ((with_reducible refine (Below.heap_setCell _ _ _ _ ?_).trans ?_); focus (first | omega | (simp; omega) | (simp; done))) | ((with_reducible refine (Below.heap_alloc _ _ _ ?_).trans ?_); focus (first | omega | (simp; omega) | (simp; done)))))
  clear xP0 xP1 xP2 xP3 xP4 xP5 xP6 RP xPf lP mP nP
  clear xQ0 xQ1 xQ2 xQ3 xQ4 xQ5 xQ6 RQ xQf lQ mQ nQ
  obtain ⟨xP0, xP1, xP2, xP3, xP4, xP5, xP6, xPf⟩ := row7x SP
  have lP := row_lt SP
  have mP := Nat.lt_succ_of_lt lP
  have nP := Nat.lt_succ_of_lt mP
  have RP := Lib.hid SP
  clear SP
  obtain ⟨xQ0, xQ1, xQ2, xQ3, xQ4, xQ5, xQ6, xQf⟩ := row7x SQ
  have lQ := row_lt SQ
  have mQ := Nat.lt_succ_of_lt lQ
  have nQ := Nat.lt_succ_of_lt mQ
  have RQ := Lib.hid SQ
  clear SQ
  have W6 := (RowE.own encTol_len R6 (C := C_Tolerance) (Tolerance_of_ord H6.out)).carry (S' := fun b => w2.heap.size ≤ b ∧ b < w3.heap.size) (fun _ _ => rfl) (fun b hb => ⟨by have := (World.ownsRow.lt R6 b hb).1; (try simp at this); omega, (World.ownsRow.lt R6 b hb).2⟩)
  clear R6
  have V6 := Lib.hid W6
  clear W6
  go_wp2_with fail
  refine bodyPost_ret (v := .agg #[.string d.name, .slice X1 d.labels.length x1, .int .i64 d.cpu, .int .i64 d.mem, .int .i64 d.rank, .slice X5 d.needs.length x5, .slice X6 d.tolerances.length x6]) (by simp only [results, Tryz.results67]; go_simp) rfl ?_
  refine ⟨[.string d.name, .slice X1 d.labels.length x1, .int .i64 d.cpu, .int .i64 d.mem, .int .i64 d.rank, .slice X5 d.needs.length x5, .slice X6 d.tolerances.length x6], rfl, ?_, bel⟩
  exact ⟨_, _, _, _, _, _, rfl, a0, V1.out.carry (fun b hb => (by repeat (first | (with_reducible rfl) | ((with_reducible refine (Below.heap_setCell _ _ _ b ?_).trans ?_); focus (simp; omega)) | ((with_reducible refine (Below.heap_alloc _ _ b ?_).trans ?_); focus (simp; omega)) | ((with_reducible refine (Below.block (by assumption) b ?_).trans ?_); focus (simp; omega))))) (fun _ h => h), a2, a3, a4, V5.out.carry (fun b hb => (by repeat (first | (with_reducible rfl) | ((with_reducible refine (Below.heap_setCell _ _ _ b ?_).trans ?_); focus (simp; omega)) | ((with_reducible refine (Below.heap_alloc _ _ b ?_).trans ?_); focus (simp; omega)) | ((with_reducible refine (Below.block (by assumption) b ?_).trans ?_); focus (simp; omega))))) (fun _ h => h), V6.out.carry (fun b hb => (by repeat (first | (with_reducible rfl) | ((with_reducible refine (Below.heap_setCell _ _ _ b ?_).trans ?_); focus (simp; omega)) | ((with_reducible refine (Below.heap_alloc _ _ b ?_).trans ?_); focus (simp; omega)) | ((with_reducible refine (Below.block (by assumption) b ?_).trans ?_); focus (simp; omega))))) (fun _ h => h), fun b hb => ⟨⟨by omega, by first | omega | (simp; done) | (simp; omega)⟩, by omega, by omega⟩, fun b hb => ⟨⟨by omega, by first | omega | (simp; done) | (simp; omega)⟩, by omega⟩, fun b hb => ⟨by omega, by first | omega | (simp; done) | (simp; omega)⟩⟩
set_option maxHeartbeats 4000000 in
set_option maxRecDepth 10000 in
theorem c_spec_PodNormal (d : Pod) (cs : List Value) (w : World) (lo : Nat) (h : C_Pod lo w.heap.size w d cs) (hn1 : d.labels.length ≤ 1048576) (hn5 : d.needs.length ≤ 1048576) (hn6 : d.tolerances.length ≤ 1048576) (hv : ∀ x ∈ d.needs, x.values.length ≤ 1048576) :
    Calls Tryz.prog 16 #[.agg cs.toArray] w fun e w' => ∃ cs', e = .returned (.tuple #[.agg cs'.toArray, .bool (podNB d).2]) ∧ C_Pod w.heap.size w'.heap.size w' (podNB d).1 cs' ∧ Below w.heap.size w w' := by
  have HH := Lib.hid h
  obtain ⟨v1, v5, v6, rfl, a0, a1, a2, a3, a4, a5, a6⟩ := h
  obtain ⟨A1, c1, rfl⟩ := a1.form
  obtain ⟨A5, c5, rfl⟩ := a5.form
  obtain ⟨A6, c6, rfl⟩ := a6.form
  have H1 := Lib.hid a1
  have H5 := Lib.hid a5
  have H6 := Lib.hid a6
  clear a1 a5 a6
  obtain ⟨Q1, hQ1⟩ : ∃ Q, Q = (sortLB d.labels).1 := ⟨_, rfl⟩
  obtain ⟨t1, ht1⟩ : ∃ t, t = (sortLB d.labels).2 := ⟨_, rfl⟩
  obtain ⟨Q5, hQ5⟩ : ∃ Q, Q = (sortNB d.needs).1 := ⟨_, rfl⟩
  obtain ⟨t5, ht5⟩ : ∃ t, t = (sortNB d.needs).2 := ⟨_, rfl⟩
  obtain ⟨Q6, hQ6⟩ : ∃ Q, Q = (sortTolB d.tolerances).1 := ⟨_, rfl⟩
  obtain ⟨t6, ht6⟩ : ∃ t, t = (sortTolB d.tolerances).2 := ⟨_, rfl⟩
  have Hdef : podNB d = if t1 && t5 && t6 && podB ⟨d.name, Q1, d.cpu, d.mem, d.rank, Q5, Q6⟩ then (⟨d.name, Q1, d.cpu, d.mem, d.rank, Q5, Q6⟩, true) else (d, false) := by rw [hQ1, ht1, hQ5, ht5, hQ6, ht6]; rfl
  have HM1 := Lib.hid (show ∀ x ∈ Q1, C_Label x (encL x) from by rw [hQ1]; exact fun x hx => Label_of_sl H1.out x (sortLB_in x hx))
  have HM6 := Lib.hid (show ∀ x ∈ Q6, C_Tolerance x (encTol x) from by rw [hQ6]; exact (sortTolB_all (Tolerance_of_ord H6.out)).2)
  have HD := Lib.hid Hdef
  clear Hdef
  have HQ1 := Lib.hid hQ1
  have HT1 := Lib.hid ht1
  clear hQ1 ht1
  have HQ5 := Lib.hid hQ5
  have HT5 := Lib.hid ht5
  clear hQ5 ht5
  have HQ6 := Lib.hid hQ6
  have HT6 := Lib.hid ht6
  clear hQ6 ht6
  go_enter Tryz.func16, Tryz.ntmps16
  go_wp2_with fail
  refine (c_spec_SortLabels d.labels _ _ _ (Sl_Label.now H1.out bel) hn1).mono ?_
  rintro e w1 ⟨X1, x1, rfl, R1, hb⟩
  rw [← HQ1.out, ← HT1.out]
  rw [← HQ1.out] at R1
  have z_w1 := hb.size
  (try simp at z_w1)
  have K_w1 := hb
  clear hb
  have SP : w1.heap[w.heap.size]? = some (.cells #[.string d.name, .slice A1 d.labels.length c1, .int .i64 d.cpu, .int .i64 d.mem, .int .i64 d.rank, .slice A5 d.needs.length c5, .slice A6 d.tolerances.length c6] 44 (0, 0)) := (K_w1.block (w.heap.size) (by first | omega | (simp; omega) | (simp; done))).trans (by repeat (first | ((with_reducible refine heap_at ?_); (focus (simp; done))) | (with_reducible apply set7_0) | (with_reducible apply set7_1) | (with_reducible apply set7_2) | (with_reducible apply set7_3) | (with_reducible apply set7_4) | (with_reducible apply set7_5) | (with_reducible apply set7_6) | ((with_reducible refine (Below.heap_setCell _ _ _ _ ?_).trans ?_); focus (first | omega | (simp; omega) | (simp; done))) | ((with_reducible refine (Below.heap_alloc _ _ _ ?_).trans ?_); focus (first | omega | (simp; omega) | (simp; done)))))
  have SQ : w1.heap[w.heap.size + 1]? = some (.cells #[.string ⟨#[]⟩, .slice none 0 0, .int .i64 0, .int .i64 0, .int .i64 0, .slice none 0 0, .slice none 0 0] 44 (0, 0)) := (K_w1.block (w.heap.size + 1) (by first | omega | (simp; omega) | (simp; done))).trans (by repeat (first | ((with_reducible refine heap_at ?_); (focus (simp; done))) | (with_reducible apply set7_0) | (with_reducible apply set7_1) | (with_reducible apply set7_2) | (with_reducible apply set7_3) | (with_reducible apply set7_4) | (with_reducible apply set7_5) | (with_reducible apply set7_6) | ((with_reducible refine (Below.heap_setCell _ _ _ _ ?_).trans ?_); focus (first | omega | (simp; omega) | (simp; done))) | ((with_reducible refine (Below.heap_alloc _ _ _ ?_).trans ?_); focus (first | omega | (simp; omega) | (simp; done)))))
  have SO : w1.heap[w.heap.size + 1 + 1]? = some (.cells #[.string d.name, .slice A1 d.labels.length c1, .int .i64 d.cpu, .int .i64 d.mem, .int .i64 d.rank, .slice A5 d.needs.length c5, .slice A6 d.tolerances.length c6] 44 (0, 0)) := (K_w1.block (w.heap.size + 1 + 1) (by first | omega | (simp; omega) | (simp; done))).trans (by repeat (first | ((with_reducible refine heap_at ?_); (focus (simp; done))) | (with_reducible apply set7_0) | (with_reducible apply set7_1) | (with_reducible apply set7_2) | (with_reducible apply set7_3) | (with_reducible apply set7_4) | (with_reducible apply set7_5) | (with_reducible apply set7_6) | ((with_reducible refine (Below.heap_setCell _ _ _ _ ?_).trans ?_); focus (first | omega | (simp; omega) | (simp; done))) | ((with_reducible refine (Below.heap_alloc _ _ _ ?_).trans ?_); focus (first | omega | (simp; omega) | (simp; done)))))
  obtain ⟨xP0, xP1, xP2, xP3, xP4, xP5, xP6, xPf⟩ := row7x SP
  have lP := row_lt SP
  have mP := Nat.lt_succ_of_lt lP
  have nP := Nat.lt_succ_of_lt mP
  have RP := Lib.hid SP
  clear SP
  obtain ⟨xQ0, xQ1, xQ2, xQ3, xQ4, xQ5, xQ6, xQf⟩ := row7x SQ
  have lQ := row_lt SQ
  have mQ := Nat.lt_succ_of_lt lQ
  have nQ := Nat.lt_succ_of_lt mQ
  have RQ := Lib.hid SQ
  clear SQ
  obtain ⟨xO0, xO1, xO2, xO3, xO4, xO5, xO6, xOf⟩ := row7x SO
  have lO := row_lt SO
  have mO := Nat.lt_succ_of_lt lO
  have nO := Nat.lt_succ_of_lt mO
  have RO := Lib.hid SO
  clear SO
  have W1 := Sl_Label.keep (RowE.sl encL_len R1 (C := C_Label) HM1.out) (Same.refl _ _ _) (show w.heap.size + 3 ≤ _ by simp) (Nat.le_refl _)
  clear R1
  have V1 := Lib.hid W1
  clear W1
  go_wp2_with fail
  refine (c_spec_SortNeeds d.needs _ _ _ (Sl_Need.now H5.out bel) hn5 hv).mono ?_
  rintro e w2 ⟨L5, X5, x5, rfl, hL5, R5, N5, hb⟩
  rw [← HQ5.out, ← HT5.out]
  rw [← HQ5.out] at R5 hL5
  have z_w2 := hb.size
  (try simp at z_w2)
  have K_w2 := hb
  clear hb
  have SP : w2.heap[w.heap.size]? = some (.cells #[.string d.name, .slice A1 d.labels.length c1, .int .i64 d.cpu, .int .i64 d.mem, .int .i64 d.rank, .slice A5 d.needs.length c5, .slice A6 d.tolerances.length c6] 44 (0, 0)) := (K_w2.block (w.heap.size) (by first | omega | (simp; omega) | (simp; done))).trans (by repeat (first | (exact RP.out) | ((with_reducible refine heap_at ?_); (focus (simp; done))) | (with_reducible apply set7_0) | (with_reducible apply set7_1) | (with_reducible apply set7_2) | (with_reducible apply set7_3) | (with_reducible apply set7_4) | (with_reducible apply set7_5) | (with_reducible apply set7_6) | ((with_reducible refine (Below.heap_setCell _ _ _ _ ?_).trans ?_); focus (first | omega | (simp; omega) | (simp; done))) | ((with_reducible refine (Below.heap_alloc _ _ _ ?_).trans ?_); focus (first | omega | (simp; omega) | (simp; done)))))
  have SQ : w2.heap[w.heap.size + 1]? = some (.cells #[.string ⟨#[]⟩, .slice none 0 0, .int .i64 0, .int .i64 0, .int .i64 0, .slice none 0 0, .slice none 0 0] 44 (0, 0)) := (K_w2.block (w.heap.size + 1) (by first | omega | (simp; omega) | (simp; done))).trans (by repeat (first | (exact RQ.out) | ((with_reducible refine heap_at ?_); (focus (simp; done))) | (with_reducible apply set7_0) | (with_reducible apply set7_1) | (with_reducible apply set7_2) | (with_reducible apply set7_3) | (with_reducible apply set7_4) | (with_reducible apply set7_5) | (with_reducible apply set7_6) | ((with_reducible refine (Below.heap_setCell _ _ _ _ ?_).trans ?_); focus (first | omega | (simp; omega) | (simp; done))) | ((with_reducible refine (Below.heap_alloc _ _ _ ?_).trans ?_); focus (first | omega | (simp; omega) | (simp; done)))))
  have SO : w2.heap[w.heap.size + 1 + 1]? = some (.cells #[.string d.name, .slice A1 d.labels.length c1, .int .i64 d.cpu, .int .i64 d.mem, .int .i64 d.rank, .slice A5 d.needs.length c5, .slice A6 d.tolerances.length c6] 44 (0, 0)) := (K_w2.block (w.heap.size + 1 + 1) (by first | omega | (simp; omega) | (simp; done))).trans (by repeat (first | (exact RO.out) | ((with_reducible refine heap_at ?_); (focus (simp; done))) | (with_reducible apply set7_0) | (with_reducible apply set7_1) | (with_reducible apply set7_2) | (with_reducible apply set7_3) | (with_reducible apply set7_4) | (with_reducible apply set7_5) | (with_reducible apply set7_6) | ((with_reducible refine (Below.heap_setCell _ _ _ _ ?_).trans ?_); focus (first | omega | (simp; omega) | (simp; done))) | ((with_reducible refine (Below.heap_alloc _ _ _ ?_).trans ?_); focus (first | omega | (simp; omega) | (simp; done)))))
  clear xP0 xP1 xP2 xP3 xP4 xP5 xP6 RP xPf lP mP nP
  clear xQ0 xQ1 xQ2 xQ3 xQ4 xQ5 xQ6 RQ xQf lQ mQ nQ
  clear xO0 xO1 xO2 xO3 xO4 xO5 xO6 RO xOf lO mO nO
  obtain ⟨xP0, xP1, xP2, xP3, xP4, xP5, xP6, xPf⟩ := row7x SP
  have lP := row_lt SP
  have mP := Nat.lt_succ_of_lt lP
  have nP := Nat.lt_succ_of_lt mP
  have RP := Lib.hid SP
  clear SP
  obtain ⟨xQ0, xQ1, xQ2, xQ3, xQ4, xQ5, xQ6, xQf⟩ := row7x SQ
  have lQ := row_lt SQ
  have mQ := Nat.lt_succ_of_lt lQ
  have nQ := Nat.lt_succ_of_lt mQ
  have RQ := Lib.hid SQ
  clear SQ
  obtain ⟨xO0, xO1, xO2, xO3, xO4, xO5, xO6, xOf⟩ := row7x SO
  have lO := row_lt SO
  have mO := Nat.lt_succ_of_lt lO
  have nO := Nat.lt_succ_of_lt mO
  have RO := Lib.hid SO
  clear SO
  have W5 : Sl_Need (w1.heap.size) w2.heap.size w2 Q5 (.slice X5 Q5.length x5) := by have h9 := row_needs R5 N5; rw [hL5] at h9; exact Sl_Need.keep h9 (Same.refl _ _ _) (by simp) (Nat.le_refl _)
  clear hL5 R5 N5
  have V5 := Lib.hid W5
  clear W5
  go_wp2_with fail
  refine (c_spec_SortTolerances d.tolerances _ _ _ (Sl_Tolerance.now H6.out bel) hn6).mono ?_
  rintro e w3 ⟨X6, x6, rfl, R6, hb⟩
  rw [← HQ6.out, ← HT6.out]
  rw [← HQ6.out] at R6
  have z_w3 := hb.size
  (try simp at z_w3)
  have K_w3 := hb
  clear hb
  have SP : w3.heap[w.heap.size]? = some (.cells #[.string d.name, .slice A1 d.labels.length c1, .int .i64 d.cpu, .int .i64 d.mem, .int .i64 d.rank, .slice A5 d.needs.length c5, .slice A6 d.tolerances.length c6] 44 (0, 0)) := (K_w3.block (w.heap.size) (by first | omega | (simp; omega) | (simp; done))).trans (by repeat (first | (exact RP.out) | ((with_reducible refine heap_at ?_); (focus (simp; done))) | (with_reducible apply set7_0) | (with_reducible apply set7_1) | (with_reducible apply set7_2) | (with_reducible apply set7_3) | (with_reducible apply set7_4) | (with_reducible apply set7_5) | (with_reducible apply set7_6) | ((with_reducible refine (Below.heap_setCell _ _ _ _ ?_).trans ?_); focus (first | omega | (simp; omega) | (simp; done))) | ((with_reducible refine (Below.heap_alloc _ _ _ ?_).trans ?_); focus (first | omega | (simp; omega) | (simp; done)))))
  have SQ : w3.heap[w.heap.size + 1]? = some (.cells #[.string ⟨#[]⟩, .slice none 0 0, .int .i64 0, .int .i64 0, .int .i64 0, .slice none 0 0, .slice none 0 0] 44 (0, 0)) := (K_w3.block (w.heap.size + 1) (by first | omega | (simp; omega) | (simp; done))).trans (by repeat (first | (exact RQ.out) | ((with_reducible refine heap_at ?_); (focus (simp; done))) | (with_reducible apply set7_0) | (with_reducible apply set7_1) | (with_reducible apply set7_2) | (with_reducible apply set7_3) | (with_reducible apply set7_4) | (with_reducible apply set7_5) | (with_reducible apply set7_6) | ((with_reducible refine (Below.heap_setCell _ _ _ _ ?_).trans ?_); focus (first | omega | (simp; omega) | (simp; done))) | ((with_reducible refine (Below.heap_alloc _ _ _ ?_).trans ?_); focus (first | omega | (simp; omega) | (simp; done)))))
  have SO : w3.heap[w.heap.size + 1 + 1]? = some (.cells #[.string d.name, .slice A1 d.labels.length c1, .int .i64 d.cpu, .int .i64 d.mem, .int .i64 d.rank, .slice A5 d.needs.length c5, .slice A6 d.tolerances.length c6] 44 (0, 0)) := (K_w3.block (w.heap.size + 1 + 1) (by first | omega | (simp; omega) | (simp; done))).trans (by repeat (first | (exact RO.out) | ((with_reducible refine heap_at ?_); (focus (simp; done))) | (with_reducible apply set7_0) | (with_reducible apply set7_1) | (with_reducible apply set7_2) | (with_reducible apply set7_3) | (with_reducible apply set7_4) | (with_reducible apply set7_5) | (with_reducible apply set7_6) | ((with_reducible refine (Below.heap_setCell _ _ _ _ ?_).trans ?_); focus (first | omega | (simp; omega) | (simp; done))) | ((with_reducible refine (Below.heap_alloc _ _ _ ?_).trans ?_); focus (first | omega | (simp; omega) | (simp; done)))))
  clear xP0 xP1 xP2 xP3 xP4 xP5 xP6 RP xPf lP mP nP
  clear xQ0 xQ1 xQ2 xQ3 xQ4 xQ5 xQ6 RQ xQf lQ mQ nQ
  clear xO0 xO1 xO2 xO3 xO4 xO5 xO6 RO xOf lO mO nO
  obtain ⟨xP0, xP1, xP2, xP3, xP4, xP5, xP6, xPf⟩ := row7x SP
  have lP := row_lt SP
  have mP := Nat.lt_succ_of_lt lP
  have nP := Nat.lt_succ_of_lt mP
  have RP := Lib.hid SP
  clear SP
  obtain ⟨xQ0, xQ1, xQ2, xQ3, xQ4, xQ5, xQ6, xQf⟩ := row7x SQ
  have lQ := row_lt SQ
  have mQ := Nat.lt_succ_of_lt lQ
  have nQ := Nat.lt_succ_of_lt mQ
  have RQ := Lib.hid SQ
  clear SQ
  obtain ⟨xO0, xO1, xO2, xO3, xO4, xO5, xO6, xOf⟩ := row7x SO
  have lO := row_lt SO
  have mO := Nat.lt_succ_of_lt lO
  have nO := Nat.lt_succ_of_lt mO
  have RO := Lib.hid SO
  clear SO
  have W6 := Sl_Tolerance.keep (RowE.sl encTol_len R6 (C := C_Tolerance) HM6.out) (Same.refl _ _ _) (show w2.heap.size ≤ _ by simp) (Nat.le_refl _)
  clear R6
  have V6 := Lib.hid W6
  clear W6
  rcases t1 with _ | _
  · have Hf := Lib.hid (show podNB d = (d, false) by rw [HD.out]; simp)
    go_wp2_with fail
    refine (c_spec_copyPod d _ _ _ (C_Pod.now HH.out bel) hn1 hn5 hn6 hv).mono ?_
    rintro e w9 ⟨cs', rfl, hC, hb⟩
    obtain ⟨Y1, y1, Y5, y5, Y6, y6, rfl⟩ := hC.open
    have VC := Lib.hid hC
    clear hC
    have z_w9 := hb.size
    (try simp at z_w9)
    have K_w9 := hb
    clear hb
    have SQ : w9.heap[w.heap.size + 1]? = some (.cells #[.string ⟨#[]⟩, .slice none 0 0, .int .i64 0, .int .i64 0, .int .i64 0, .slice none 0 0, .slice none 0 0] 44 (0, 0)) := (K_w9.block (w.heap.size + 1) (by first | omega | (simp; omega) | (simp; done))).trans (by repeat (first | (exact RQ.out) | ((with_reducible refine heap_at ?_); (focus (simp; done))) | (with_reducible apply set7_0) | (with_reducible apply set7_1) | (with_reducible apply set7_2) | (with_reducible apply set7_3) | (with_reducible apply set7_4) | (with_reducible apply set7_5) | (with_reducible apply set7_6) | ((with_reducible refine (Below.heap_setCell _ _ _ _ ?_).trans ?_); focus (first | omega | (simp; omega) | (simp; done))) | ((with_reducible refine (Below.heap_alloc _ _ _ ?_).trans ?_); focus (first | omega | (simp; omega) | (simp; done)))))
    clear xP0 xP1 xP2 xP3 xP4 xP5 xP6 RP xPf lP mP nP
    clear xQ0 xQ1 xQ2 xQ3 xQ4 xQ5 xQ6 RQ xQf lQ mQ nQ
    clear xO0 xO1 xO2 xO3 xO4 xO5 xO6 RO xOf lO mO nO
    obtain ⟨xQ0, xQ1, xQ2, xQ3, xQ4, xQ5, xQ6, xQf⟩ := row7x SQ
    have lQ := row_lt SQ
    have mQ := Nat.lt_succ_of_lt lQ
    have nQ := Nat.lt_succ_of_lt mQ
    have RQ := Lib.hid SQ
    clear SQ
    go_wp2_with fail
    refine bodyPost_ret (v := .tuple #[.agg #[.string d.name, .slice Y1 d.labels.length y1, .int .i64 d.cpu, .int .i64 d.mem, .int .i64 d.rank, .slice Y5 d.needs.length y5, .slice Y6 d.tolerances.length y6], .bool false]) (by simp only [results, Tryz.results16]; go_simp) rfl ?_
    exact ⟨[.string d.name, .slice Y1 d.labels.length y1, .int .i64 d.cpu, .int .i64 d.mem, .int .i64 d.rank, .slice Y5 d.needs.length y5, .slice Y6 d.tolerances.length y6], by rw [Hf.out], by rw [Hf.out]; exact C_Pod.keep VC.out (by repeat (first | (with_reducible exact Same.refl _ _ _) | ((with_reducible refine same_setCell ?_ ?_); (focus (first | omega | (simp; done) | (simp; omega)))) | ((with_reducible refine same_alloc ?_ ?_); (focus (first | omega | (simp; done) | (simp; omega)))) | ((with_reducible refine same_step (by assumption) ?_ ?_); (focus (first | omega | (simp; done) | (simp; omega)))))) (by first | omega | (simp; done) | (simp; omega)) (by first | omega | (simp; done) | (simp; omega)), bel⟩
  · skip
    rcases t5 with _ | _
    · have Hf := Lib.hid (show podNB d = (d, false) by rw [HD.out]; simp)
      go_wp2_with fail
      refine (c_spec_copyPod d _ _ _ (C_Pod.now HH.out bel) hn1 hn5 hn6 hv).mono ?_
      rintro e w9 ⟨cs', rfl, hC, hb⟩
      obtain ⟨Y1, y1, Y5, y5, Y6, y6, rfl⟩ := hC.open
      have VC := Lib.hid hC
      clear hC
      have z_w9 := hb.size
      (try simp at z_w9)
      have K_w9 := hb
      clear hb
      have SQ : w9.heap[w.heap.size + 1]? = some (.cells #[.string ⟨#[]⟩, .slice none 0 0, .int .i64 0, .int .i64 0, .int .i64 0, .slice none 0 0, .slice none 0 0] 44 (0, 0)) := (K_w9.block (w.heap.size + 1) (by first | omega | (simp; omega) | (simp; done))).trans (by repeat (first | (exact RQ.out) | ((with_reducible refine heap_at ?_); (focus (simp; done))) | (with_reducible apply set7_0) | (with_reducible apply set7_1) | (with_reducible apply set7_2) | (with_reducible apply set7_3) | (with_reducible apply set7_4) | (with_reducible apply set7_5) | (with_reducible apply set7_6) | ((with_reducible refine (Below.heap_setCell _ _ _ _ ?_).trans ?_); focus (first | omega | (simp; omega) | (simp; done))) | ((with_reducible refine (Below.heap_alloc _ _ _ ?_).trans ?_); focus (first | omega | (simp; omega) | (simp; done)))))
      clear xP0 xP1 xP2 xP3 xP4 xP5 xP6 RP xPf lP mP nP
      clear xQ0 xQ1 xQ2 xQ3 xQ4 xQ5 xQ6 RQ xQf lQ mQ nQ
      clear xO0 xO1 xO2 xO3 xO4 xO5 xO6 RO xOf lO mO nO
      obtain ⟨xQ0, xQ1, xQ2, xQ3, xQ4, xQ5, xQ6, xQf⟩ := row7x SQ
      have lQ := row_lt SQ
      have mQ := Nat.lt_succ_of_lt lQ
      have nQ := Nat.lt_succ_of_lt mQ
      have RQ := Lib.hid SQ
      clear SQ
      go_wp2_with fail
      refine bodyPost_ret (v := .tuple #[.agg #[.string d.name, .slice Y1 d.labels.length y1, .int .i64 d.cpu, .int .i64 d.mem, .int .i64 d.rank, .slice Y5 d.needs.length y5, .slice Y6 d.tolerances.length y6], .bool false]) (by simp only [results, Tryz.results16]; go_simp) rfl ?_
      exact ⟨[.string d.name, .slice Y1 d.labels.length y1, .int .i64 d.cpu, .int .i64 d.mem, .int .i64 d.rank, .slice Y5 d.needs.length y5, .slice Y6 d.tolerances.length y6], by rw [Hf.out], by rw [Hf.out]; exact C_Pod.keep VC.out (by repeat (first | (with_reducible exact Same.refl _ _ _) | ((with_reducible refine same_setCell ?_ ?_); (focus (first | omega | (simp; done) | (simp; omega)))) | ((with_reducible refine same_alloc ?_ ?_); (focus (first | omega | (simp; done) | (simp; omega)))) | ((with_reducible refine same_step (by assumption) ?_ ?_); (focus (first | omega | (simp; done) | (simp; omega)))))) (by first | omega | (simp; done) | (simp; omega)) (by first | omega | (simp; done) | (simp; omega)), bel⟩
    · skip
      rcases t6 with _ | _
      · have Hf := Lib.hid (show podNB d = (d, false) by rw [HD.out]; simp)
        go_wp2_with fail
        refine (c_spec_copyPod d _ _ _ (C_Pod.now HH.out bel) hn1 hn5 hn6 hv).mono ?_
        rintro e w9 ⟨cs', rfl, hC, hb⟩
        obtain ⟨Y1, y1, Y5, y5, Y6, y6, rfl⟩ := hC.open
        have VC := Lib.hid hC
        clear hC
        have z_w9 := hb.size
        (try simp at z_w9)
        have K_w9 := hb
        clear hb
        have SQ : w9.heap[w.heap.size + 1]? = some (.cells #[.string ⟨#[]⟩, .slice none 0 0, .int .i64 0, .int .i64 0, .int .i64 0, .slice none 0 0, .slice none 0 0] 44 (0, 0)) := (K_w9.block (w.heap.size + 1) (by first | omega | (simp; omega) | (simp; done))).trans (by repeat (first | (exact RQ.out) | ((with_reducible refine heap_at ?_); (focus (simp; done))) | (with_reducible apply set7_0) | (with_reducible apply set7_1) | (with_reducible apply set7_2) | (with_reducible apply set7_3) | (with_reducible apply set7_4) | (with_reducible apply set7_5) | (with_reducible apply set7_6) | ((with_reducible refine (Below.heap_setCell _ _ _ _ ?_).trans ?_); focus (first | omega | (simp; omega) | (simp; done))) | ((with_reducible refine (Below.heap_alloc _ _ _ ?_).trans ?_); focus (first | omega | (simp; omega) | (simp; done)))))
        clear xP0 xP1 xP2 xP3 xP4 xP5 xP6 RP xPf lP mP nP
        clear xQ0 xQ1 xQ2 xQ3 xQ4 xQ5 xQ6 RQ xQf lQ mQ nQ
        clear xO0 xO1 xO2 xO3 xO4 xO5 xO6 RO xOf lO mO nO
        obtain ⟨xQ0, xQ1, xQ2, xQ3, xQ4, xQ5, xQ6, xQf⟩ := row7x SQ
        have lQ := row_lt SQ
        have mQ := Nat.lt_succ_of_lt lQ
        have nQ := Nat.lt_succ_of_lt mQ
        have RQ := Lib.hid SQ
        clear SQ
        go_wp2_with fail
        refine bodyPost_ret (v := .tuple #[.agg #[.string d.name, .slice Y1 d.labels.length y1, .int .i64 d.cpu, .int .i64 d.mem, .int .i64 d.rank, .slice Y5 d.needs.length y5, .slice Y6 d.tolerances.length y6], .bool false]) (by simp only [results, Tryz.results16]; go_simp) rfl ?_
        exact ⟨[.string d.name, .slice Y1 d.labels.length y1, .int .i64 d.cpu, .int .i64 d.mem, .int .i64 d.rank, .slice Y5 d.needs.length y5, .slice Y6 d.tolerances.length y6], by rw [Hf.out], by rw [Hf.out]; exact C_Pod.keep VC.out (by repeat (first | (with_reducible exact Same.refl _ _ _) | ((with_reducible refine same_setCell ?_ ?_); (focus (first | omega | (simp; done) | (simp; omega)))) | ((with_reducible refine same_alloc ?_ ?_); (focus (first | omega | (simp; done) | (simp; omega)))) | ((with_reducible refine same_step (by assumption) ?_ ?_); (focus (first | omega | (simp; done) | (simp; omega)))))) (by first | omega | (simp; done) | (simp; omega)) (by first | omega | (simp; done) | (simp; omega)), bel⟩
      · skip
        go_wp2_with fail
        refine (c_spec_PodOk ⟨d.name, Q1, d.cpu, d.mem, d.rank, Q5, Q6⟩ [.string d.name, .slice X1 Q1.length x1, .int .i64 d.cpu, .int .i64 d.mem, .int .i64 d.rank, .slice X5 Q5.length x5, .slice X6 Q6.length x6] _ w.heap.size ?_).mono ?_
        · exact ⟨_, _, _, rfl, a0, SlOf.keep V1.out (by repeat (first | (with_reducible exact Same.refl _ _ _) | ((with_reducible refine same_setCell ?_ ?_); (focus (first | omega | (simp; done) | (simp; omega)))) | ((with_reducible refine same_alloc ?_ ?_); (focus (first | omega | (simp; done) | (simp; omega)))) | ((with_reducible refine same_step (by assumption) ?_ ?_); (focus (first | omega | (simp; done) | (simp; omega)))))) (by first | omega | (simp; done) | (simp; omega)) (by first | omega | (simp; done) | (simp; omega)) (fun _ _ _ h => h), a2, a3, a4, Sl_Need.keep V5.out (by repeat (first | (with_reducible exact Same.refl _ _ _) | ((with_reducible refine same_setCell ?_ ?_); (focus (first | omega | (simp; done) | (simp; omega)))) | ((with_reducible refine same_alloc ?_ ?_); (focus (first | omega | (simp; done) | (simp; omega)))) | ((with_reducible refine same_step (by assumption) ?_ ?_); (focus (first | omega | (simp; done) | (simp; omega)))))) (by first | omega | (simp; done) | (simp; omega)) (by first | omega | (simp; done) | (simp; omega)), SlOf.keep V6.out (by repeat (first | (with_reducible exact Same.refl _ _ _) | ((with_reducible refine same_setCell ?_ ?_); (focus (first | omega | (simp; done) | (simp; omega)))) | ((with_reducible refine same_alloc ?_ ?_); (focus (first | omega | (simp; done) | (simp; omega)))) | ((with_reducible refine same_step (by assumption) ?_ ?_); (focus (first | omega | (simp; done) | (simp; omega)))))) (by first | omega | (simp; done) | (simp; omega)) (by first | omega | (simp; done) | (simp; omega)) (fun _ _ _ h => h)⟩
        rintro e w8 ⟨rfl, hb⟩
        have z_w8 := hb.size
        (try simp at z_w8)
        have K_w8 := hb
        clear hb
        have SP : w8.heap[w.heap.size]? = some (.cells #[.string d.name, .slice A1 d.labels.length c1, .int .i64 d.cpu, .int .i64 d.mem, .int .i64 d.rank, .slice A5 d.needs.length c5, .slice A6 d.tolerances.length c6] 44 (0, 0)) := (K_w8.block (w.heap.size) (by first | omega | (simp; omega) | (simp; done))).trans (by repeat (first | (exact RP.out) | ((with_reducible refine heap_at ?_); (focus (simp; done))) | (with_reducible apply set7_0) | (with_reducible apply set7_1) | (with_reducible apply set7_2) | (with_reducible apply set7_3) | (with_reducible apply set7_4) | (with_reducible apply set7_5) | (with_reducible apply set7_6) | ((with_reducible refine (Below.heap_setCell _ _ _ _ ?_).trans ?_); focus (first | omega | (simp; omega) | (simp; done))) | ((with_reducible refine (Below.heap_alloc _ _ _ ?_).trans ?_); focus (first | omega | (simp; omega) | (simp; done)))))
        have SQ : w8.heap[w.heap.size + 1]? = some (.cells #[.string ⟨#[]⟩, .slice none 0 0, .int .i64 0, .int .i64 0, .int .i64 0, .slice none 0 0, .slice none 0 0] 44 (0, 0)) := (K_w8.block (w.heap.size + 1) (by first | omega | (simp; omega) | (simp; done))).trans (by repeat (first | (exact RQ.out) | ((with_reducible refine heap_at ?_); (focus (simp; done))) | (with_reducible apply set7_0) | (with_reducible apply set7_1) | (with_reducible apply set7_2) | (with_reducible apply set7_3) | (with_reducible apply set7_4) | (with_reducible apply set7_5) | (with_reducible apply set7_6) | ((with_reducible refine (Below.heap_setCell _ _ _ _ ?_).trans ?_); focus (first | omega | (simp; omega) | (simp; done))) | ((with_reducible refine (Below.heap_alloc _ _ _ ?_).trans ?_); focus (first | omega | (simp; omega) | (simp; done)))))
        have SO : w8.heap[w.heap.size + 1 + 1]? = some (.cells #[.string d.name, .slice X1 Q1.length x1, .int .i64 d.cpu, .int .i64 d.mem, .int .i64 d.rank, .slice X5 Q5.length x5, .slice X6 Q6.length x6] 44 (0, 0)) := (K_w8.block (w.heap.size + 1 + 1) (by first | omega | (simp; omega) | (simp; done))).trans (by repeat (first | (exact RO.out) | ((with_reducible refine heap_at ?_); (focus (simp; done))) | (with_reducible apply set7_0) | (with_reducible apply set7_1) | (with_reducible apply set7_2) | (with_reducible apply set7_3) | (with_reducible apply set7_4) | (with_reducible apply set7_5) | (with_reducible apply set7_6) | ((with_reducible refine (Below.heap_setCell _ _ _ _ ?_).trans ?_); focus (first | omega | (simp; omega) | (simp; done))) | ((with_reducible refine (Below.heap_alloc _ _ _ ?_).trans ?_); focus (first | omega | (simp; omega) | (simp; done)))))
        clear xP0 xP1 xP2 xP3 xP4 xP5 xP6 RP xPf lP mP nP
        clear xQ0 xQ1 xQ2 xQ3 xQ4 xQ5 xQ6 RQ xQf lQ mQ nQ
        clear xO0 xO1 xO2 xO3 xO4 xO5 xO6 RO xOf lO mO nO
        obtain ⟨xP0, xP1, xP2, xP3, xP4, xP5, xP6, xPf⟩ := row7x SP
        have lP := row_lt SP
        have mP := Nat.lt_succ_of_lt lP
        have nP := Nat.lt_succ_of_lt mP
        have RP := Lib.hid SP
        clear SP
        obtain ⟨xQ0, xQ1, xQ2, xQ3, xQ4, xQ5, xQ6, xQf⟩ := row7x SQ
        have lQ := row_lt SQ
        have mQ := Nat.lt_succ_of_lt lQ
        have nQ := Nat.lt_succ_of_lt mQ
        have RQ := Lib.hid SQ
        clear SQ
        obtain ⟨xO0, xO1, xO2, xO3, xO4, xO5, xO6, xOf⟩ := row7x SO
        have lO := row_lt SO
        have mO := Nat.lt_succ_of_lt lO
        have nO := Nat.lt_succ_of_lt mO
        have RO := Lib.hid SO
        clear SO
        rcases ht : podB ⟨d.name, Q1, d.cpu, d.mem, d.rank, Q5, Q6⟩ with _ | _
        · have Hf := Lib.hid (show podNB d = (d, false) by rw [HD.out, ht]; rfl)
          go_wp2_with fail
          refine (c_spec_copyPod d _ _ _ (C_Pod.now HH.out bel) hn1 hn5 hn6 hv).mono ?_
          rintro e w9 ⟨cs', rfl, hC, hb⟩
          obtain ⟨Y1, y1, Y5, y5, Y6, y6, rfl⟩ := hC.open
          have VC := Lib.hid hC
          clear hC
          have z_w9 := hb.size
          (try simp at z_w9)
          have K_w9 := hb
          clear hb
          have SQ : w9.heap[w.heap.size + 1]? = some (.cells #[.string ⟨#[]⟩, .slice none 0 0, .int .i64 0, .int .i64 0, .int .i64 0, .slice none 0 0, .slice none 0 0] 44 (0, 0)) := (K_w9.block (w.heap.size + 1) (by first | omega | (simp; omega) | (simp; done))).trans (by repeat (first | (exact RQ.out) | ((with_reducible refine heap_at ?_); (focus (simp; done))) | (with_reducible apply set7_0) | (with_reducible apply set7_1) | (with_reducible apply set7_2) | (with_reducible apply set7_3) | (with_reducible apply set7_4) | (with_reducible apply set7_5) | (with_reducible apply set7_6) | ((with_reducible refine (Below.heap_setCell _ _ _ _ ?_).trans ?_); focus (first | omega | (simp; omega) | (simp; done))) | ((with_reducible refine (Below.heap_alloc _ _ _ ?_).trans ?_); focus (first | omega | (simp; omega) | (simp; done)))))
          clear xP0 xP1 xP2 xP3 xP4 xP5 xP6 RP xPf lP mP nP
          clear xQ0 xQ1 xQ2 xQ3 xQ4 xQ5 xQ6 RQ xQf lQ mQ nQ
          clear xO0 xO1 xO2 xO3 xO4 xO5 xO6 RO xOf lO mO nO
          obtain ⟨xQ0, xQ1, xQ2, xQ3, xQ4, xQ5, xQ6, xQf⟩ := row7x SQ
          have lQ := row_lt SQ
          have mQ := Nat.lt_succ_of_lt lQ
          have nQ := Nat.lt_succ_of_lt mQ
          have RQ := Lib.hid SQ
          clear SQ
          go_wp2_with fail
          refine bodyPost_ret (v := .tuple #[.agg #[.string d.name, .slice Y1 d.labels.length y1, .int .i64 d.cpu, .int .i64 d.mem, .int .i64 d.rank, .slice Y5 d.needs.length y5, .slice Y6 d.tolerances.length y6], .bool false]) (by simp only [results, Tryz.results16]; go_simp) rfl ?_
          exact ⟨[.string d.name, .slice Y1 d.labels.length y1, .int .i64 d.cpu, .int .i64 d.mem, .int .i64 d.rank, .slice Y5 d.needs.length y5, .slice Y6 d.tolerances.length y6], by rw [Hf.out], by rw [Hf.out]; exact C_Pod.keep VC.out (by repeat (first | (with_reducible exact Same.refl _ _ _) | ((with_reducible refine same_setCell ?_ ?_); (focus (first | omega | (simp; done) | (simp; omega)))) | ((with_reducible refine same_alloc ?_ ?_); (focus (first | omega | (simp; done) | (simp; omega)))) | ((with_reducible refine same_step (by assumption) ?_ ?_); (focus (first | omega | (simp; done) | (simp; omega)))))) (by first | omega | (simp; done) | (simp; omega)) (by first | omega | (simp; done) | (simp; omega)), bel⟩
        · have Hf := Lib.hid (show podNB d = (⟨d.name, Q1, d.cpu, d.mem, d.rank, Q5, Q6⟩, true) by rw [HD.out, ht]; rfl)
          go_wp2_with fail
          refine bodyPost_ret (v := .tuple #[.agg #[.string d.name, .slice X1 Q1.length x1, .int .i64 d.cpu, .int .i64 d.mem, .int .i64 d.rank, .slice X5 Q5.length x5, .slice X6 Q6.length x6], .bool true]) (by simp only [results, Tryz.results16]; go_simp) rfl ?_
          exact ⟨[.string d.name, .slice X1 Q1.length x1, .int .i64 d.cpu, .int .i64 d.mem, .int .i64 d.rank, .slice X5 Q5.length x5, .slice X6 Q6.length x6], by rw [Hf.out], by rw [Hf.out]; exact ⟨_, _, _, rfl, a0, SlOf.keep V1.out (by repeat (first | (with_reducible exact Same.refl _ _ _) | ((with_reducible refine same_setCell ?_ ?_); (focus (first | omega | (simp; done) | (simp; omega)))) | ((with_reducible refine same_alloc ?_ ?_); (focus (first | omega | (simp; done) | (simp; omega)))) | ((with_reducible refine same_step (by assumption) ?_ ?_); (focus (first | omega | (simp; done) | (simp; omega)))))) (by first | omega | (simp; done) | (simp; omega)) (by first | omega | (simp; done) | (simp; omega)) (fun _ _ _ h => h), a2, a3, a4, Sl_Need.keep V5.out (by repeat (first | (with_reducible exact Same.refl _ _ _) | ((with_reducible refine same_setCell ?_ ?_); (focus (first | omega | (simp; done) | (simp; omega)))) | ((with_reducible refine same_alloc ?_ ?_); (focus (first | omega | (simp; done) | (simp; omega)))) | ((with_reducible refine same_step (by assumption) ?_ ?_); (focus (first | omega | (simp; done) | (simp; omega)))))) (by first | omega | (simp; done) | (simp; omega)) (by first | omega | (simp; done) | (simp; omega)), SlOf.keep V6.out (by repeat (first | (with_reducible exact Same.refl _ _ _) | ((with_reducible refine same_setCell ?_ ?_); (focus (first | omega | (simp; done) | (simp; omega)))) | ((with_reducible refine same_alloc ?_ ?_); (focus (first | omega | (simp; done) | (simp; omega)))) | ((with_reducible refine same_step (by assumption) ?_ ?_); (focus (first | omega | (simp; done) | (simp; omega)))))) (by first | omega | (simp; done) | (simp; omega)) (by first | omega | (simp; done) | (simp; omega)) (fun _ _ _ h => h)⟩, bel⟩
set_option maxHeartbeats 4000000 in
set_option maxRecDepth 10000 in
theorem c_impl_PodNormal (d : Pod) (cs : List Value) (w : World) (lo : Nat) (h : C_Pod lo w.heap.size w d cs) (hn1 : d.labels.length ≤ 1048576) (hn5 : d.needs.length ≤ 1048576) (hn6 : d.tolerances.length ≤ 1048576) (hv : ∀ x ∈ d.needs, x.values.length ≤ 1048576) :
    Calls Tryz.prog 18 #[.agg cs.toArray] w fun e w' => ∃ cs', e = .returned (.tuple #[.agg cs'.toArray, .bool (podNB d).2]) ∧ OwnPod (fun b => w.heap.size ≤ b ∧ b < w'.heap.size) w' (podNB d).1 cs' ∧ Below w.heap.size w w' := by
  have HH := Lib.hid h
  obtain ⟨v1, v5, v6, rfl, a0, a1, a2, a3, a4, a5, a6⟩ := h
  obtain ⟨A1, c1, rfl⟩ := a1.form
  obtain ⟨A5, c5, rfl⟩ := a5.form
  obtain ⟨A6, c6, rfl⟩ := a6.form
  have H1 := Lib.hid a1
  have H5 := Lib.hid a5
  have H6 := Lib.hid a6
  clear a1 a5 a6
  obtain ⟨Q1, hQ1⟩ : ∃ Q, Q = (sortLB d.labels).1 := ⟨_, rfl⟩
  obtain ⟨t1, ht1⟩ : ∃ t, t = (sortLB d.labels).2 := ⟨_, rfl⟩
  obtain ⟨Q5, hQ5⟩ : ∃ Q, Q = (sortNB d.needs).1 := ⟨_, rfl⟩
  obtain ⟨t5, ht5⟩ : ∃ t, t = (sortNB d.needs).2 := ⟨_, rfl⟩
  obtain ⟨Q6, hQ6⟩ : ∃ Q, Q = (sortTolB d.tolerances).1 := ⟨_, rfl⟩
  obtain ⟨t6, ht6⟩ : ∃ t, t = (sortTolB d.tolerances).2 := ⟨_, rfl⟩
  have Hdef : podNB d = if t1 && t5 && t6 && podB ⟨d.name, Q1, d.cpu, d.mem, d.rank, Q5, Q6⟩ then (⟨d.name, Q1, d.cpu, d.mem, d.rank, Q5, Q6⟩, true) else (d, false) := by rw [hQ1, ht1, hQ5, ht5, hQ6, ht6]; rfl
  have HM1 := Lib.hid (show ∀ x ∈ Q1, C_Label x (encL x) from by rw [hQ1]; exact fun x hx => Label_of_sl H1.out x (sortLB_in x hx))
  have HM6 := Lib.hid (show ∀ x ∈ Q6, C_Tolerance x (encTol x) from by rw [hQ6]; exact (sortTolB_all (Tolerance_of_ord H6.out)).2)
  have HD := Lib.hid Hdef
  clear Hdef
  have HQ1 := Lib.hid hQ1
  have HT1 := Lib.hid ht1
  clear hQ1 ht1
  have HQ5 := Lib.hid hQ5
  have HT5 := Lib.hid ht5
  clear hQ5 ht5
  have HQ6 := Lib.hid hQ6
  have HT6 := Lib.hid ht6
  clear hQ6 ht6
  go_enter Tryz.func18, Tryz.ntmps18
  go_wp2_with fail
  refine (c_impl_SortLabels d.labels _ _ _ (Sl_Label.now H1.out bel) hn1).mono ?_
  rintro e w1 ⟨X1, x1, rfl, R1, hb⟩
  rw [← HQ1.out, ← HT1.out]
  rw [← HQ1.out] at R1
  have z_w1 := hb.size
  (try simp at z_w1)
  have K_w1 := hb
  clear hb
  have SP : w1.heap[w.heap.size]? = some (.cells #[.string d.name, .slice A1 d.labels.length c1, .int .i64 d.cpu, .int .i64 d.mem, .int .i64 d.rank, .slice A5 d.needs.length c5, .slice A6 d.tolerances.length c6] 44 (0, 0)) := (K_w1.block (w.heap.size) (by first | omega | (simp; omega) | (simp; done))).trans (by repeat (first | ((with_reducible refine heap_at ?_); (focus (simp; done))) | (with_reducible apply set7_0) | (with_reducible apply set7_1) | (with_reducible apply set7_2) | (with_reducible apply set7_3) | (with_reducible apply set7_4) | (with_reducible apply set7_5) | (with_reducible apply set7_6) | ((with_reducible refine (Below.heap_setCell _ _ _ _ ?_).trans ?_); focus (first | omega | (simp; omega) | (simp; done))) | ((with_reducible refine (Below.heap_alloc _ _ _ ?_).trans ?_); focus (first | omega | (simp; omega) | (simp; done)))))
  have SQ : w1.heap[w.heap.size + 1]? = some (.cells #[.string ⟨#[]⟩, .slice none 0 0, .int .i64 0, .int .i64 0, .int .i64 0, .slice none 0 0, .slice none 0 0] 44 (0, 0)) := (K_w1.block (w.heap.size + 1) (by first | omega | (simp; omega) | (simp; done))).trans (by repeat (first | ((with_reducible refine heap_at ?_); (focus (simp; done))) | (with_reducible apply set7_0) | (with_reducible apply set7_1) | (with_reducible apply set7_2) | (with_reducible apply set7_3) | (with_reducible apply set7_4) | (with_reducible apply set7_5) | (with_reducible apply set7_6) | ((with_reducible refine (Below.heap_setCell _ _ _ _ ?_).trans ?_); focus (first | omega | (simp; omega) | (simp; done))) | ((with_reducible refine (Below.heap_alloc _ _ _ ?_).trans ?_); focus (first | omega | (simp; omega) | (simp; done)))))
  have SO : w1.heap[w.heap.size + 1 + 1]? = some (.cells #[.string d.name, .slice A1 d.labels.length c1, .int .i64 d.cpu, .int .i64 d.mem, .int .i64 d.rank, .slice A5 d.needs.length c5, .slice A6 d.tolerances.length c6] 44 (0, 0)) := (K_w1.block (w.heap.size + 1 + 1) (by first | omega | (simp; omega) | (simp; done))).trans (by repeat (first | ((with_reducible refine heap_at ?_); (focus (simp; done))) | (with_reducible apply set7_0) | (with_reducible apply set7_1) | (with_reducible apply set7_2) | (with_reducible apply set7_3) | (with_reducible apply set7_4) | (with_reducible apply set7_5) | (with_reducible apply set7_6) | ((with_reducible refine (Below.heap_setCell _ _ _ _ ?_).trans ?_); focus (first | omega | (simp; omega) | (simp; done))) | ((with_reducible refine (Below.heap_alloc _ _ _ ?_).trans ?_); focus (first | omega | (simp; omega) | (simp; done)))))
  obtain ⟨xP0, xP1, xP2, xP3, xP4, xP5, xP6, xPf⟩ := row7x SP
  have lP := row_lt SP
  have mP := Nat.lt_succ_of_lt lP
  have nP := Nat.lt_succ_of_lt mP
  have RP := Lib.hid SP
  clear SP
  obtain ⟨xQ0, xQ1, xQ2, xQ3, xQ4, xQ5, xQ6, xQf⟩ := row7x SQ
  have lQ := row_lt SQ
  have mQ := Nat.lt_succ_of_lt lQ
  have nQ := Nat.lt_succ_of_lt mQ
  have RQ := Lib.hid SQ
  clear SQ
  obtain ⟨xO0, xO1, xO2, xO3, xO4, xO5, xO6, xOf⟩ := row7x SO
  have lO := row_lt SO
  have mO := Nat.lt_succ_of_lt lO
  have nO := Nat.lt_succ_of_lt mO
  have RO := Lib.hid SO
  clear SO
  have W1 := (RowE.own encL_len R1 (C := C_Label) HM1.out).carry (S' := fun b => w.heap.size + 3 ≤ b ∧ b < w1.heap.size) (fun _ _ => rfl) (fun b hb => ⟨by have := (World.ownsRow.lt R1 b hb).1; (try simp at this); omega, (World.ownsRow.lt R1 b hb).2⟩)
  clear R1
  have V1 := Lib.hid W1
  clear W1
  go_wp2_with fail
  refine (c_impl_SortNeeds d.needs _ _ _ (Sl_Need.now H5.out bel) hn5 hv).mono ?_
  rintro e w2 ⟨L5, X5, x5, rfl, hL5, R5, N5, P5, hb⟩
  rw [← HQ5.out, ← HT5.out]
  rw [← HQ5.out] at R5 hL5
  have z_w2 := hb.size
  (try simp at z_w2)
  have K_w2 := hb
  clear hb
  have SP : w2.heap[w.heap.size]? = some (.cells #[.string d.name, .slice A1 d.labels.length c1, .int .i64 d.cpu, .int .i64 d.mem, .int .i64 d.rank, .slice A5 d.needs.length c5, .slice A6 d.tolerances.length c6] 44 (0, 0)) := (K_w2.block (w.heap.size) (by first | omega | (simp; omega) | (simp; done))).trans (by repeat (first | (exact RP.out) | ((with_reducible refine heap_at ?_); (focus (simp; done))) | (with_reducible apply set7_0) | (with_reducible apply set7_1) | (with_reducible apply set7_2) | (with_reducible apply set7_3) | (with_reducible apply set7_4) | (with_reducible apply set7_5) | (with_reducible apply set7_6) | ((with_reducible refine (Below.heap_setCell _ _ _ _ ?_).trans ?_); focus (first | omega | (simp; omega) | (simp; done))) | ((with_reducible refine (Below.heap_alloc _ _ _ ?_).trans ?_); focus (first | omega | (simp; omega) | (simp; done)))))
  have SQ : w2.heap[w.heap.size + 1]? = some (.cells #[.string ⟨#[]⟩, .slice none 0 0, .int .i64 0, .int .i64 0, .int .i64 0, .slice none 0 0, .slice none 0 0] 44 (0, 0)) := (K_w2.block (w.heap.size + 1) (by first | omega | (simp; omega) | (simp; done))).trans (by repeat (first | (exact RQ.out) | ((with_reducible refine heap_at ?_); (focus (simp; done))) | (with_reducible apply set7_0) | (with_reducible apply set7_1) | (with_reducible apply set7_2) | (with_reducible apply set7_3) | (with_reducible apply set7_4) | (with_reducible apply set7_5) | (with_reducible apply set7_6) | ((with_reducible refine (Below.heap_setCell _ _ _ _ ?_).trans ?_); focus (first | omega | (simp; omega) | (simp; done))) | ((with_reducible refine (Below.heap_alloc _ _ _ ?_).trans ?_); focus (first | omega | (simp; omega) | (simp; done)))))
  have SO : w2.heap[w.heap.size + 1 + 1]? = some (.cells #[.string d.name, .slice X1 Q1.length x1, .int .i64 d.cpu, .int .i64 d.mem, .int .i64 d.rank, .slice A5 d.needs.length c5, .slice A6 d.tolerances.length c6] 44 (0, 0)) := (K_w2.block (w.heap.size + 1 + 1) (by first | omega | (simp; omega) | (simp; done))).trans (by repeat (first | (exact RO.out) | ((with_reducible refine heap_at ?_); (focus (simp; done))) | (with_reducible apply set7_0) | (with_reducible apply set7_1) | (with_reducible apply set7_2) | (with_reducible apply set7_3) | (with_reducible apply set7_4) | (with_reducible apply set7_5) | (with_reducible apply set7_6) | ((with_reducible refine (Below.heap_setCell _ _ _ _ ?_).trans ?_); focus (first | omega | (simp; omega) | (simp; done))) | ((with_reducible refine (Below.heap_alloc _ _ _ ?_).trans ?_); focus (first | omega | (simp; omega) | (simp; done)))))
  clear xP0 xP1 xP2 xP3 xP4 xP5 xP6 RP xPf lP mP nP
  clear xQ0 xQ1 xQ2 xQ3 xQ4 xQ5 xQ6 RQ xQf lQ mQ nQ
  clear xO0 xO1 xO2 xO3 xO4 xO5 xO6 RO xOf lO mO nO
  obtain ⟨xP0, xP1, xP2, xP3, xP4, xP5, xP6, xPf⟩ := row7x SP
  have lP := row_lt SP
  have mP := Nat.lt_succ_of_lt lP
  have nP := Nat.lt_succ_of_lt mP
  have RP := Lib.hid SP
  clear SP
  obtain ⟨xQ0, xQ1, xQ2, xQ3, xQ4, xQ5, xQ6, xQf⟩ := row7x SQ
  have lQ := row_lt SQ
  have mQ := Nat.lt_succ_of_lt lQ
  have nQ := Nat.lt_succ_of_lt mQ
  have RQ := Lib.hid SQ
  clear SQ
  obtain ⟨xO0, xO1, xO2, xO3, xO4, xO5, xO6, xOf⟩ := row7x SO
  have lO := row_lt SO
  have mO := Nat.lt_succ_of_lt lO
  have nO := Nat.lt_succ_of_lt mO
  have RO := Lib.hid SO
  clear SO
  have W5 : Own_Need (fun b => w1.heap.size ≤ b ∧ b < w2.heap.size) w2 Q5 (.slice X5 Q5.length x5) := ⟨L5, hL5, (OwnL.of_rows R5 N5 P5).carry (fun _ _ => rfl) (fun b hb => ⟨by have := hb.1; (try simp at this); omega, hb.2⟩)⟩
  clear hL5 R5 N5 P5
  have V5 := Lib.hid W5
  clear W5
  go_wp2_with fail
  refine (c_impl_SortTolerances d.tolerances _ _ _ (Sl_Tolerance.now H6.out bel) hn6).mono ?_
  rintro e w3 ⟨X6, x6, rfl, R6, hb⟩
  rw [← HQ6.out, ← HT6.out]
  rw [← HQ6.out] at R6
  have z_w3 := hb.size
  (try simp at z_w3)
  have K_w3 := hb
  clear hb
  have SP : w3.heap[w.heap.size]? = some (.cells #[.string d.name, .slice A1 d.labels.length c1, .int .i64 d.cpu, .int .i64 d.mem, .int .i64 d.rank, .slice A5 d.needs.length c5, .slice A6 d.tolerances.length c6] 44 (0, 0)) := (K_w3.block (w.heap.size) (by first | omega | (simp; omega) | (simp; done))).trans (by repeat (first | (exact RP.out) | ((with_reducible refine heap_at ?_); (focus (simp; done))) | (with_reducible apply set7_0) | (with_reducible apply set7_1) | (with_reducible apply set7_2) | (with_reducible apply set7_3) | (with_reducible apply set7_4) | (with_reducible apply set7_5) | (with_reducible apply set7_6) | ((with_reducible refine (Below.heap_setCell _ _ _ _ ?_).trans ?_); focus (first | omega | (simp; omega) | (simp; done))) | ((with_reducible refine (Below.heap_alloc _ _ _ ?_).trans ?_); focus (first | omega | (simp; omega) | (simp; done)))))
  have SQ : w3.heap[w.heap.size + 1]? = some (.cells #[.string ⟨#[]⟩, .slice none 0 0, .int .i64 0, .int .i64 0, .int .i64 0, .slice none 0 0, .slice none 0 0] 44 (0, 0)) := (K_w3.block (w.heap.size + 1) (by first | omega | (simp; omega) | (simp; done))).trans (by repeat (first | (exact RQ.out) | ((with_reducible refine heap_at ?_); (focus (simp; done))) | (with_reducible apply set7_0) | (with_reducible apply set7_1) | (with_reducible apply set7_2) | (with_reducible apply set7_3) | (with_reducible apply set7_4) | (with_reducible apply set7_5) | (with_reducible apply set7_6) | ((with_reducible refine (Below.heap_setCell _ _ _ _ ?_).trans ?_); focus (first | omega | (simp; omega) | (simp; done))) | ((with_reducible refine (Below.heap_alloc _ _ _ ?_).trans ?_); focus (first | omega | (simp; omega) | (simp; done)))))
  have SO : w3.heap[w.heap.size + 1 + 1]? = some (.cells #[.string d.name, .slice X1 Q1.length x1, .int .i64 d.cpu, .int .i64 d.mem, .int .i64 d.rank, .slice X5 Q5.length x5, .slice A6 d.tolerances.length c6] 44 (0, 0)) := (K_w3.block (w.heap.size + 1 + 1) (by first | omega | (simp; omega) | (simp; done))).trans (by repeat (first | (exact RO.out) | ((with_reducible refine heap_at ?_); (focus (simp; done))) | (with_reducible apply set7_0) | (with_reducible apply set7_1) | (with_reducible apply set7_2) | (with_reducible apply set7_3) | (with_reducible apply set7_4) | (with_reducible apply set7_5) | (with_reducible apply set7_6) | ((with_reducible refine (Below.heap_setCell _ _ _ _ ?_).trans ?_); focus (first | omega | (simp; omega) | (simp; done))) | ((with_reducible refine (Below.heap_alloc _ _ _ ?_).trans ?_); focus (first | omega | (simp; omega) | (simp; done)))))
  clear xP0 xP1 xP2 xP3 xP4 xP5 xP6 RP xPf lP mP nP
  clear xQ0 xQ1 xQ2 xQ3 xQ4 xQ5 xQ6 RQ xQf lQ mQ nQ
  clear xO0 xO1 xO2 xO3 xO4 xO5 xO6 RO xOf lO mO nO
  obtain ⟨xP0, xP1, xP2, xP3, xP4, xP5, xP6, xPf⟩ := row7x SP
  have lP := row_lt SP
  have mP := Nat.lt_succ_of_lt lP
  have nP := Nat.lt_succ_of_lt mP
  have RP := Lib.hid SP
  clear SP
  obtain ⟨xQ0, xQ1, xQ2, xQ3, xQ4, xQ5, xQ6, xQf⟩ := row7x SQ
  have lQ := row_lt SQ
  have mQ := Nat.lt_succ_of_lt lQ
  have nQ := Nat.lt_succ_of_lt mQ
  have RQ := Lib.hid SQ
  clear SQ
  obtain ⟨xO0, xO1, xO2, xO3, xO4, xO5, xO6, xOf⟩ := row7x SO
  have lO := row_lt SO
  have mO := Nat.lt_succ_of_lt lO
  have nO := Nat.lt_succ_of_lt mO
  have RO := Lib.hid SO
  clear SO
  have W6 := (RowE.own encTol_len R6 (C := C_Tolerance) HM6.out).carry (S' := fun b => w2.heap.size ≤ b ∧ b < w3.heap.size) (fun _ _ => rfl) (fun b hb => ⟨by have := (World.ownsRow.lt R6 b hb).1; (try simp at this); omega, (World.ownsRow.lt R6 b hb).2⟩)
  clear R6
  have V6 := Lib.hid W6
  clear W6
  rcases t1 with _ | _
  · have Hf := Lib.hid (show podNB d = (d, false) by rw [HD.out]; simp)
    go_wp2_with fail
    refine (c_impl_copyPod d _ _ _ (C_Pod.now HH.out bel) hn1 hn5 hn6 hv).mono ?_
    rintro e w9 ⟨cs', rfl, hC, hb⟩
    obtain ⟨Y1, y1, Y5, y5, Y6, y6, rfl⟩ := hC.open
    have VC := Lib.hid (hC.carry (S' := fun b => w3.heap.size ≤ b ∧ b < w9.heap.size) (fun _ _ => rfl) (fun b hb => ⟨by have := hb.1; (try simp at this); omega, hb.2⟩))
    clear hC
    have z_w9 := hb.size
    (try simp at z_w9)
    have K_w9 := hb
    clear hb
    have SQ : w9.heap[w.heap.size + 1]? = some (.cells #[.string ⟨#[]⟩, .slice none 0 0, .int .i64 0, .int .i64 0, .int .i64 0, .slice none 0 0, .slice none 0 0] 44 (0, 0)) := (K_w9.block (w.heap.size + 1) (by first | omega | (simp; omega) | (simp; done))).trans (by repeat (first | (exact RQ.out) | ((with_reducible refine heap_at ?_); (focus (simp; done))) | (with_reducible apply set7_0) | (with_reducible apply set7_1) | (with_reducible apply set7_2) | (with_reducible apply set7_3) | (with_reducible apply set7_4) | (with_reducible apply set7_5) | (with_reducible apply set7_6) | ((with_reducible refine (Below.heap_setCell _ _ _ _ ?_).trans ?_); focus (first | omega | (simp; omega) | (simp; done))) | ((with_reducible refine (Below.heap_alloc _ _ _ ?_).trans ?_); focus (first | omega | (simp; omega) | (simp; done)))))
    clear xP0 xP1 xP2 xP3 xP4 xP5 xP6 RP xPf lP mP nP
    clear xQ0 xQ1 xQ2 xQ3 xQ4 xQ5 xQ6 RQ xQf lQ mQ nQ
    clear xO0 xO1 xO2 xO3 xO4 xO5 xO6 RO xOf lO mO nO
    obtain ⟨xQ0, xQ1, xQ2, xQ3, xQ4, xQ5, xQ6, xQf⟩ := row7x SQ
    have lQ := row_lt SQ
    have mQ := Nat.lt_succ_of_lt lQ
    have nQ := Nat.lt_succ_of_lt mQ
    have RQ := Lib.hid SQ
    clear SQ
    go_wp2_with fail
    refine bodyPost_ret (v := .tuple #[.agg #[.string d.name, .slice Y1 d.labels.length y1, .int .i64 d.cpu, .int .i64 d.mem, .int .i64 d.rank, .slice Y5 d.needs.length y5, .slice Y6 d.tolerances.length y6], .bool false]) (by simp only [results, Tryz.results18]; go_simp) rfl ?_
    exact ⟨[.string d.name, .slice Y1 d.labels.length y1, .int .i64 d.cpu, .int .i64 d.mem, .int .i64 d.rank, .slice Y5 d.needs.length y5, .slice Y6 d.tolerances.length y6], by rw [Hf.out], by rw [Hf.out]; exact VC.out.carry (fun b hb => (by repeat (first | (with_reducible rfl) | ((with_reducible refine (Below.heap_setCell _ _ _ b ?_).trans ?_); focus (simp; omega)) | ((with_reducible refine (Below.heap_alloc _ _ b ?_).trans ?_); focus (simp; omega)) | ((with_reducible refine (Below.block (by assumption) b ?_).trans ?_); focus (simp; omega))))) (fun b hb => ⟨by omega, by have := hb.2; first | omega | (simp; done) | (simp; omega)⟩), bel⟩
  · skip
    rcases t5 with _ | _
    · have Hf := Lib.hid (show podNB d = (d, false) by rw [HD.out]; simp)
      go_wp2_with fail
      refine (c_impl_copyPod d _ _ _ (C_Pod.now HH.out bel) hn1 hn5 hn6 hv).mono ?_
      rintro e w9 ⟨cs', rfl, hC, hb⟩
      obtain ⟨Y1, y1, Y5, y5, Y6, y6, rfl⟩ := hC.open
      have VC := Lib.hid (hC.carry (S' := fun b => w3.heap.size ≤ b ∧ b < w9.heap.size) (fun _ _ => rfl) (fun b hb => ⟨by have := hb.1; (try simp at this); omega, hb.2⟩))
      clear hC
      have z_w9 := hb.size
      (try simp at z_w9)
      have K_w9 := hb
      clear hb
      have SQ : w9.heap[w.heap.size + 1]? = some (.cells #[.string ⟨#[]⟩, .slice none 0 0, .int .i64 0, .int .i64 0, .int .i64 0, .slice none 0 0, .slice none 0 0] 44 (0, 0)) := (K_w9.block (w.heap.size + 1) (by first | omega | (simp; omega) | (simp; done))).trans (by repeat (first | (exact RQ.out) | ((with_reducible refine heap_at ?_); (focus (simp; done))) | (with_reducible apply set7_0) | (with_reducible apply set7_1) | (with_reducible apply set7_2) | (with_reducible apply set7_3) | (with_reducible apply set7_4) | (with_reducible apply set7_5) | (with_reducible apply set7_6) | ((with_reducible refine (Below.heap_setCell _ _ _ _ ?_).trans ?_); focus (first | omega | (simp; omega) | (simp; done))) | ((with_reducible refine (Below.heap_alloc _ _ _ ?_).trans ?_); focus (first | omega | (simp; omega) | (simp; done)))))
      clear xP0 xP1 xP2 xP3 xP4 xP5 xP6 RP xPf lP mP nP
      clear xQ0 xQ1 xQ2 xQ3 xQ4 xQ5 xQ6 RQ xQf lQ mQ nQ
      clear xO0 xO1 xO2 xO3 xO4 xO5 xO6 RO xOf lO mO nO
      obtain ⟨xQ0, xQ1, xQ2, xQ3, xQ4, xQ5, xQ6, xQf⟩ := row7x SQ
      have lQ := row_lt SQ
      have mQ := Nat.lt_succ_of_lt lQ
      have nQ := Nat.lt_succ_of_lt mQ
      have RQ := Lib.hid SQ
      clear SQ
      go_wp2_with fail
      refine bodyPost_ret (v := .tuple #[.agg #[.string d.name, .slice Y1 d.labels.length y1, .int .i64 d.cpu, .int .i64 d.mem, .int .i64 d.rank, .slice Y5 d.needs.length y5, .slice Y6 d.tolerances.length y6], .bool false]) (by simp only [results, Tryz.results18]; go_simp) rfl ?_
      exact ⟨[.string d.name, .slice Y1 d.labels.length y1, .int .i64 d.cpu, .int .i64 d.mem, .int .i64 d.rank, .slice Y5 d.needs.length y5, .slice Y6 d.tolerances.length y6], by rw [Hf.out], by rw [Hf.out]; exact VC.out.carry (fun b hb => (by repeat (first | (with_reducible rfl) | ((with_reducible refine (Below.heap_setCell _ _ _ b ?_).trans ?_); focus (simp; omega)) | ((with_reducible refine (Below.heap_alloc _ _ b ?_).trans ?_); focus (simp; omega)) | ((with_reducible refine (Below.block (by assumption) b ?_).trans ?_); focus (simp; omega))))) (fun b hb => ⟨by omega, by have := hb.2; first | omega | (simp; done) | (simp; omega)⟩), bel⟩
    · skip
      rcases t6 with _ | _
      · have Hf := Lib.hid (show podNB d = (d, false) by rw [HD.out]; simp)
        go_wp2_with fail
        refine (c_impl_copyPod d _ _ _ (C_Pod.now HH.out bel) hn1 hn5 hn6 hv).mono ?_
        rintro e w9 ⟨cs', rfl, hC, hb⟩
        obtain ⟨Y1, y1, Y5, y5, Y6, y6, rfl⟩ := hC.open
        have VC := Lib.hid (hC.carry (S' := fun b => w3.heap.size ≤ b ∧ b < w9.heap.size) (fun _ _ => rfl) (fun b hb => ⟨by have := hb.1; (try simp at this); omega, hb.2⟩))
        clear hC
        have z_w9 := hb.size
        (try simp at z_w9)
        have K_w9 := hb
        clear hb
        have SQ : w9.heap[w.heap.size + 1]? = some (.cells #[.string ⟨#[]⟩, .slice none 0 0, .int .i64 0, .int .i64 0, .int .i64 0, .slice none 0 0, .slice none 0 0] 44 (0, 0)) := (K_w9.block (w.heap.size + 1) (by first | omega | (simp; omega) | (simp; done))).trans (by repeat (first | (exact RQ.out) | ((with_reducible refine heap_at ?_); (focus (simp; done))) | (with_reducible apply set7_0) | (with_reducible apply set7_1) | (with_reducible apply set7_2) | (with_reducible apply set7_3) | (with_reducible apply set7_4) | (with_reducible apply set7_5) | (with_reducible apply set7_6) | ((with_reducible refine (Below.heap_setCell _ _ _ _ ?_).trans ?_); focus (first | omega | (simp; omega) | (simp; done))) | ((with_reducible refine (Below.heap_alloc _ _ _ ?_).trans ?_); focus (first | omega | (simp; omega) | (simp; done)))))
        clear xP0 xP1 xP2 xP3 xP4 xP5 xP6 RP xPf lP mP nP
        clear xQ0 xQ1 xQ2 xQ3 xQ4 xQ5 xQ6 RQ xQf lQ mQ nQ
        clear xO0 xO1 xO2 xO3 xO4 xO5 xO6 RO xOf lO mO nO
        obtain ⟨xQ0, xQ1, xQ2, xQ3, xQ4, xQ5, xQ6, xQf⟩ := row7x SQ
        have lQ := row_lt SQ
        have mQ := Nat.lt_succ_of_lt lQ
        have nQ := Nat.lt_succ_of_lt mQ
        have RQ := Lib.hid SQ
        clear SQ
        go_wp2_with fail
        refine bodyPost_ret (v := .tuple #[.agg #[.string d.name, .slice Y1 d.labels.length y1, .int .i64 d.cpu, .int .i64 d.mem, .int .i64 d.rank, .slice Y5 d.needs.length y5, .slice Y6 d.tolerances.length y6], .bool false]) (by simp only [results, Tryz.results18]; go_simp) rfl ?_
        exact ⟨[.string d.name, .slice Y1 d.labels.length y1, .int .i64 d.cpu, .int .i64 d.mem, .int .i64 d.rank, .slice Y5 d.needs.length y5, .slice Y6 d.tolerances.length y6], by rw [Hf.out], by rw [Hf.out]; exact VC.out.carry (fun b hb => (by repeat (first | (with_reducible rfl) | ((with_reducible refine (Below.heap_setCell _ _ _ b ?_).trans ?_); focus (simp; omega)) | ((with_reducible refine (Below.heap_alloc _ _ b ?_).trans ?_); focus (simp; omega)) | ((with_reducible refine (Below.block (by assumption) b ?_).trans ?_); focus (simp; omega))))) (fun b hb => ⟨by omega, by have := hb.2; first | omega | (simp; done) | (simp; omega)⟩), bel⟩
      · skip
        go_wp2_with fail
        refine (c_impl_PodOk ⟨d.name, Q1, d.cpu, d.mem, d.rank, Q5, Q6⟩ [.string d.name, .slice X1 Q1.length x1, .int .i64 d.cpu, .int .i64 d.mem, .int .i64 d.rank, .slice X5 Q5.length x5, .slice X6 Q6.length x6] _ w.heap.size ?_).mono ?_
        · exact OwnPod.toC (S := fun b => w.heap.size ≤ b ∧ b < w3.heap.size) ⟨_, _, _, _, _, _, rfl, a0, V1.out.carry (fun b hb => (by repeat (first | (with_reducible rfl) | ((with_reducible refine (Below.heap_setCell _ _ _ b ?_).trans ?_); focus (simp; omega)) | ((with_reducible refine (Below.heap_alloc _ _ b ?_).trans ?_); focus (simp; omega)) | ((with_reducible refine (Below.block (by assumption) b ?_).trans ?_); focus (simp; omega))))) (fun _ h => h), a2, a3, a4, V5.out.carry (fun b hb => (by repeat (first | (with_reducible rfl) | ((with_reducible refine (Below.heap_setCell _ _ _ b ?_).trans ?_); focus (simp; omega)) | ((with_reducible refine (Below.heap_alloc _ _ b ?_).trans ?_); focus (simp; omega)) | ((with_reducible refine (Below.block (by assumption) b ?_).trans ?_); focus (simp; omega))))) (fun _ h => h), V6.out.carry (fun b hb => (by repeat (first | (with_reducible rfl) | ((with_reducible refine (Below.heap_setCell _ _ _ b ?_).trans ?_); focus (simp; omega)) | ((with_reducible refine (Below.heap_alloc _ _ b ?_).trans ?_); focus (simp; omega)) | ((with_reducible refine (Below.block (by assumption) b ?_).trans ?_); focus (simp; omega))))) (fun _ h => h), fun b hb => ⟨⟨by omega, by first | omega | (simp; done) | (simp; omega)⟩, by omega, by omega⟩, fun b hb => ⟨⟨by omega, by first | omega | (simp; done) | (simp; omega)⟩, by omega⟩, fun b hb => ⟨by omega, by first | omega | (simp; done) | (simp; omega)⟩⟩ (fun b hb => ⟨hb.1, by have := hb.2; first | omega | (simp; done) | (simp; omega)⟩)
        rintro e w8 ⟨rfl, hb⟩
        have z_w8 := hb.size
        (try simp at z_w8)
        have K_w8 := hb
        clear hb
        have SP : w8.heap[w.heap.size]? = some (.cells #[.string d.name, .slice A1 d.labels.length c1, .int .i64 d.cpu, .int .i64 d.mem, .int .i64 d.rank, .slice A5 d.needs.length c5, .slice A6 d.tolerances.length c6] 44 (0, 0)) := (K_w8.block (w.heap.size) (by first | omega | (simp; omega) | (simp; done))).trans (by repeat (first | (exact RP.out) | ((with_reducible refine heap_at ?_); (focus (simp; done))) | (with_reducible apply set7_0) | (with_reducible apply set7_1) | (with_reducible apply set7_2) | (with_reducible apply set7_3) | (with_reducible apply set7_4) | (with_reducible apply set7_5) | (with_reducible apply set7_6) | ((with_reducible refine (Below.heap_setCell _ _ _ _ ?_).trans ?_); focus (first | omega | (simp; omega) | (simp; done))) | ((with_reducible refine (Below.heap_alloc _ _ _ ?_).trans ?_); focus (first | omega | (simp; omega) | (simp; done)))))
        have SQ : w8.heap[w.heap.size + 1]? = some (.cells #[.string ⟨#[]⟩, .slice none 0 0, .int .i64 0, .int .i64 0, .int .i64 0, .slice none 0 0, .slice none 0 0] 44 (0, 0)) := (K_w8.block (w.heap.size + 1) (by first | omega | (simp; omega) | (simp; done))).trans (by repeat (first | (exact RQ.out) | ((with_reducible refine heap_at ?_); (focus (simp; done))) | (with_reducible apply set7_0) | (with_reducible apply set7_1) | (with_reducible apply set7_2) | (with_reducible apply set7_3) | (with_reducible apply set7_4) | (with_reducible apply set7_5) | (with_reducible apply set7_6) | ((with_reducible refine (Below.heap_setCell _ _ _ _ ?_).trans ?_); focus (first | omega | (simp; omega) | (simp; done))) | ((with_reducible refine (Below.heap_alloc _ _ _ ?_).trans ?_); focus (first | omega | (simp; omega) | (simp; done)))))
        have SO : w8.heap[w.heap.size + 1 + 1]? = some (.cells #[.string d.name, .slice X1 Q1.length x1, .int .i64 d.cpu, .int .i64 d.mem, .int .i64 d.rank, .slice X5 Q5.length x5, .slice X6 Q6.length x6] 44 (0, 0)) := (K_w8.block (w.heap.size + 1 + 1) (by first | omega | (simp; omega) | (simp; done))).trans (by repeat (first | (exact RO.out) | ((with_reducible refine heap_at ?_); (focus (simp; done))) | (with_reducible apply set7_0) | (with_reducible apply set7_1) | (with_reducible apply set7_2) | (with_reducible apply set7_3) | (with_reducible apply set7_4) | (with_reducible apply set7_5) | (with_reducible apply set7_6) | ((with_reducible refine (Below.heap_setCell _ _ _ _ ?_).trans ?_); focus (first | omega | (simp; omega) | (simp; done))) | ((with_reducible refine (Below.heap_alloc _ _ _ ?_).trans ?_); focus (first | omega | (simp; omega) | (simp; done)))))
        clear xP0 xP1 xP2 xP3 xP4 xP5 xP6 RP xPf lP mP nP
        clear xQ0 xQ1 xQ2 xQ3 xQ4 xQ5 xQ6 RQ xQf lQ mQ nQ
        clear xO0 xO1 xO2 xO3 xO4 xO5 xO6 RO xOf lO mO nO
        obtain ⟨xP0, xP1, xP2, xP3, xP4, xP5, xP6, xPf⟩ := row7x SP
        have lP := row_lt SP
        have mP := Nat.lt_succ_of_lt lP
        have nP := Nat.lt_succ_of_lt mP
        have RP := Lib.hid SP
        clear SP
        obtain ⟨xQ0, xQ1, xQ2, xQ3, xQ4, xQ5, xQ6, xQf⟩ := row7x SQ
        have lQ := row_lt SQ
        have mQ := Nat.lt_succ_of_lt lQ
        have nQ := Nat.lt_succ_of_lt mQ
        have RQ := Lib.hid SQ
        clear SQ
        obtain ⟨xO0, xO1, xO2, xO3, xO4, xO5, xO6, xOf⟩ := row7x SO
        have lO := row_lt SO
        have mO := Nat.lt_succ_of_lt lO
        have nO := Nat.lt_succ_of_lt mO
        have RO := Lib.hid SO
        clear SO
        rcases ht : podB ⟨d.name, Q1, d.cpu, d.mem, d.rank, Q5, Q6⟩ with _ | _
        · have Hf := Lib.hid (show podNB d = (d, false) by rw [HD.out, ht]; rfl)
          go_wp2_with fail
          refine (c_impl_copyPod d _ _ _ (C_Pod.now HH.out bel) hn1 hn5 hn6 hv).mono ?_
          rintro e w9 ⟨cs', rfl, hC, hb⟩
          obtain ⟨Y1, y1, Y5, y5, Y6, y6, rfl⟩ := hC.open
          have VC := Lib.hid (hC.carry (S' := fun b => w8.heap.size ≤ b ∧ b < w9.heap.size) (fun _ _ => rfl) (fun b hb => ⟨by have := hb.1; (try simp at this); omega, hb.2⟩))
          clear hC
          have z_w9 := hb.size
          (try simp at z_w9)
          have K_w9 := hb
          clear hb
          have SQ : w9.heap[w.heap.size + 1]? = some (.cells #[.string ⟨#[]⟩, .slice none 0 0, .int .i64 0, .int .i64 0, .int .i64 0, .slice none 0 0, .slice none 0 0] 44 (0, 0)) := (K_w9.block (w.heap.size + 1) (by first | omega | (simp; omega) | (simp; done))).trans (by repeat (first | (exact RQ.out) | ((with_reducible refine heap_at ?_); (focus (simp; done))) | (with_reducible apply set7_0) | (with_reducible apply set7_1) | (with_reducible apply set7_2) | (with_reducible apply set7_3) | (with_reducible apply set7_4) | (with_reducible apply set7_5) | (with_reducible apply set7_6) | ((with_reducible refine (Below.heap_setCell _ _ _ _ ?_).trans ?_); focus (first | omega | (simp; omega) | (simp; done))) | ((with_reducible refine (Below.heap_alloc _ _ _ ?_).trans ?_); focus (first | omega | (simp; omega) | (simp; done)))))
          clear xP0 xP1 xP2 xP3 xP4 xP5 xP6 RP xPf lP mP nP
          clear xQ0 xQ1 xQ2 xQ3 xQ4 xQ5 xQ6 RQ xQf lQ mQ nQ
          clear xO0 xO1 xO2 xO3 xO4 xO5 xO6 RO xOf lO mO nO
          obtain ⟨xQ0, xQ1, xQ2, xQ3, xQ4, xQ5, xQ6, xQf⟩ := row7x SQ
          have lQ := row_lt SQ
          have mQ := Nat.lt_succ_of_lt lQ
          have nQ := Nat.lt_succ_of_lt mQ
          have RQ := Lib.hid SQ
          clear SQ
          go_wp2_with fail
          refine bodyPost_ret (v := .tuple #[.agg #[.string d.name, .slice Y1 d.labels.length y1, .int .i64 d.cpu, .int .i64 d.mem, .int .i64 d.rank, .slice Y5 d.needs.length y5, .slice Y6 d.tolerances.length y6], .bool false]) (by simp only [results, Tryz.results18]; go_simp) rfl ?_
          exact ⟨[.string d.name, .slice Y1 d.labels.length y1, .int .i64 d.cpu, .int .i64 d.mem, .int .i64 d.rank, .slice Y5 d.needs.length y5, .slice Y6 d.tolerances.length y6], by rw [Hf.out], by rw [Hf.out]; exact VC.out.carry (fun b hb => (by repeat (first | (with_reducible rfl) | ((with_reducible refine (Below.heap_setCell _ _ _ b ?_).trans ?_); focus (simp; omega)) | ((with_reducible refine (Below.heap_alloc _ _ b ?_).trans ?_); focus (simp; omega)) | ((with_reducible refine (Below.block (by assumption) b ?_).trans ?_); focus (simp; omega))))) (fun b hb => ⟨by omega, by have := hb.2; first | omega | (simp; done) | (simp; omega)⟩), bel⟩
        · have Hf := Lib.hid (show podNB d = (⟨d.name, Q1, d.cpu, d.mem, d.rank, Q5, Q6⟩, true) by rw [HD.out, ht]; rfl)
          go_wp2_with fail
          refine bodyPost_ret (v := .tuple #[.agg #[.string d.name, .slice X1 Q1.length x1, .int .i64 d.cpu, .int .i64 d.mem, .int .i64 d.rank, .slice X5 Q5.length x5, .slice X6 Q6.length x6], .bool true]) (by simp only [results, Tryz.results18]; go_simp) rfl ?_
          exact ⟨[.string d.name, .slice X1 Q1.length x1, .int .i64 d.cpu, .int .i64 d.mem, .int .i64 d.rank, .slice X5 Q5.length x5, .slice X6 Q6.length x6], by rw [Hf.out], by rw [Hf.out]; exact ⟨_, _, _, _, _, _, rfl, a0, V1.out.carry (fun b hb => (by repeat (first | (with_reducible rfl) | ((with_reducible refine (Below.heap_setCell _ _ _ b ?_).trans ?_); focus (simp; omega)) | ((with_reducible refine (Below.heap_alloc _ _ b ?_).trans ?_); focus (simp; omega)) | ((with_reducible refine (Below.block (by assumption) b ?_).trans ?_); focus (simp; omega))))) (fun _ h => h), a2, a3, a4, V5.out.carry (fun b hb => (by repeat (first | (with_reducible rfl) | ((with_reducible refine (Below.heap_setCell _ _ _ b ?_).trans ?_); focus (simp; omega)) | ((with_reducible refine (Below.heap_alloc _ _ b ?_).trans ?_); focus (simp; omega)) | ((with_reducible refine (Below.block (by assumption) b ?_).trans ?_); focus (simp; omega))))) (fun _ h => h), V6.out.carry (fun b hb => (by repeat (first | (with_reducible rfl) | ((with_reducible refine (Below.heap_setCell _ _ _ b ?_).trans ?_); focus (simp; omega)) | ((with_reducible refine (Below.heap_alloc _ _ b ?_).trans ?_); focus (simp; omega)) | ((with_reducible refine (Below.block (by assumption) b ?_).trans ?_); focus (simp; omega))))) (fun _ h => h), fun b hb => ⟨⟨by omega, by first | omega | (simp; done) | (simp; omega)⟩, by omega, by omega⟩, fun b hb => ⟨⟨by omega, by first | omega | (simp; done) | (simp; omega)⟩, by omega⟩, fun b hb => ⟨by omega, by first | omega | (simp; done) | (simp; omega)⟩⟩, bel⟩
end Go.Proofs.YtmhlnbihppojmaaGreat
