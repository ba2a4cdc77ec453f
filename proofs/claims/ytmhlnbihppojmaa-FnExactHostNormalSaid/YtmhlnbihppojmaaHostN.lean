/- HostNormal of both, and the laws' own functions on a Host over rows that the call owns. No conditions. Written by wip/tools/genhostn.py. -/
import Derived.Test.YtmhlnbihppojmaaSortLI
import Derived.Test.YtmhlnbihppojmaaSorted
import Derived.Test.YtmhlnbihppojmaaHostOk
import Derived.Test.YtmhlnbihppojmaaRowLabel
import Derived.Test.YtmhlnbihppojmaaRowTaint
namespace Go.Proofs.Ytmhlnbihppojmaa
open Go.RowKit Go.Lib

theorem row6x {w : World} {b : Nat} {a0 a1 a2 a3 a4 a5 : Value} {e : TypeId} (hr : w.heap[b]? = some (.cells #[a0, a1, a2, a3, a4, a5] e (0, 0))) :
    w.cell? ⟨b, 0, none⟩ = some a0 ∧ w.cell? ⟨b, 1, none⟩ = some a1 ∧ w.cell? ⟨b, 2, none⟩ = some a2 ∧ w.cell? ⟨b, 3, none⟩ = some a3 ∧ w.cell? ⟨b, 4, none⟩ = some a4 ∧ w.cell? ⟨b, 5, none⟩ = some a5 ∧ ∀ o, w.frozen? ⟨b, o, none⟩ = false :=
  ⟨by rw [cell_of_row _ _ _ _ _ _ hr]; rfl, by rw [cell_of_row _ _ _ _ _ _ hr]; rfl, by rw [cell_of_row _ _ _ _ _ _ hr]; rfl, by rw [cell_of_row _ _ _ _ _ _ hr]; rfl, by rw [cell_of_row _ _ _ _ _ _ hr]; rfl, by rw [cell_of_row _ _ _ _ _ _ hr]; rfl, fun o => frozen_row hr o⟩
theorem set6_0 {w : World} {b : Nat} {a0 a1 a2 a3 a4 a5 v : Value} {e : TypeId} (h : w.heap[b]? = some (.cells #[a0, a1, a2, a3, a4, a5] e (0, 0))) : (w.setCell ⟨b, 0, none⟩ v).heap[b]? = some (.cells #[v, a1, a2, a3, a4, a5] e (0, 0)) := heap_setCell_same w b 0 _ _ v h
theorem set6_1 {w : World} {b : Nat} {a0 a1 a2 a3 a4 a5 v : Value} {e : TypeId} (h : w.heap[b]? = some (.cells #[a0, a1, a2, a3, a4, a5] e (0, 0))) : (w.setCell ⟨b, 1, none⟩ v).heap[b]? = some (.cells #[a0, v, a2, a3, a4, a5] e (0, 0)) := heap_setCell_same w b 1 _ _ v h
theorem set6_2 {w : World} {b : Nat} {a0 a1 a2 a3 a4 a5 v : Value} {e : TypeId} (h : w.heap[b]? = some (.cells #[a0, a1, a2, a3, a4, a5] e (0, 0))) : (w.setCell ⟨b, 2, none⟩ v).heap[b]? = some (.cells #[a0, a1, v, a3, a4, a5] e (0, 0)) := heap_setCell_same w b 2 _ _ v h
theorem set6_3 {w : World} {b : Nat} {a0 a1 a2 a3 a4 a5 v : Value} {e : TypeId} (h : w.heap[b]? = some (.cells #[a0, a1, a2, a3, a4, a5] e (0, 0))) : (w.setCell ⟨b, 3, none⟩ v).heap[b]? = some (.cells #[a0, a1, a2, v, a4, a5] e (0, 0)) := heap_setCell_same w b 3 _ _ v h
theorem set6_4 {w : World} {b : Nat} {a0 a1 a2 a3 a4 a5 v : Value} {e : TypeId} (h : w.heap[b]? = some (.cells #[a0, a1, a2, a3, a4, a5] e (0, 0))) : (w.setCell ⟨b, 4, none⟩ v).heap[b]? = some (.cells #[a0, a1, a2, a3, v, a5] e (0, 0)) := heap_setCell_same w b 4 _ _ v h
theorem set6_5 {w : World} {b : Nat} {a0 a1 a2 a3 a4 a5 v : Value} {e : TypeId} (h : w.heap[b]? = some (.cells #[a0, a1, a2, a3, a4, a5] e (0, 0))) : (w.setCell ⟨b, 5, none⟩ v).heap[b]? = some (.cells #[a0, a1, a2, a3, a4, v] e (0, 0)) := heap_setCell_same w b 5 _ _ v h
theorem fresh_row {P : Program} {D : Type} {enc : D → List Value} {C : D → List Value → Prop} (W0 : World) (t ty : TypeId) (e : TypeId) (i : TypeInfo) (z : Value) (sz bytes : Nat) (ht : P.underlying t = some (.slice e)) (hi : P.info? e = some i) (hz : i.zero = some z)
    (hsize : i.size = sz) (hby : i.bytes = bytes) (hzs : z.cells.size = sz) (hsz : 0 < sz) (hk : ∀ d, (enc d).length = sz) (h1 : ∀ d, ∀ v ∈ enc d, v.oneCell' = true) (hC : ∀ d es, C d es → es = enc d) (B0 : Nat) (hB0 : B0 = W0.heap.size)
    (l : List D) (A : Option Addr) (c lo : Nat) (hl : SlOf C sz lo W0.heap.size W0 l (.slice A l.length c)) (h63 : l.length ≤ maxLen) (hbytes : l.length * bytes ≤ 140737488355328) :
    ∃ A' c' w', (Builtin.append_ #[t, t] ty #[.slice (some ⟨B0, 0, none⟩) 0 0, .slice A l.length c]).run P (W0.alloc (.cells #[] e)) = .ok (.slice A' l.length c') w' ∧ RowE enc sz e W0.heap.size w' l (.slice A' l.length c') ∧ Below W0.heap.size W0 w' := by
  subst hB0
  have hown : RowE enc sz e W0.heap.size (W0.alloc (.cells #[] e)) [] (.slice (some ⟨W0.heap.size, 0, none⟩) 0 0) := own_empty rfl (Nat.le_refl _)
  have hb0 : Below W0.heap.size W0 (W0.alloc (.cells #[] e)) := (Below.refl _ _).alloc (Nat.le_refl _) _
  obtain ⟨v', w1, hr, hR, hgrow, hat⟩ := run_append_rows (P := P) (enc := enc) (C := C) (W0.alloc (.cells #[] e)) t ty W0.heap.size e i z sz bytes ht hi hz hsize hby hzs hsz hk h1 hC _ 0 [] rfl hown l A l.length c lo _ rfl (SlOf.now hl hb0) (by omega) (by rw [Nat.zero_add]; exact hbytes) (by simp)
  rw [List.nil_append] at hR
  obtain ⟨A', c', rfl⟩ := hR.form
  exact ⟨A', c', w1, hr, hR, Below.grown hb0 hgrow (by simp) (fun k hk => by simp [Value.ownBlock] at hk; omega)⟩
/-- cs are the cells of host d, its rows lie in blocks of S, no two in one block. -/
def OwnHost (S : Nat → Prop) (w : World) (d : Host) (cs : List Value) : Prop := ∃ (v1 v5 : Value) (S1 S5 : Nat → Prop), cs = [.string d.name, v1, .int .i64 d.cpu, .int .i64 d.mem, .int .i64 d.slots, v5] ∧ d.name.size ≤ 9223372036854775807 ∧ Own_Label S1 w d.labels v1 ∧ I64 d.cpu ∧ I64 d.mem ∧ I64 d.slots ∧ Own_Taint S5 w d.taints v5 ∧ (∀ b, S1 b → S b ∧ ¬ S5 b) ∧ (∀ b, S5 b → S b)
theorem OwnHost.carry {S S' : Nat → Prop} {w w' : World} {d : Host} {cs : List Value} (h : OwnHost S w d cs) (hs : ∀ b, S b → w'.heap[b]? = w.heap[b]?) (hS : ∀ b, S b → S' b) : OwnHost S' w' d cs := by
  obtain ⟨v1, v5, S1, S5, rfl, a0, a1, a2, a3, a4, a5, s1, s5⟩ := h
  exact ⟨_, _, S1, S5, rfl, a0, a1.carry (fun b hb => hs b (s1 b hb).1) (fun _ h => h), a2, a3, a4, a5.carry (fun b hb => hs b (s5 b hb)) (fun _ h => h), fun b hb => ⟨hS b (s1 b hb).1, (s1 b hb).2⟩, fun b hb => hS b (s5 b hb)⟩
theorem OwnHost.toC {lo hi : Nat} {S : Nat → Prop} {w : World} {d : Host} {cs : List Value} (h : OwnHost S w d cs) (hS : ∀ b, S b → lo ≤ b ∧ b < hi) : C_Host lo hi w d cs := by
  obtain ⟨v1, v5, S1, S5, rfl, a0, a1, a2, a3, a4, a5, s1, s5⟩ := h
  exact ⟨_, _, rfl, a0, a1.toC (fun b hb => hS b (s1 b hb).1), a2, a3, a4, a5.toC (fun b hb => hS b (s5 b hb))⟩
theorem OwnHost.open {S : Nat → Prop} {w : World} {d : Host} {cs : List Value} (h : OwnHost S w d cs) : ∃ A1 c1 A5 c5, cs = [.string d.name, .slice A1 d.labels.length c1, .int .i64 d.cpu, .int .i64 d.mem, .int .i64 d.slots, .slice A5 d.taints.length c5] := by
  obtain ⟨v1, v5, S1, S5, rfl, a0, a1, a2, a3, a4, a5, s1, s5⟩ := h
  obtain ⟨A1, c1, rfl⟩ := a1.form
  obtain ⟨A5, c5, rfl⟩ := a5.form
  exact ⟨A1, c1, A5, c5, rfl⟩
def hostNB (d : Host) : Host × Bool :=
  if (sortLB d.labels).2 && (sortTB d.taints).2 && hostB ⟨d.name, (sortLB d.labels).1, d.cpu, d.mem, d.slots, (sortTB d.taints).1⟩ then (⟨d.name, (sortLB d.labels).1, d.cpu, d.mem, d.slots, (sortTB d.taints).1⟩, true) else (d, false)
set_option maxHeartbeats 2000000 in
set_option maxRecDepth 10000 in
theorem c_spec_copyHost (d : Host) (cs : List Value) (w : World) (lo : Nat) (h : C_Host lo w.heap.size w d cs) (hn1 : d.labels.length ≤ 1048576) (hn5 : d.taints.length ≤ 1048576) :
    Calls Try.prog 89 #[.agg cs.toArray] w fun e w' => ∃ cs', e = .returned (.agg cs'.toArray) ∧ C_Host w.heap.size w'.heap.size w' d cs' ∧ Below w.heap.size w w' := by
  obtain ⟨v1, v5, rfl, a0, a1, a2, a3, a4, a5⟩ := h
  obtain ⟨A1, c1, rfl⟩ := a1.form
  obtain ⟨A5, c5, rfl⟩ := a5.form
  have H1 := Lib.hid a1
  have H5 := Lib.hid a5
  clear a1 a5
  obtain ⟨i1, hi1, hz10, hz11, hz12⟩ := info_parts (show (Try.prog.info? 142).map (fun i => (i.zero, i.size, i.bytes)) = some (some (.agg #[.string ⟨#[]⟩, .string ⟨#[]⟩]), 2, 32) from by kernel_rfl)
  obtain ⟨i5, hi5, hz50, hz51, hz52⟩ := info_parts (show (Try.prog.info? 45).map (fun i => (i.zero, i.size, i.bytes)) = some (some (.agg #[.string ⟨#[]⟩, .string ⟨#[]⟩, .int .i64 0]), 3, 40) from by kernel_rfl)
  go_enter Try.func89, Try.ntmps89
  have E1 : Below w.heap.size w ((w.alloc (.cells #[.string d.name, .slice A1 d.labels.length c1, .int .i64 d.cpu, .int .i64 d.mem, .int .i64 d.slots, .slice A5 d.taints.length c5] 65)).alloc (.cells #[.string ⟨#[]⟩, .slice none 0 0, .int .i64 0, .int .i64 0, .int .i64 0, .slice none 0 0] 65)) := (by repeat (first | (with_reducible exact Below.refl _ _) | (with_reducible refine ext_alloc ?_) | ((with_reducible refine ext_setCell ?_ ?_); focus (simp; (try omega))) | (with_reducible refine below_drewN ?_ _) | (with_reducible refine Below.drew ?_) | (with_reducible (apply ext_step; assumption))))
  obtain ⟨X1, x1, w1, hr1, R1, hb⟩ := fresh_row (P := Try.prog) (enc := encL) (C := C_Label) ((w.alloc (.cells #[.string d.name, .slice A1 d.labels.length c1, .int .i64 d.cpu, .int .i64 d.mem, .int .i64 d.slots, .slice A5 d.taints.length c5] 65)).alloc (.cells #[.string ⟨#[]⟩, .slice none 0 0, .int .i64 0, .int .i64 0, .int .i64 0, .slice none 0 0] 65)) 63 63 142 i1 (.agg #[.string ⟨#[]⟩, .string ⟨#[]⟩]) 2 32 Try.underlying63 hi1 hz10 hz11 hz12 rfl (by decide) encL_len encL_one encL_C (w.heap.size + 1 + 1) (by simp) d.labels A1 c1 lo (Sl_Label.now H1.out E1) (by unfold maxLen; omega) (by omega)
  clear E1
  have HR1 := Lib.hid R1
  clear R1
  have z_w1 := hb.size
  (try simp at z_w1)
  have K_w1 := hb
  clear hb
  have SP0 : w1.heap[w.heap.size]? = some (.cells #[.string d.name, .slice A1 d.labels.length c1, .int .i64 d.cpu, .int .i64 d.mem, .int .i64 d.slots, .slice A5 d.taints.length c5] 65 (0, 0)) := (K_w1.block (w.heap.size) (by first | omega | (simp; omega) | (simp; done))).trans (by repeat (first | ((with_reducible refine heap_at ?_); (focus (simp; done))) | (with_reducible apply set6_0) | (with_reducible apply set6_1) | (with_reducible apply set6_2) | (with_reducible apply set6_3) | (with_reducible apply set6_4) | (with_reducible apply set6_5) | ((with_reducible refine (Below.heap_setCell _ _ _ _ ?_).trans ?_); focus (first | omega | (simp; omega) | (simp; done))) | ((with_reducible refine (Below.heap_alloc _ _ _ ?_).trans ?_); focus (first | omega | (simp; omega) | (simp; done)))))
  have SQ0 : w1.heap[w.heap.size + 1]? = some (.cells #[.string ⟨#[]⟩, .slice none 0 0, .int .i64 0, .int .i64 0, .int .i64 0, .slice none 0 0] 65 (0, 0)) := (K_w1.block (w.heap.size + 1) (by first | omega | (simp; omega) | (simp; done))).trans (by repeat (first | ((with_reducible refine heap_at ?_); (focus (simp; done))) | (with_reducible apply set6_0) | (with_reducible apply set6_1) | (with_reducible apply set6_2) | (with_reducible apply set6_3) | (with_reducible apply set6_4) | (with_reducible apply set6_5) | ((with_reducible refine (Below.heap_setCell _ _ _ _ ?_).trans ?_); focus (first | omega | (simp; omega) | (simp; done))) | ((with_reducible refine (Below.heap_alloc _ _ _ ?_).trans ?_); focus (first | omega | (simp; omega) | (simp; done)))))
  obtain ⟨xP00, xP01, xP02, xP03, xP04, xP05, xP0f⟩ := row6x SP0
  have lP0 := row_lt SP0
  have mP0 := Nat.lt_succ_of_lt lP0
  have nP0 := Nat.lt_succ_of_lt mP0
  have RP0 := Lib.hid SP0
  clear SP0
  obtain ⟨xQ00, xQ01, xQ02, xQ03, xQ04, xQ05, xQ0f⟩ := row6x SQ0
  have lQ0 := row_lt SQ0
  have mQ0 := Nat.lt_succ_of_lt lQ0
  have nQ0 := Nat.lt_succ_of_lt mQ0
  have RQ0 := Lib.hid SQ0
  clear SQ0
  have R1 := HR1.out
  clear HR1
  have W1 := Sl_Label.keep (RowE.sl encL_len R1 (C := C_Label) (Label_of_sl H1.out)) (Same.refl _ _ _) (show w.heap.size + 2 ≤ _ by simp) (Nat.le_refl _)
  clear R1
  have V1 := Lib.hid W1
  clear W1
  have E5 : Below w.heap.size w (w1.setCell ⟨w.heap.size, 1, none⟩ (.slice X1 d.labels.length x1)) := (by repeat (first | (with_reducible exact Below.refl _ _) | (with_reducible refine ext_alloc ?_) | ((with_reducible refine ext_setCell ?_ ?_); focus (simp; (try omega))) | (with_reducible refine below_drewN ?_ _) | (with_reducible refine Below.drew ?_) | (with_reducible (apply ext_step; assumption))))
  obtain ⟨X5, x5, w2, hr5, R5, hb⟩ := fresh_row (P := Try.prog) (enc := encT) (C := C_Taint) (w1.setCell ⟨w.heap.size, 1, none⟩ (.slice X1 d.labels.length x1)) 24 24 45 i5 (.agg #[.string ⟨#[]⟩, .string ⟨#[]⟩, .int .i64 0]) 3 40 Try.underlying24 hi5 hz50 hz51 hz52 rfl (by decide) encT_len encT_one encT_C (w1.heap.size) (by simp) d.taints A5 c5 lo (Sl_Taint.now H5.out E5) (by unfold maxLen; omega) (by omega)
  clear E5
  have HR5 := Lib.hid R5
  clear R5
  have z_w2 := hb.size
  (try simp at z_w2)
  have K_w2 := hb
  clear hb
  have SP1 : w2.heap[w.heap.size]? = some (.cells #[.string d.name, .slice X1 d.labels.length x1, .int .i64 d.cpu, .int .i64 d.mem, .int .i64 d.slots, .slice A5 d.taints.length c5] 65 (0, 0)) := (K_w2.block (w.heap.size) (by first | omega | (simp; omega) | (simp; done))).trans (by repeat (first | (exact RP0.out) | ((with_reducible refine heap_at ?_); (focus (simp; done))) | (with_reducible apply set6_0) | (with_reducible apply set6_1) | (with_reducible apply set6_2) | (with_reducible apply set6_3) | (with_reducible apply set6_4) | (with_reducible apply set6_5) | ((with_reducible refine (Below.heap_setCell _ _ _ _ ?_).trans ?_); focus (first | omega | (simp; omega) | (simp; done))) | ((with_reducible refine (Below.heap_alloc _ _ _ ?_).trans ?_); focus (first | omega | (simp; omega) | (simp; done)))))
  have SQ1 : w2.heap[w.heap.size + 1]? = some (.cells #[.string ⟨#[]⟩, .slice none 0 0, .int .i64 0, .int .i64 0, .int .i64 0, .slice none 0 0] 65 (0, 0)) := (K_w2.block (w.heap.size + 1) (by first | omega | (simp; omega) | (simp; done))).trans (by repeat (first | (exact RQ0.out) | ((with_reducible refine heap_at ?_); (focus (simp; done))) | (with_reducible apply set6_0) | (with_reducible apply set6_1) | (with_reducible apply set6_2) | (with_reducible apply set6_3) | (with_reducible apply set6_4) | (with_reducible apply set6_5) | ((with_reducible refine (Below.heap_setCell _ _ _ _ ?_).trans ?_); focus (first | omega | (simp; omega) | (simp; done))) | ((with_reducible refine (Below.heap_alloc _ _ _ ?_).trans ?_); focus (first | omega | (simp; omega) | (simp; done)))))
  obtain ⟨xP10, xP11, xP12, xP13, xP14, xP15, xP1f⟩ := row6x SP1
  have lP1 := row_lt SP1
  have mP1 := Nat.lt_succ_of_lt lP1
  have nP1 := Nat.lt_succ_of_lt mP1
  have RP1 := Lib.hid SP1
  clear SP1
  obtain ⟨xQ10, xQ11, xQ12, xQ13, xQ14, xQ15, xQ1f⟩ := row6x SQ1
  have lQ1 := row_lt SQ1
  have mQ1 := Nat.lt_succ_of_lt lQ1
  have nQ1 := Nat.lt_succ_of_lt mQ1
  have RQ1 := Lib.hid SQ1
  clear SQ1
  have R5 := HR5.out
  clear HR5
  have W5 := Sl_Taint.keep (RowE.sl encT_len R5 (C := C_Taint) (Taint_of_ord H5.out)) (Same.refl _ _ _) (show w1.heap.size ≤ _ by simp) (Nat.le_refl _)
  clear R5
  have V5 := Lib.hid W5
  clear W5
  go_wp2_with (first | (at_builtin; refine wpList_append_of rfl (.tmp 3) (.tmp 5) 63 rfl _ _ _ w1 rfl rfl hr1 ?_) | (at_builtin; refine wpList_append_of rfl (.tmp 8) (.tmp 10) 24 rfl _ _ _ w2 rfl rfl hr5 ?_))
  refine bodyPost_ret (v := .agg #[.string d.name, .slice X1 d.labels.length x1, .int .i64 d.cpu, .int .i64 d.mem, .int .i64 d.slots, .slice X5 d.taints.length x5]) (by simp only [results, Try.results89]; go_simp) rfl ?_
  refine ⟨[.string d.name, .slice X1 d.labels.length x1, .int .i64 d.cpu, .int .i64 d.mem, .int .i64 d.slots, .slice X5 d.taints.length x5], rfl, ?_, (by repeat (first | (with_reducible exact Below.refl _ _) | (with_reducible refine ext_alloc ?_) | ((with_reducible refine ext_setCell ?_ ?_); focus (simp; (try omega))) | (with_reducible refine below_drewN ?_ _) | (with_reducible refine Below.drew ?_) | (with_reducible (apply ext_step; assumption))))⟩
  exact ⟨_, _, rfl, a0, SlOf.keep V1.out (by repeat (first | (with_reducible exact Same.refl _ _ _) | ((with_reducible refine same_setCell ?_ ?_); (focus (first | omega | (simp; done) | (simp; omega)))) | ((with_reducible refine same_alloc ?_ ?_); (focus (first | omega | (simp; done) | (simp; omega)))) | ((with_reducible refine same_step (by assumption) ?_ ?_); (focus (first | omega | (simp; done) | (simp; omega)))))) (by first | omega | (simp; done) | (simp; omega)) (by first | omega | (simp; done) | (simp; omega)) (fun _ _ _ h => h), a2, a3, a4, SlOf.keep V5.out (by repeat (first | (with_reducible exact Same.refl _ _ _) | ((with_reducible refine same_setCell ?_ ?_); (focus (first | omega | (simp; done) | (simp; omega)))) | ((with_reducible refine same_alloc ?_ ?_); (focus (first | omega | (simp; done) | (simp; omega)))) | ((with_reducible refine same_step (by assumption) ?_ ?_); (focus (first | omega | (simp; done) | (simp; omega)))))) (by first | omega | (simp; done) | (simp; omega)) (by first | omega | (simp; done) | (simp; omega)) (fun _ _ _ h => h)⟩
set_option maxHeartbeats 2000000 in
set_option maxRecDepth 10000 in
theorem c_impl_copyHost (d : Host) (cs : List Value) (w : World) (lo : Nat) (h : C_Host lo w.heap.size w d cs) (hn1 : d.labels.length ≤ 1048576) (hn5 : d.taints.length ≤ 1048576) :
    Calls Try.prog 93 #[.agg cs.toArray] w fun e w' => ∃ cs', e = .returned (.agg cs'.toArray) ∧ OwnHost (fun b => w.heap.size ≤ b ∧ b < w'.heap.size) w' d cs' ∧ Below w.heap.size w w' := by
  obtain ⟨v1, v5, rfl, a0, a1, a2, a3, a4, a5⟩ := h
  obtain ⟨A1, c1, rfl⟩ := a1.form
  obtain ⟨A5, c5, rfl⟩ := a5.form
  have H1 := Lib.hid a1
  have H5 := Lib.hid a5
  clear a1 a5
  go_enter Try.func93, Try.ntmps93
  go_wp2_with fail
  refine (c_Clone_Label d.labels _ _ _ (Sl_Label.now H1.out (by repeat (first | (with_reducible exact Below.refl _ _) | (with_reducible refine ext_alloc ?_) | ((with_reducible refine ext_setCell ?_ ?_); focus (simp; (try omega))) | (with_reducible refine below_drewN ?_ _) | (with_reducible refine Below.drew ?_) | (with_reducible (apply ext_step; assumption))))) hn1).mono ?_
  rintro e w1 ⟨X1, x1, rfl, R1, hb⟩
  have z_w1 := hb.size
  (try simp at z_w1)
  have K_w1 := hb
  clear hb
  have SP : w1.heap[w.heap.size]? = some (.cells #[.string d.name, .slice A1 d.labels.length c1, .int .i64 d.cpu, .int .i64 d.mem, .int .i64 d.slots, .slice A5 d.taints.length c5] 65 (0, 0)) := (K_w1.block (w.heap.size) (by first | omega | (simp; omega) | (simp; done))).trans (by repeat (first | ((with_reducible refine heap_at ?_); (focus (simp; done))) | (with_reducible apply set6_0) | (with_reducible apply set6_1) | (with_reducible apply set6_2) | (with_reducible apply set6_3) | (with_reducible apply set6_4) | (with_reducible apply set6_5) | ((with_reducible refine (Below.heap_setCell _ _ _ _ ?_).trans ?_); focus (first | omega | (simp; omega) | (simp; done))) | ((with_reducible refine (Below.heap_alloc _ _ _ ?_).trans ?_); focus (first | omega | (simp; omega) | (simp; done)))))
  have SQ : w1.heap[w.heap.size + 1]? = some (.cells #[.string ⟨#[]⟩, .slice none 0 0, .int .i64 0, .int .i64 0, .int .i64 0, .slice none 0 0] 65 (0, 0)) := (K_w1.block (w.heap.size + 1) (by first | omega | (simp; omega) | (simp; done))).trans (by repeat (first | ((with_reducible refine heap_at ?_); (focus (simp; done))) | (with_reducible apply set6_0) | (with_reducible apply set6_1) | (with_reducible apply set6_2) | (with_reducible apply set6_3) | (with_reducible apply set6_4) | (with_reducible apply set6_5) | ((with_reducible refine (Below.heap_setCell _ _ _ _ ?_).trans ?_); focus (first | omega | (simp; omega) | (simp; done))) | ((with_reducible refine (Below.heap_alloc _ _ _ ?_).trans ?_); focus (first | omega | (simp; omega) | (simp; done)))))
  obtain ⟨xP0, xP1, xP2, xP3, xP4, xP5, xPf⟩ := row6x SP
  have lP := row_lt SP
  have mP := Nat.lt_succ_of_lt lP
  have nP := Nat.lt_succ_of_lt mP
  have RP := Lib.hid SP
  clear SP
  obtain ⟨xQ0, xQ1, xQ2, xQ3, xQ4, xQ5, xQf⟩ := row6x SQ
  have lQ := row_lt SQ
  have mQ := Nat.lt_succ_of_lt lQ
  have nQ := Nat.lt_succ_of_lt mQ
  have RQ := Lib.hid SQ
  clear SQ
  have W1 := (RowE.own encL_len R1 (C := C_Label) (Label_of_sl H1.out)).carry (S' := fun b => w.heap.size + 2 ≤ b ∧ b < w1.heap.size) (fun _ _ => rfl) (fun b hb => ⟨by have := (World.ownsRow.lt R1 b hb).1; (try simp at this); omega, (World.ownsRow.lt R1 b hb).2⟩)
  clear R1
  have V1 := Lib.hid W1
  clear W1
  go_wp2_with fail
  refine (c_Clone_Taint d.taints _ _ _ (Sl_Taint.now H5.out (by repeat (first | (with_reducible exact Below.refl _ _) | (with_reducible refine ext_alloc ?_) | ((with_reducible refine ext_setCell ?_ ?_); focus (simp; (try omega))) | (with_reducible refine below_drewN ?_ _) | (with_reducible refine Below.drew ?_) | (with_reducible (apply ext_step; assumption))))) hn5).mono ?_
  rintro e w2 ⟨X5, x5, rfl, R5, hb⟩
  have z_w2 := hb.size
  (try simp at z_w2)
  have K_w2 := hb
  clear hb
  have SP : w2.heap[w.heap.size]? = some (.cells #[.string d.name, .slice X1 d.labels.length x1, .int .i64 d.cpu, .int .i64 d.mem, .int .i64 d.slots, .slice A5 d.taints.length c5] 65 (0, 0)) := (K_w2.block (w.heap.size) (by first | omega | (simp; omega) | (simp; done))).trans (by repeat (first | (exact RP.out) | ((with_reducible refine heap_at ?_); (focus (simp; done))) | (with_reducible apply set6_0) | (with_reducible apply set6_1) | (with_reducible apply set6_2) | (with_reducible apply set6_3) | (with_reducible apply set6_4) | (with_reducible apply set6_5) | ((with_reducible refine (Below.heap_setCell _ _ _ _ ?_).trans ?_); focus (first | omega | (simp; omega) | (simp; done))) | ((with_reducible refine (Below.heap_alloc _ _ _ ?_).trans ?_); focus (first | omega | (simp; omega) | (simp; done)))))
  have SQ : w2.heap[w.heap.size + 1]? = some (.cells #[.string ⟨#[]⟩, .slice none 0 0, .int .i64 0, .int .i64 0, .int .i64 0, .slice none 0 0] 65 (0, 0)) := (K_w2.block (w.heap.size + 1) (by first | omega | (simp; omega) | (simp; done))).trans (by repeat (first | (exact RQ.out) | ((with_reducible refine heap_at ?_); (focus (simp; done))) | (with_reducible apply set6_0) | (with_reducible apply set6_1) | (with_reducible apply set6_2) | (with_reducible apply set6_3) | (with_reducible apply set6_4) | (with_reducible apply set6_5) | ((with_reducible refine (Below.heap_setCell _ _ _ _ ?_).trans ?_); focus (first | omega | (simp; omega) | (simp; done))) | ((with_reducible refine (Below.heap_alloc _ _ _ ?_).trans ?_); focus (first | omega | (simp; omega) | (simp; done)))))
  clear xP0 xP1 xP2 xP3 xP4 xP5 RP xPf lP mP nP
  clear xQ0 xQ1 xQ2 xQ3 xQ4 xQ5 RQ xQf lQ mQ nQ
  obtain ⟨xP0, xP1, xP2, xP3, xP4, xP5, xPf⟩ := row6x SP
  have lP := row_lt SP
  have mP := Nat.lt_succ_of_lt lP
  have nP := Nat.lt_succ_of_lt mP
  have RP := Lib.hid SP
  clear SP
  obtain ⟨xQ0, xQ1, xQ2, xQ3, xQ4, xQ5, xQf⟩ := row6x SQ
  have lQ := row_lt SQ
  have mQ := Nat.lt_succ_of_lt lQ
  have nQ := Nat.lt_succ_of_lt mQ
  have RQ := Lib.hid SQ
  clear SQ
  have W5 := (RowE.own encT_len R5 (C := C_Taint) (Taint_of_ord H5.out)).carry (S' := fun b => w1.heap.size ≤ b ∧ b < w2.heap.size) (fun _ _ => rfl) (fun b hb => ⟨by have := (World.ownsRow.lt R5 b hb).1; (try simp at this); omega, (World.ownsRow.lt R5 b hb).2⟩)
  clear R5
  have V5 := Lib.hid W5
  clear W5
  go_wp2_with fail
  refine bodyPost_ret (v := .agg #[.string d.name, .slice X1 d.labels.length x1, .int .i64 d.cpu, .int .i64 d.mem, .int .i64 d.slots, .slice X5 d.taints.length x5]) (by simp only [results, Try.results93]; go_simp) rfl ?_
  refine ⟨[.string d.name, .slice X1 d.labels.length x1, .int .i64 d.cpu, .int .i64 d.mem, .int .i64 d.slots, .slice X5 d.taints.length x5], rfl, ?_, (by repeat (first | (with_reducible exact Below.refl _ _) | (with_reducible refine ext_alloc ?_) | ((with_reducible refine ext_setCell ?_ ?_); focus (simp; (try omega))) | (with_reducible refine below_drewN ?_ _) | (with_reducible refine Below.drew ?_) | (with_reducible (apply ext_step; assumption))))⟩
  exact ⟨_, _, _, _, rfl, a0, V1.out.carry (fun b hb => (by repeat (first | (with_reducible rfl) | ((with_reducible refine (Below.heap_setCell _ _ _ b ?_).trans ?_); focus (simp; omega)) | ((with_reducible refine (Below.heap_alloc _ _ b ?_).trans ?_); focus (simp; omega)) | ((with_reducible refine (Below.block (by assumption) b ?_).trans ?_); focus (simp; omega))))) (fun _ h => h), a2, a3, a4, V5.out.carry (fun b hb => (by repeat (first | (with_reducible rfl) | ((with_reducible refine (Below.heap_setCell _ _ _ b ?_).trans ?_); focus (simp; omega)) | ((with_reducible refine (Below.heap_alloc _ _ b ?_).trans ?_); focus (simp; omega)) | ((with_reducible refine (Below.block (by assumption) b ?_).trans ?_); focus (simp; omega))))) (fun _ h => h), fun b hb => ⟨⟨by omega, by first | omega | (simp; done) | (simp; omega)⟩, by omega⟩, fun b hb => ⟨by omega, by first | omega | (simp; done) | (simp; omega)⟩⟩
theorem sortLB_in {l : List Label} (x : Label) (h : x ∈ (sortLB l).1) : x ∈ l := by
  unfold sortLB at h
  split at h
  · exact h
  · split at h
    · exact ((stL_all l).2 x).1 h
    · exact h
theorem sortLB_len (l : List Label) : (sortLB l).1.length ≤ l.length := by
  unfold sortLB
  split
  · exact Nat.le_refl _
  · split
    · exact Nat.le_of_eq (stL_all l).1
    · exact Nat.le_refl _
set_option maxHeartbeats 4000000 in
set_option maxRecDepth 10000 in
theorem c_spec_HostNormal (d : Host) (cs : List Value) (w : World) (lo : Nat) (h : C_Host lo w.heap.size w d cs) (hn1 : d.labels.length ≤ 1048576) (hn5 : d.taints.length ≤ 1048576) :
    Calls Try.prog 37 #[.agg cs.toArray] w fun e w' => ∃ cs', e = .returned (.tuple #[.agg cs'.toArray, .bool (hostNB d).2]) ∧ C_Host w.heap.size w'.heap.size w' (hostNB d).1 cs' ∧ Below w.heap.size w w' := by
  have HH := Lib.hid h
  obtain ⟨v1, v5, rfl, a0, a1, a2, a3, a4, a5⟩ := h
  obtain ⟨A1, c1, rfl⟩ := a1.form
  obtain ⟨A5, c5, rfl⟩ := a5.form
  have H1 := Lib.hid a1
  have H5 := Lib.hid a5
  clear a1 a5
  obtain ⟨Q1, hQ1⟩ : ∃ Q, Q = (sortLB d.labels).1 := ⟨_, rfl⟩
  obtain ⟨t1, ht1⟩ : ∃ t, t = (sortLB d.labels).2 := ⟨_, rfl⟩
  obtain ⟨Q5, hQ5⟩ : ∃ Q, Q = (sortTB d.taints).1 := ⟨_, rfl⟩
  obtain ⟨t5, ht5⟩ : ∃ t, t = (sortTB d.taints).2 := ⟨_, rfl⟩
  have Hdef : hostNB d = if t1 && t5 && hostB ⟨d.name, Q1, d.cpu, d.mem, d.slots, Q5⟩ then (⟨d.name, Q1, d.cpu, d.mem, d.slots, Q5⟩, true) else (d, false) := by rw [hQ1, ht1, hQ5, ht5]; rfl
  have HM1 := Lib.hid (show ∀ x ∈ Q1, C_Label x (encL x) from by rw [hQ1]; exact fun x hx => Label_of_sl H1.out x (sortLB_in x hx))
  have HM5 := Lib.hid (show ∀ x ∈ Q5, C_Taint x (encT x) from by rw [hQ5]; exact (sortTB_all (Taint_of_ord H5.out)).2)
  have HD := Lib.hid Hdef
  clear Hdef
  have HQ1 := Lib.hid hQ1
  have HT1 := Lib.hid ht1
  clear hQ1 ht1
  have HQ5 := Lib.hid hQ5
  have HT5 := Lib.hid ht5
  clear hQ5 ht5
  go_enter Try.func37, Try.ntmps37
  go_wp2_with fail
  refine (c_spec_SortLabels d.labels _ _ _ (Sl_Label.now H1.out (by repeat (first | (with_reducible exact Below.refl _ _) | (with_reducible refine ext_alloc ?_) | ((with_reducible refine ext_setCell ?_ ?_); focus (simp; (try omega))) | (with_reducible refine below_drewN ?_ _) | (with_reducible refine Below.drew ?_) | (with_reducible (apply ext_step; assumption))))) hn1).mono ?_
  rintro e w1 ⟨X1, x1, rfl, R1, hb⟩
  rw [← HQ1.out, ← HT1.out]
  rw [← HQ1.out] at R1
  have z_w1 := hb.size
  (try simp at z_w1)
  have K_w1 := hb
  clear hb
  have SP : w1.heap[w.heap.size]? = some (.cells #[.string d.name, .slice A1 d.labels.length c1, .int .i64 d.cpu, .int .i64 d.mem, .int .i64 d.slots, .slice A5 d.taints.length c5] 65 (0, 0)) := (K_w1.block (w.heap.size) (by first | omega | (simp; omega) | (simp; done))).trans (by repeat (first | ((with_reducible refine heap_at ?_); (focus (simp; done))) | (with_reducible apply set6_0) | (with_reducible apply set6_1) | (with_reducible apply set6_2) | (with_reducible apply set6_3) | (with_reducible apply set6_4) | (with_reducible apply set6_5) | ((with_reducible refine (Below.heap_setCell _ _ _ _ ?_).trans ?_); focus (first | omega | (simp; omega) | (simp; done))) | ((with_reducible refine (Below.heap_alloc _ _ _ ?_).trans ?_); focus (first | omega | (simp; omega) | (simp; done)))))
  have SQ : w1.heap[w.heap.size + 1]? = some (.cells #[.string ⟨#[]⟩, .slice none 0 0, .int .i64 0, .int .i64 0, .int .i64 0, .slice none 0 0] 65 (0, 0)) := (K_w1.block (w.heap.size + 1) (by first | omega | (simp; omega) | (simp; done))).trans (by repeat (first | ((with_reducible refine heap_at ?_); (focus (simp; done))) | (with_reducible apply set6_0) | (with_reducible apply set6_1) | (with_reducible apply set6_2) | (with_reducible apply set6_3) | (with_reducible apply set6_4) | (with_reducible apply set6_5) | ((with_reducible refine (Below.heap_setCell _ _ _ _ ?_).trans ?_); focus (first | omega | (simp; omega) | (simp; done))) | ((with_reducible refine (Below.heap_alloc _ _ _ ?_).trans ?_); focus (first | omega | (simp; omega) | (simp; done)))))
  have SO : w1.heap[w.heap.size + 1 + 1]? = some (.cells #[.string d.name, .slice A1 d.labels.length c1, .int .i64 d.cpu, .int .i64 d.mem, .int .i64 d.slots, .slice A5 d.taints.length c5] 65 (0, 0)) := (K_w1.block (w.heap.size + 1 + 1) (by first | omega | (simp; omega) | (simp; done))).trans (by repeat (first | ((with_reducible refine heap_at ?_); (focus (simp; done))) | (with_reducible apply set6_0) | (with_reducible apply set6_1) | (with_reducible apply set6_2) | (with_reducible apply set6_3) | (with_reducible apply set6_4) | (with_reducible apply set6_5) | ((with_reducible refine (Below.heap_setCell _ _ _ _ ?_).trans ?_); focus (first | omega | (simp; omega) | (simp; done))) | ((with_reducible refine (Below.heap_alloc _ _ _ ?_).trans ?_); focus (first | omega | (simp; omega) | (simp; done)))))
  obtain ⟨xP0, xP1, xP2, xP3, xP4, xP5, xPf⟩ := row6x SP
  have lP := row_lt SP
  have mP := Nat.lt_succ_of_lt lP
  have nP := Nat.lt_succ_of_lt mP
  have RP := Lib.hid SP
  clear SP
  obtain ⟨xQ0, xQ1, xQ2, xQ3, xQ4, xQ5, xQf⟩ := row6x SQ
  have lQ := row_lt SQ
  have mQ := Nat.lt_succ_of_lt lQ
  have nQ := Nat.lt_succ_of_lt mQ
  have RQ := Lib.hid SQ
  clear SQ
  obtain ⟨xO0, xO1, xO2, xO3, xO4, xO5, xOf⟩ := row6x SO
  have lO := row_lt SO
  have mO := Nat.lt_succ_of_lt lO
  have nO := Nat.lt_succ_of_lt mO
  have RO := Lib.hid SO
  clear SO
  have W1 := Sl_Label.keep (RowE.sl encL_len R1 (C := C_Label) HM1.out) (Same.refl _ _ _) (show w.heap.size + 3 ≤ _ by simp) (Nat.le_refl _)
  clear R1
  have V1 := Lib.hid W1
  clear W1
  go_wp2_with fail
  refine (c_spec_SortTaints d.taints _ _ _ (Sl_Taint.now H5.out (by repeat (first | (with_reducible exact Below.refl _ _) | (with_reducible refine ext_alloc ?_) | ((with_reducible refine ext_setCell ?_ ?_); focus (simp; (try omega))) | (with_reducible refine below_drewN ?_ _) | (with_reducible refine Below.drew ?_) | (with_reducible (apply ext_step; assumption))))) hn5).mono ?_
  rintro e w2 ⟨X5, x5, rfl, R5, hb⟩
  rw [← HQ5.out, ← HT5.out]
  rw [← HQ5.out] at R5
  have z_w2 := hb.size
  (try simp at z_w2)
  have K_w2 := hb
  clear hb
  have SP : w2.heap[w.heap.size]? = some (.cells #[.string d.name, .slice A1 d.labels.length c1, .int .i64 d.cpu, .int .i64 d.mem, .int .i64 d.slots, .slice A5 d.taints.length c5] 65 (0, 0)) := (K_w2.block (w.heap.size) (by first | omega | (simp; omega) | (simp; done))).trans (by repeat (first | (exact RP.out) | ((with_reducible refine heap_at ?_); (focus (simp; done))) | (with_reducible apply set6_0) | (with_reducible apply set6_1) | (with_reducible apply set6_2) | (with_reducible apply set6_3) | (with_reducible apply set6_4) | (with_reducible apply set6_5) | ((with_reducible refine (Below.heap_setCell _ _ _ _ ?_).trans ?_); focus (first | omega | (simp; omega) | (simp; done))) | ((with_reducible refine (Below.heap_alloc _ _ _ ?_).trans ?_); focus (first | omega | (simp; omega) | (simp; done)))))
  have SQ : w2.heap[w.heap.size + 1]? = some (.cells #[.string ⟨#[]⟩, .slice none 0 0, .int .i64 0, .int .i64 0, .int .i64 0, .slice none 0 0] 65 (0, 0)) := (K_w2.block (w.heap.size + 1) (by first | omega | (simp; omega) | (simp; done))).trans (by repeat (first | (exact RQ.out) | ((with_reducible refine heap_at ?_); (focus (simp; done))) | (with_reducible apply set6_0) | (with_reducible apply set6_1) | (with_reducible apply set6_2) | (with_reducible apply set6_3) | (with_reducible apply set6_4) | (with_reducible apply set6_5) | ((with_reducible refine (Below.heap_setCell _ _ _ _ ?_).trans ?_); focus (first | omega | (simp; omega) | (simp; done))) | ((with_reducible refine (Below.heap_alloc _ _ _ ?_).trans ?_); focus (first | omega | (simp; omega) | (simp; done)))))
  have SO : w2.heap[w.heap.size + 1 + 1]? = some (.cells #[.string d.name, .slice A1 d.labels.length c1, .int .i64 d.cpu, .int .i64 d.mem, .int .i64 d.slots, .slice A5 d.taints.length c5] 65 (0, 0)) := (K_w2.block (w.heap.size + 1 + 1) (by first | omega | (simp; omega) | (simp; done))).trans (by repeat (first | (exact RO.out) | ((with_reducible refine heap_at ?_); (focus (simp; done))) | (with_reducible apply set6_0) | (with_reducible apply set6_1) | (with_reducible apply set6_2) | (with_reducible apply set6_3) | (with_reducible apply set6_4) | (with_reducible apply set6_5) | ((with_reducible refine (Below.heap_setCell _ _ _ _ ?_).trans ?_); focus (first | omega | (simp; omega) | (simp; done))) | ((with_reducible refine (Below.heap_alloc _ _ _ ?_).trans ?_); focus (first | omega | (simp; omega) | (simp; done)))))
  clear xP0 xP1 xP2 xP3 xP4 xP5 RP xPf lP mP nP
  clear xQ0 xQ1 xQ2 xQ3 xQ4 xQ5 RQ xQf lQ mQ nQ
  clear xO0 xO1 xO2 xO3 xO4 xO5 RO xOf lO mO nO
  obtain ⟨xP0, xP1, xP2, xP3, xP4, xP5, xPf⟩ := row6x SP
  have lP := row_lt SP
  have mP := Nat.lt_succ_of_lt lP
  have nP := Nat.lt_succ_of_lt mP
  have RP := Lib.hid SP
  clear SP
  obtain ⟨xQ0, xQ1, xQ2, xQ3, xQ4, xQ5, xQf⟩ := row6x SQ
  have lQ := row_lt SQ
  have mQ := Nat.lt_succ_of_lt lQ
  have nQ := Nat.lt_succ_of_lt mQ
  have RQ := Lib.hid SQ
  clear SQ
  obtain ⟨xO0, xO1, xO2, xO3, xO4, xO5, xOf⟩ := row6x SO
  have lO := row_lt SO
  have mO := Nat.lt_succ_of_lt lO
  have nO := Nat.lt_succ_of_lt mO
  have RO := Lib.hid SO
  clear SO
  have W5 := Sl_Taint.keep (RowE.sl encT_len R5 (C := C_Taint) HM5.out) (Same.refl _ _ _) (show w1.heap.size ≤ _ by simp) (Nat.le_refl _)
  clear R5
  have V5 := Lib.hid W5
  clear W5
  rcases t1 with _ | _
  · have Hf := Lib.hid (show hostNB d = (d, false) by rw [HD.out]; simp)
    go_wp2_with fail
    refine (c_spec_copyHost d _ _ _ (C_Host.now HH.out (by repeat (first | (with_reducible exact Below.refl _ _) | (with_reducible refine ext_alloc ?_) | ((with_reducible refine ext_setCell ?_ ?_); focus (simp; (try omega))) | (with_reducible refine below_drewN ?_ _) | (with_reducible refine Below.drew ?_) | (with_reducible (apply ext_step; assumption))))) hn1 hn5).mono ?_
    rintro e w9 ⟨cs', rfl, hC, hb⟩
    obtain ⟨Y1, y1, Y5, y5, rfl⟩ := hC.open
    have VC := Lib.hid hC
    clear hC
    have z_w9 := hb.size
    (try simp at z_w9)
    have K_w9 := hb
    clear hb
    have SQ : w9.heap[w.heap.size + 1]? = some (.cells #[.string ⟨#[]⟩, .slice none 0 0, .int .i64 0, .int .i64 0, .int .i64 0, .slice none 0 0] 65 (0, 0)) := (K_w9.block (w.heap.size + 1) (by first | omega | (simp; omega) | (simp; done))).trans (by repeat (first | (exact RQ.out) | ((with_reducible refine heap_at ?_); (focus (simp; done))) | (with_reducible apply set6_0) | (with_reducible apply set6_1) | (with_reducible apply set6_2) | (with_reducible apply set6_3) | (with_reducible apply set6_4) | (with_reducible apply set6_5) | ((with_reducible refine (Below.heap_setCell _ _ _ _ ?_).trans ?_); focus (first | omega | (simp; omega) | (simp; done))) | ((with_reducible refine (Below.heap_alloc _ _ _ ?_).trans ?_); focus (first | omega | (simp; omega) | (simp; done)))))
    clear xP0 xP1 xP2 xP3 xP4 xP5 RP xPf lP mP nP
    clear xQ0 xQ1 xQ2 xQ3 xQ4 xQ5 RQ xQf lQ mQ nQ
    clear xO0 xO1 xO2 xO3 xO4 xO5 RO xOf lO mO nO
    obtain ⟨xQ0, xQ1, xQ2, xQ3, xQ4, xQ5, xQf⟩ := row6x SQ
    have lQ := row_lt SQ
    have mQ := Nat.lt_succ_of_lt lQ
    have nQ := Nat.lt_succ_of_lt mQ
    have RQ := Lib.hid SQ
    clear SQ
    go_wp2_with fail
    refine bodyPost_ret (v := .tuple #[.agg #[.string d.name, .slice Y1 d.labels.length y1, .int .i64 d.cpu, .int .i64 d.mem, .int .i64 d.slots, .slice Y5 d.taints.length y5], .bool false]) (by simp only [results, Try.results37]; go_simp) rfl ?_
    exact ⟨[.string d.name, .slice Y1 d.labels.length y1, .int .i64 d.cpu, .int .i64 d.mem, .int .i64 d.slots, .slice Y5 d.taints.length y5], by rw [Hf.out], by rw [Hf.out]; exact C_Host.keep VC.out (by repeat (first | (with_reducible exact Same.refl _ _ _) | ((with_reducible refine same_setCell ?_ ?_); (focus (first | omega | (simp; done) | (simp; omega)))) | ((with_reducible refine same_alloc ?_ ?_); (focus (first | omega | (simp; done) | (simp; omega)))) | ((with_reducible refine same_step (by assumption) ?_ ?_); (focus (first | omega | (simp; done) | (simp; omega)))))) (by first | omega | (simp; done) | (simp; omega)) (by first | omega | (simp; done) | (simp; omega)), (by repeat (first | (with_reducible exact Below.refl _ _) | (with_reducible refine ext_alloc ?_) | ((with_reducible refine ext_setCell ?_ ?_); focus (simp; (try omega))) | (with_reducible refine below_drewN ?_ _) | (with_reducible refine Below.drew ?_) | (with_reducible (apply ext_step; assumption))))⟩
  · skip
    rcases t5 with _ | _
    · have Hf := Lib.hid (show hostNB d = (d, false) by rw [HD.out]; simp)
      go_wp2_with fail
      refine (c_spec_copyHost d _ _ _ (C_Host.now HH.out (by repeat (first | (with_reducible exact Below.refl _ _) | (with_reducible refine ext_alloc ?_) | ((with_reducible refine ext_setCell ?_ ?_); focus (simp; (try omega))) | (with_reducible refine below_drewN ?_ _) | (with_reducible refine Below.drew ?_) | (with_reducible (apply ext_step; assumption))))) hn1 hn5).mono ?_
      rintro e w9 ⟨cs', rfl, hC, hb⟩
      obtain ⟨Y1, y1, Y5, y5, rfl⟩ := hC.open
      have VC := Lib.hid hC
      clear hC
      have z_w9 := hb.size
      (try simp at z_w9)
      have K_w9 := hb
      clear hb
      have SQ : w9.heap[w.heap.size + 1]? = some (.cells #[.string ⟨#[]⟩, .slice none 0 0, .int .i64 0, .int .i64 0, .int .i64 0, .slice none 0 0] 65 (0, 0)) := (K_w9.block (w.heap.size + 1) (by first | omega | (simp; omega) | (simp; done))).trans (by repeat (first | (exact RQ.out) | ((with_reducible refine heap_at ?_); (focus (simp; done))) | (with_reducible apply set6_0) | (with_reducible apply set6_1) | (with_reducible apply set6_2) | (with_reducible apply set6_3) | (with_reducible apply set6_4) | (with_reducible apply set6_5) | ((with_reducible refine (Below.heap_setCell _ _ _ _ ?_).trans ?_); focus (first | omega | (simp; omega) | (simp; done))) | ((with_reducible refine (Below.heap_alloc _ _ _ ?_).trans ?_); focus (first | omega | (simp; omega) | (simp; done)))))
      clear xP0 xP1 xP2 xP3 xP4 xP5 RP xPf lP mP nP
      clear xQ0 xQ1 xQ2 xQ3 xQ4 xQ5 RQ xQf lQ mQ nQ
      clear xO0 xO1 xO2 xO3 xO4 xO5 RO xOf lO mO nO
      obtain ⟨xQ0, xQ1, xQ2, xQ3, xQ4, xQ5, xQf⟩ := row6x SQ
      have lQ := row_lt SQ
      have mQ := Nat.lt_succ_of_lt lQ
      have nQ := Nat.lt_succ_of_lt mQ
      have RQ := Lib.hid SQ
      clear SQ
      go_wp2_with fail
      refine bodyPost_ret (v := .tuple #[.agg #[.string d.name, .slice Y1 d.labels.length y1, .int .i64 d.cpu, .int .i64 d.mem, .int .i64 d.slots, .slice Y5 d.taints.length y5], .bool false]) (by simp only [results, Try.results37]; go_simp) rfl ?_
      exact ⟨[.string d.name, .slice Y1 d.labels.length y1, .int .i64 d.cpu, .int .i64 d.mem, .int .i64 d.slots, .slice Y5 d.taints.length y5], by rw [Hf.out], by rw [Hf.out]; exact C_Host.keep VC.out (by repeat (first | (with_reducible exact Same.refl _ _ _) | ((with_reducible refine same_setCell ?_ ?_); (focus (first | omega | (simp; done) | (simp; omega)))) | ((with_reducible refine same_alloc ?_ ?_); (focus (first | omega | (simp; done) | (simp; omega)))) | ((with_reducible refine same_step (by assumption) ?_ ?_); (focus (first | omega | (simp; done) | (simp; omega)))))) (by first | omega | (simp; done) | (simp; omega)) (by first | omega | (simp; done) | (simp; omega)), (by repeat (first | (with_reducible exact Below.refl _ _) | (with_reducible refine ext_alloc ?_) | ((with_reducible refine ext_setCell ?_ ?_); focus (simp; (try omega))) | (with_reducible refine below_drewN ?_ _) | (with_reducible refine Below.drew ?_) | (with_reducible (apply ext_step; assumption))))⟩
    · skip
      go_wp2_with fail
      refine (c_spec_HostOk ⟨d.name, Q1, d.cpu, d.mem, d.slots, Q5⟩ [.string d.name, .slice X1 Q1.length x1, .int .i64 d.cpu, .int .i64 d.mem, .int .i64 d.slots, .slice X5 Q5.length x5] _ w.heap.size ?_).mono ?_
      · exact ⟨_, _, rfl, a0, SlOf.keep V1.out (by repeat (first | (with_reducible exact Same.refl _ _ _) | ((with_reducible refine same_setCell ?_ ?_); (focus (first | omega | (simp; done) | (simp; omega)))) | ((with_reducible refine same_alloc ?_ ?_); (focus (first | omega | (simp; done) | (simp; omega)))) | ((with_reducible refine same_step (by assumption) ?_ ?_); (focus (first | omega | (simp; done) | (simp; omega)))))) (by first | omega | (simp; done) | (simp; omega)) (by first | omega | (simp; done) | (simp; omega)) (fun _ _ _ h => h), a2, a3, a4, SlOf.keep V5.out (by repeat (first | (with_reducible exact Same.refl _ _ _) | ((with_reducible refine same_setCell ?_ ?_); (focus (first | omega | (simp; done) | (simp; omega)))) | ((with_reducible refine same_alloc ?_ ?_); (focus (first | omega | (simp; done) | (simp; omega)))) | ((with_reducible refine same_step (by assumption) ?_ ?_); (focus (first | omega | (simp; done) | (simp; omega)))))) (by first | omega | (simp; done) | (simp; omega)) (by first | omega | (simp; done) | (simp; omega)) (fun _ _ _ h => h)⟩
      rintro e w8 ⟨rfl, hb⟩
      have z_w8 := hb.size
      (try simp at z_w8)
      have K_w8 := hb
      clear hb
      have SP : w8.heap[w.heap.size]? = some (.cells #[.string d.name, .slice A1 d.labels.length c1, .int .i64 d.cpu, .int .i64 d.mem, .int .i64 d.slots, .slice A5 d.taints.length c5] 65 (0, 0)) := (K_w8.block (w.heap.size) (by first | omega | (simp; omega) | (simp; done))).trans (by repeat (first | (exact RP.out) | ((with_reducible refine heap_at ?_); (focus (simp; done))) | (with_reducible apply set6_0) | (with_reducible apply set6_1) | (with_reducible apply set6_2) | (with_reducible apply set6_3) | (with_reducible apply set6_4) | (with_reducible apply set6_5) | ((with_reducible refine (Below.heap_setCell _ _ _ _ ?_).trans ?_); focus (first | omega | (simp; omega) | (simp; done))) | ((with_reducible refine (Below.heap_alloc _ _ _ ?_).trans ?_); focus (first | omega | (simp; omega) | (simp; done)))))
      have SQ : w8.heap[w.heap.size + 1]? = some (.cells #[.string ⟨#[]⟩, .slice none 0 0, .int .i64 0, .int .i64 0, .int .i64 0, .slice none 0 0] 65 (0, 0)) := (K_w8.block (w.heap.size + 1) (by first | omega | (simp; omega) | (simp; done))).trans (by repeat (first | (exact RQ.out) | ((with_reducible refine heap_at ?_); (focus (simp; done))) | (with_reducible apply set6_0) | (with_reducible apply set6_1) | (with_reducible apply set6_2) | (with_reducible apply set6_3) | (with_reducible apply set6_4) | (with_reducible apply set6_5) | ((with_reducible refine (Below.heap_setCell _ _ _ _ ?_).trans ?_); focus (first | omega | (simp; omega) | (simp; done))) | ((with_reducible refine (Below.heap_alloc _ _ _ ?_).trans ?_); focus (first | omega | (simp; omega) | (simp; done)))))
      have SO : w8.heap[w.heap.size + 1 + 1]? = some (.cells #[.string d.name, .slice X1 Q1.length x1, .int .i64 d.cpu, .int .i64 d.mem, .int .i64 d.slots, .slice X5 Q5.length x5] 65 (0, 0)) := (K_w8.block (w.heap.size + 1 + 1) (by first | omega | (simp; omega) | (simp; done))).trans (by repeat (first | (exact RO.out) | ((with_reducible refine heap_at ?_); (focus (simp; done))) | (with_reducible apply set6_0) | (with_reducible apply set6_1) | (with_reducible apply set6_2) | (with_reducible apply set6_3) | (with_reducible apply set6_4) | (with_reducible apply set6_5) | ((with_reducible refine (Below.heap_setCell _ _ _ _ ?_).trans ?_); focus (first | omega | (simp; omega) | (simp; done))) | ((with_reducible refine (Below.heap_alloc _ _ _ ?_).trans ?_); focus (first | omega | (simp; omega) | (simp; done)))))
      clear xP0 xP1 xP2 xP3 xP4 xP5 RP xPf lP mP nP
      clear xQ0 xQ1 xQ2 xQ3 xQ4 xQ5 RQ xQf lQ mQ nQ
      clear xO0 xO1 xO2 xO3 xO4 xO5 RO xOf lO mO nO
      obtain ⟨xP0, xP1, xP2, xP3, xP4, xP5, xPf⟩ := row6x SP
      have lP := row_lt SP
      have mP := Nat.lt_succ_of_lt lP
      have nP := Nat.lt_succ_of_lt mP
      have RP := Lib.hid SP
      clear SP
      obtain ⟨xQ0, xQ1, xQ2, xQ3, xQ4, xQ5, xQf⟩ := row6x SQ
      have lQ := row_lt SQ
      have mQ := Nat.lt_succ_of_lt lQ
      have nQ := Nat.lt_succ_of_lt mQ
      have RQ := Lib.hid SQ
      clear SQ
      obtain ⟨xO0, xO1, xO2, xO3, xO4, xO5, xOf⟩ := row6x SO
      have lO := row_lt SO
      have mO := Nat.lt_succ_of_lt lO
      have nO := Nat.lt_succ_of_lt mO
      have RO := Lib.hid SO
      clear SO
      rcases ht : hostB ⟨d.name, Q1, d.cpu, d.mem, d.slots, Q5⟩ with _ | _
      · have Hf := Lib.hid (show hostNB d = (d, false) by rw [HD.out, ht]; rfl)
        go_wp2_with fail
        refine (c_spec_copyHost d _ _ _ (C_Host.now HH.out (by repeat (first | (with_reducible exact Below.refl _ _) | (with_reducible refine ext_alloc ?_) | ((with_reducible refine ext_setCell ?_ ?_); focus (simp; (try omega))) | (with_reducible refine below_drewN ?_ _) | (with_reducible refine Below.drew ?_) | (with_reducible (apply ext_step; assumption))))) hn1 hn5).mono ?_
        rintro e w9 ⟨cs', rfl, hC, hb⟩
        obtain ⟨Y1, y1, Y5, y5, rfl⟩ := hC.open
        have VC := Lib.hid hC
        clear hC
        have z_w9 := hb.size
        (try simp at z_w9)
        have K_w9 := hb
        clear hb
        have SQ : w9.heap[w.heap.size + 1]? = some (.cells #[.string ⟨#[]⟩, .slice none 0 0, .int .i64 0, .int .i64 0, .int .i64 0, .slice none 0 0] 65 (0, 0)) := (K_w9.block (w.heap.size + 1) (by first | omega | (simp; omega) | (simp; done))).trans (by repeat (first | (exact RQ.out) | ((with_reducible refine heap_at ?_); (focus (simp; done))) | (with_reducible apply set6_0) | (with_reducible apply set6_1) | (with_reducible apply set6_2) | (with_reducible apply set6_3) | (with_reducible apply set6_4) | (with_reducible apply set6_5) | ((with_reducible refine (Below.heap_setCell _ _ _ _ ?_).trans ?_); focus (first | omega | (simp; omega) | (simp; done))) | ((with_reducible refine (Below.heap_alloc _ _ _ ?_).trans ?_); focus (first | omega | (simp; omega) | (simp; done)))))
        clear xP0 xP1 xP2 xP3 xP4 xP5 RP xPf lP mP nP
        clear xQ0 xQ1 xQ2 xQ3 xQ4 xQ5 RQ xQf lQ mQ nQ
        clear xO0 xO1 xO2 xO3 xO4 xO5 RO xOf lO mO nO
        obtain ⟨xQ0, xQ1, xQ2, xQ3, xQ4, xQ5, xQf⟩ := row6x SQ
        have lQ := row_lt SQ
        have mQ := Nat.lt_succ_of_lt lQ
        have nQ := Nat.lt_succ_of_lt mQ
        have RQ := Lib.hid SQ
        clear SQ
        go_wp2_with fail
        refine bodyPost_ret (v := .tuple #[.agg #[.string d.name, .slice Y1 d.labels.length y1, .int .i64 d.cpu, .int .i64 d.mem, .int .i64 d.slots, .slice Y5 d.taints.length y5], .bool false]) (by simp only [results, Try.results37]; go_simp) rfl ?_
        exact ⟨[.string d.name, .slice Y1 d.labels.length y1, .int .i64 d.cpu, .int .i64 d.mem, .int .i64 d.slots, .slice Y5 d.taints.length y5], by rw [Hf.out], by rw [Hf.out]; exact C_Host.keep VC.out (by repeat (first | (with_reducible exact Same.refl _ _ _) | ((with_reducible refine same_setCell ?_ ?_); (focus (first | omega | (simp; done) | (simp; omega)))) | ((with_reducible refine same_alloc ?_ ?_); (focus (first | omega | (simp; done) | (simp; omega)))) | ((with_reducible refine same_step (by assumption) ?_ ?_); (focus (first | omega | (simp; done) | (simp; omega)))))) (by first | omega | (simp; done) | (simp; omega)) (by first | omega | (simp; done) | (simp; omega)), (by repeat (first | (with_reducible exact Below.refl _ _) | (with_reducible refine ext_alloc ?_) | ((with_reducible refine ext_setCell ?_ ?_); focus (simp; (try omega))) | (with_reducible refine below_drewN ?_ _) | (with_reducible refine Below.drew ?_) | (with_reducible (apply ext_step; assumption))))⟩
      · have Hf := Lib.hid (show hostNB d = (⟨d.name, Q1, d.cpu, d.mem, d.slots, Q5⟩, true) by rw [HD.out, ht]; rfl)
        go_wp2_with fail
        refine bodyPost_ret (v := .tuple #[.agg #[.string d.name, .slice X1 Q1.length x1, .int .i64 d.cpu, .int .i64 d.mem, .int .i64 d.slots, .slice X5 Q5.length x5], .bool true]) (by simp only [results, Try.results37]; go_simp) rfl ?_
        exact ⟨[.string d.name, .slice X1 Q1.length x1, .int .i64 d.cpu, .int .i64 d.mem, .int .i64 d.slots, .slice X5 Q5.length x5], by rw [Hf.out], by rw [Hf.out]; exact ⟨_, _, rfl, a0, SlOf.keep V1.out (by repeat (first | (with_reducible exact Same.refl _ _ _) | ((with_reducible refine same_setCell ?_ ?_); (focus (first | omega | (simp; done) | (simp; omega)))) | ((with_reducible refine same_alloc ?_ ?_); (focus (first | omega | (simp; done) | (simp; omega)))) | ((with_reducible refine same_step (by assumption) ?_ ?_); (focus (first | omega | (simp; done) | (simp; omega)))))) (by first | omega | (simp; done) | (simp; omega)) (by first | omega | (simp; done) | (simp; omega)) (fun _ _ _ h => h), a2, a3, a4, SlOf.keep V5.out (by repeat (first | (with_reducible exact Same.refl _ _ _) | ((with_reducible refine same_setCell ?_ ?_); (focus (first | omega | (simp; done) | (simp; omega)))) | ((with_reducible refine same_alloc ?_ ?_); (focus (first | omega | (simp; done) | (simp; omega)))) | ((with_reducible refine same_step (by assumption) ?_ ?_); (focus (first | omega | (simp; done) | (simp; omega)))))) (by first | omega | (simp; done) | (simp; omega)) (by first | omega | (simp; done) | (simp; omega)) (fun _ _ _ h => h)⟩, (by repeat (first | (with_reducible exact Below.refl _ _) | (with_reducible refine ext_alloc ?_) | ((with_reducible refine ext_setCell ?_ ?_); focus (simp; (try omega))) | (with_reducible refine below_drewN ?_ _) | (with_reducible refine Below.drew ?_) | (with_reducible (apply ext_step; assumption))))⟩
set_option maxHeartbeats 4000000 in
set_option maxRecDepth 10000 in
theorem c_impl_HostNormal (d : Host) (cs : List Value) (w : World) (lo : Nat) (h : C_Host lo w.heap.size w d cs) (hn1 : d.labels.length ≤ 1048576) (hn5 : d.taints.length ≤ 1048576) :
    Calls Try.prog 39 #[.agg cs.toArray] w fun e w' => ∃ cs', e = .returned (.tuple #[.agg cs'.toArray, .bool (hostNB d).2]) ∧ OwnHost (fun b => w.heap.size ≤ b ∧ b < w'.heap.size) w' (hostNB d).1 cs' ∧ Below w.heap.size w w' := by
  have HH := Lib.hid h
  obtain ⟨v1, v5, rfl, a0, a1, a2, a3, a4, a5⟩ := h
  obtain ⟨A1, c1, rfl⟩ := a1.form
  obtain ⟨A5, c5, rfl⟩ := a5.form
  have H1 := Lib.hid a1
  have H5 := Lib.hid a5
  clear a1 a5
  obtain ⟨Q1, hQ1⟩ : ∃ Q, Q = (sortLB d.labels).1 := ⟨_, rfl⟩
  obtain ⟨t1, ht1⟩ : ∃ t, t = (sortLB d.labels).2 := ⟨_, rfl⟩
  obtain ⟨Q5, hQ5⟩ : ∃ Q, Q = (sortTB d.taints).1 := ⟨_, rfl⟩
  obtain ⟨t5, ht5⟩ : ∃ t, t = (sortTB d.taints).2 := ⟨_, rfl⟩
  have Hdef : hostNB d = if t1 && t5 && hostB ⟨d.name, Q1, d.cpu, d.mem, d.slots, Q5⟩ then (⟨d.name, Q1, d.cpu, d.mem, d.slots, Q5⟩, true) else (d, false) := by rw [hQ1, ht1, hQ5, ht5]; rfl
  have HM1 := Lib.hid (show ∀ x ∈ Q1, C_Label x (encL x) from by rw [hQ1]; exact fun x hx => Label_of_sl H1.out x (sortLB_in x hx))
  have HM5 := Lib.hid (show ∀ x ∈ Q5, C_Taint x (encT x) from by rw [hQ5]; exact (sortTB_all (Taint_of_ord H5.out)).2)
  have HD := Lib.hid Hdef
  clear Hdef
  have HQ1 := Lib.hid hQ1
  have HT1 := Lib.hid ht1
  clear hQ1 ht1
  have HQ5 := Lib.hid hQ5
  have HT5 := Lib.hid ht5
  clear hQ5 ht5
  go_enter Try.func39, Try.ntmps39
  go_wp2_with fail
  refine (c_impl_SortLabels d.labels _ _ _ (Sl_Label.now H1.out (by repeat (first | (with_reducible exact Below.refl _ _) | (with_reducible refine ext_alloc ?_) | ((with_reducible refine ext_setCell ?_ ?_); focus (simp; (try omega))) | (with_reducible refine below_drewN ?_ _) | (with_reducible refine Below.drew ?_) | (with_reducible (apply ext_step; assumption))))) hn1).mono ?_
  rintro e w1 ⟨X1, x1, rfl, R1, hb⟩
  rw [← HQ1.out, ← HT1.out]
  rw [← HQ1.out] at R1
  have z_w1 := hb.size
  (try simp at z_w1)
  have K_w1 := hb
  clear hb
  have SP : w1.heap[w.heap.size]? = some (.cells #[.string d.name, .slice A1 d.labels.length c1, .int .i64 d.cpu, .int .i64 d.mem, .int .i64 d.slots, .slice A5 d.taints.length c5] 65 (0, 0)) := (K_w1.block (w.heap.size) (by first | omega | (simp; omega) | (simp; done))).trans (by repeat (first | ((with_reducible refine heap_at ?_); (focus (simp; done))) | (with_reducible apply set6_0) | (with_reducible apply set6_1) | (with_reducible apply set6_2) | (with_reducible apply set6_3) | (with_reducible apply set6_4) | (with_reducible apply set6_5) | ((with_reducible refine (Below.heap_setCell _ _ _ _ ?_).trans ?_); focus (first | omega | (simp; omega) | (simp; done))) | ((with_reducible refine (Below.heap_alloc _ _ _ ?_).trans ?_); focus (first | omega | (simp; omega) | (simp; done)))))
  have SQ : w1.heap[w.heap.size + 1]? = some (.cells #[.string ⟨#[]⟩, .slice none 0 0, .int .i64 0, .int .i64 0, .int .i64 0, .slice none 0 0] 65 (0, 0)) := (K_w1.block (w.heap.size + 1) (by first | omega | (simp; omega) | (simp; done))).trans (by repeat (first | ((with_reducible refine heap_at ?_); (focus (simp; done))) | (with_reducible apply set6_0) | (with_reducible apply set6_1) | (with_reducible apply set6_2) | (with_reducible apply set6_3) | (with_reducible apply set6_4) | (with_reducible apply set6_5) | ((with_reducible refine (Below.heap_setCell _ _ _ _ ?_).trans ?_); focus (first | omega | (simp; omega) | (simp; done))) | ((with_reducible refine (Below.heap_alloc _ _ _ ?_).trans ?_); focus (first | omega | (simp; omega) | (simp; done)))))
  have SO : w1.heap[w.heap.size + 1 + 1]? = some (.cells #[.string d.name, .slice A1 d.labels.length c1, .int .i64 d.cpu, .int .i64 d.mem, .int .i64 d.slots, .slice A5 d.taints.length c5] 65 (0, 0)) := (K_w1.block (w.heap.size + 1 + 1) (by first | omega | (simp; omega) | (simp; done))).trans (by repeat (first | ((with_reducible refine heap_at ?_); (focus (simp; done))) | (with_reducible apply set6_0) | (with_reducible apply set6_1) | (with_reducible apply set6_2) | (with_reducible apply set6_3) | (with_reducible apply set6_4) | (with_reducible apply set6_5) | ((with_reducible refine (Below.heap_setCell _ _ _ _ ?_).trans ?_); focus (first | omega | (simp; omega) | (simp; done))) | ((with_reducible refine (Below.heap_alloc _ _ _ ?_).trans ?_); focus (first | omega | (simp; omega) | (simp; done)))))
  obtain ⟨xP0, xP1, xP2, xP3, xP4, xP5, xPf⟩ := row6x SP
  have lP := row_lt SP
  have mP := Nat.lt_succ_of_lt lP
  have nP := Nat.lt_succ_of_lt mP
  have RP := Lib.hid SP
  clear SP
  obtain ⟨xQ0, xQ1, xQ2, xQ3, xQ4, xQ5, xQf⟩ := row6x SQ
  have lQ := row_lt SQ
  have mQ := Nat.lt_succ_of_lt lQ
  have nQ := Nat.lt_succ_of_lt mQ
  have RQ := Lib.hid SQ
  clear SQ
  obtain ⟨xO0, xO1, xO2, xO3, xO4, xO5, xOf⟩ := row6x SO
  have lO := row_lt SO
  have mO := Nat.lt_succ_of_lt lO
  have nO := Nat.lt_succ_of_lt mO
  have RO := Lib.hid SO
  clear SO
  have W1 := (RowE.own encL_len R1 (C := C_Label) HM1.out).carry (S' := fun b => w.heap.size + 3 ≤ b ∧ b < w1.heap.size) (fun _ _ => rfl) (fun b hb => ⟨by have := (World.ownsRow.lt R1 b hb).1; (try simp at this); omega, (World.ownsRow.lt R1 b hb).2⟩)
  clear R1
  have V1 := Lib.hid W1
  clear W1
  go_wp2_with fail
  refine (c_impl_SortTaints d.taints _ _ _ (Sl_Taint.now H5.out (by repeat (first | (with_reducible exact Below.refl _ _) | (with_reducible refine ext_alloc ?_) | ((with_reducible refine ext_setCell ?_ ?_); focus (simp; (try omega))) | (with_reducible refine below_drewN ?_ _) | (with_reducible refine Below.drew ?_) | (with_reducible (apply ext_step; assumption))))) hn5).mono ?_
  rintro e w2 ⟨X5, x5, rfl, R5, hb⟩
  rw [← HQ5.out, ← HT5.out]
  rw [← HQ5.out] at R5
  have z_w2 := hb.size
  (try simp at z_w2)
  have K_w2 := hb
  clear hb
  have SP : w2.heap[w.heap.size]? = some (.cells #[.string d.name, .slice A1 d.labels.length c1, .int .i64 d.cpu, .int .i64 d.mem, .int .i64 d.slots, .slice A5 d.taints.length c5] 65 (0, 0)) := (K_w2.block (w.heap.size) (by first | omega | (simp; omega) | (simp; done))).trans (by repeat (first | (exact RP.out) | ((with_reducible refine heap_at ?_); (focus (simp; done))) | (with_reducible apply set6_0) | (with_reducible apply set6_1) | (with_reducible apply set6_2) | (with_reducible apply set6_3) | (with_reducible apply set6_4) | (with_reducible apply set6_5) | ((with_reducible refine (Below.heap_setCell _ _ _ _ ?_).trans ?_); focus (first | omega | (simp; omega) | (simp; done))) | ((with_reducible refine (Below.heap_alloc _ _ _ ?_).trans ?_); focus (first | omega | (simp; omega) | (simp; done)))))
  have SQ : w2.heap[w.heap.size + 1]? = some (.cells #[.string ⟨#[]⟩, .slice none 0 0, .int .i64 0, .int .i64 0, .int .i64 0, .slice none 0 0] 65 (0, 0)) := (K_w2.block (w.heap.size + 1) (by first | omega | (simp; omega) | (simp; done))).trans (by repeat (first | (exact RQ.out) | ((with_reducible refine heap_at ?_); (focus (simp; done))) | (with_reducible apply set6_0) | (with_reducible apply set6_1) | (with_reducible apply set6_2) | (with_reducible apply set6_3) | (with_reducible apply set6_4) | (with_reducible apply set6_5) | ((with_reducible refine (Below.heap_setCell _ _ _ _ ?_).trans ?_); focus (first | omega | (simp; omega) | (simp; done))) | ((with_reducible refine (Below.heap_alloc _ _ _ ?_).trans ?_); focus (first | omega | (simp; omega) | (simp; done)))))
  have SO : w2.heap[w.heap.size + 1 + 1]? = some (.cells #[.string d.name, .slice X1 Q1.length x1, .int .i64 d.cpu, .int .i64 d.mem, .int .i64 d.slots, .slice A5 d.taints.length c5] 65 (0, 0)) := (K_w2.block (w.heap.size + 1 + 1) (by first | omega | (simp; omega) | (simp; done))).trans (by repeat (first | (exact RO.out) | ((with_reducible refine heap_at ?_); (focus (simp; done))) | (with_reducible apply set6_0) | (with_reducible apply set6_1) | (with_reducible apply set6_2) | (with_reducible apply set6_3) | (with_reducible apply set6_4) | (with_reducible apply set6_5) | ((with_reducible refine (Below.heap_setCell _ _ _ _ ?_).trans ?_); focus (first | omega | (simp; omega) | (simp; done))) | ((with_reducible refine (Below.heap_alloc _ _ _ ?_).trans ?_); focus (first | omega | (simp; omega) | (simp; done)))))
  clear xP0 xP1 xP2 xP3 xP4 xP5 RP xPf lP mP nP
  clear xQ0 xQ1 xQ2 xQ3 xQ4 xQ5 RQ xQf lQ mQ nQ
  clear xO0 xO1 xO2 xO3 xO4 xO5 RO xOf lO mO nO
  obtain ⟨xP0, xP1, xP2, xP3, xP4, xP5, xPf⟩ := row6x SP
  have lP := row_lt SP
  have mP := Nat.lt_succ_of_lt lP
  have nP := Nat.lt_succ_of_lt mP
  have RP := Lib.hid SP
  clear SP
  obtain ⟨xQ0, xQ1, xQ2, xQ3, xQ4, xQ5, xQf⟩ := row6x SQ
  have lQ := row_lt SQ
  have mQ := Nat.lt_succ_of_lt lQ
  have nQ := Nat.lt_succ_of_lt mQ
  have RQ := Lib.hid SQ
  clear SQ
  obtain ⟨xO0, xO1, xO2, xO3, xO4, xO5, xOf⟩ := row6x SO
  have lO := row_lt SO
  have mO := Nat.lt_succ_of_lt lO
  have nO := Nat.lt_succ_of_lt mO
  have RO := Lib.hid SO
  clear SO
  have W5 := (RowE.own encT_len R5 (C := C_Taint) HM5.out).carry (S' := fun b => w1.heap.size ≤ b ∧ b < w2.heap.size) (fun _ _ => rfl) (fun b hb => ⟨by have := (World.ownsRow.lt R5 b hb).1; (try simp at this); omega, (World.ownsRow.lt R5 b hb).2⟩)
  clear R5
  have V5 := Lib.hid W5
  clear W5
  rcases t1 with _ | _
  · have Hf := Lib.hid (show hostNB d = (d, false) by rw [HD.out]; simp)
    go_wp2_with fail
    refine (c_impl_copyHost d _ _ _ (C_Host.now HH.out (by repeat (first | (with_reducible exact Below.refl _ _) | (with_reducible refine ext_alloc ?_) | ((with_reducible refine ext_setCell ?_ ?_); focus (simp; (try omega))) | (with_reducible refine below_drewN ?_ _) | (with_reducible refine Below.drew ?_) | (with_reducible (apply ext_step; assumption))))) hn1 hn5).mono ?_
    rintro e w9 ⟨cs', rfl, hC, hb⟩
    obtain ⟨Y1, y1, Y5, y5, rfl⟩ := hC.open
    have VC := Lib.hid (hC.carry (S' := fun b => w2.heap.size ≤ b ∧ b < w9.heap.size) (fun _ _ => rfl) (fun b hb => ⟨by have := hb.1; (try simp at this); omega, hb.2⟩))
    clear hC
    have z_w9 := hb.size
    (try simp at z_w9)
    have K_w9 := hb
    clear hb
    have SQ : w9.heap[w.heap.size + 1]? = some (.cells #[.string ⟨#[]⟩, .slice none 0 0, .int .i64 0, .int .i64 0, .int .i64 0, .slice none 0 0] 65 (0, 0)) := (K_w9.block (w.heap.size + 1) (by first | omega | (simp; omega) | (simp; done))).trans (by repeat (first | (exact RQ.out) | ((with_reducible refine heap_at ?_); (focus (simp; done))) | (with_reducible apply set6_0) | (with_reducible apply set6_1) | (with_reducible apply set6_2) | (with_reducible apply set6_3) | (with_reducible apply set6_4) | (with_reducible apply set6_5) | ((with_reducible refine (Below.heap_setCell _ _ _ _ ?_).trans ?_); focus (first | omega | (simp; omega) | (simp; done))) | ((with_reducible refine (Below.heap_alloc _ _ _ ?_).trans ?_); focus (first | omega | (simp; omega) | (simp; done)))))
    clear xP0 xP1 xP2 xP3 xP4 xP5 RP xPf lP mP nP
    clear xQ0 xQ1 xQ2 xQ3 xQ4 xQ5 RQ xQf lQ mQ nQ
    clear xO0 xO1 xO2 xO3 xO4 xO5 RO xOf lO mO nO
    obtain ⟨xQ0, xQ1, xQ2, xQ3, xQ4, xQ5, xQf⟩ := row6x SQ
    have lQ := row_lt SQ
    have mQ := Nat.lt_succ_of_lt lQ
    have nQ := Nat.lt_succ_of_lt mQ
    have RQ := Lib.hid SQ
    clear SQ
    go_wp2_with fail
    refine bodyPost_ret (v := .tuple #[.agg #[.string d.name, .slice Y1 d.labels.length y1, .int .i64 d.cpu, .int .i64 d.mem, .int .i64 d.slots, .slice Y5 d.taints.length y5], .bool false]) (by simp only [results, Try.results39]; go_simp) rfl ?_
    exact ⟨[.string d.name, .slice Y1 d.labels.length y1, .int .i64 d.cpu, .int .i64 d.mem, .int .i64 d.slots, .slice Y5 d.taints.length y5], by rw [Hf.out], by rw [Hf.out]; exact VC.out.carry (fun b hb => (by repeat (first | (with_reducible rfl) | ((with_reducible refine (Below.heap_setCell _ _ _ b ?_).trans ?_); focus (simp; omega)) | ((with_reducible refine (Below.heap_alloc _ _ b ?_).trans ?_); focus (simp; omega)) | ((with_reducible refine (Below.block (by assumption) b ?_).trans ?_); focus (simp; omega))))) (fun b hb => ⟨by omega, by have := hb.2; first | omega | (simp; done) | (simp; omega)⟩), (by repeat (first | (with_reducible exact Below.refl _ _) | (with_reducible refine ext_alloc ?_) | ((with_reducible refine ext_setCell ?_ ?_); focus (simp; (try omega))) | (with_reducible refine below_drewN ?_ _) | (with_reducible refine Below.drew ?_) | (with_reducible (apply ext_step; assumption))))⟩
  · skip
    rcases t5 with _ | _
    · have Hf := Lib.hid (show hostNB d = (d, false) by rw [HD.out]; simp)
      go_wp2_with fail
      refine (c_impl_copyHost d _ _ _ (C_Host.now HH.out (by repeat (first | (with_reducible exact Below.refl _ _) | (with_reducible refine ext_alloc ?_) | ((with_reducible refine ext_setCell ?_ ?_); focus (simp; (try omega))) | (with_reducible refine below_drewN ?_ _) | (with_reducible refine Below.drew ?_) | (with_reducible (apply ext_step; assumption))))) hn1 hn5).mono ?_
      rintro e w9 ⟨cs', rfl, hC, hb⟩
      obtain ⟨Y1, y1, Y5, y5, rfl⟩ := hC.open
      have VC := Lib.hid (hC.carry (S' := fun b => w2.heap.size ≤ b ∧ b < w9.heap.size) (fun _ _ => rfl) (fun b hb => ⟨by have := hb.1; (try simp at this); omega, hb.2⟩))
      clear hC
      have z_w9 := hb.size
      (try simp at z_w9)
      have K_w9 := hb
      clear hb
      have SQ : w9.heap[w.heap.size + 1]? = some (.cells #[.string ⟨#[]⟩, .slice none 0 0, .int .i64 0, .int .i64 0, .int .i64 0, .slice none 0 0] 65 (0, 0)) := (K_w9.block (w.heap.size + 1) (by first | omega | (simp; omega) | (simp; done))).trans (by repeat (first | (exact RQ.out) | ((with_reducible refine heap_at ?_); (focus (simp; done))) | (with_reducible apply set6_0) | (with_reducible apply set6_1) | (with_reducible apply set6_2) | (with_reducible apply set6_3) | (with_reducible apply set6_4) | (with_reducible apply set6_5) | ((with_reducible refine (Below.heap_setCell _ _ _ _ ?_).trans ?_); focus (first | omega | (simp; omega) | (simp; done))) | ((with_reducible refine (Below.heap_alloc _ _ _ ?_).trans ?_); focus (first | omega | (simp; omega) | (simp; done)))))
      clear xP0 xP1 xP2 xP3 xP4 xP5 RP xPf lP mP nP
      clear xQ0 xQ1 xQ2 xQ3 xQ4 xQ5 RQ xQf lQ mQ nQ
      clear xO0 xO1 xO2 xO3 xO4 xO5 RO xOf lO mO nO
      obtain ⟨xQ0, xQ1, xQ2, xQ3, xQ4, xQ5, xQf⟩ := row6x SQ
      have lQ := row_lt SQ
      have mQ := Nat.lt_succ_of_lt lQ
      have nQ := Nat.lt_succ_of_lt mQ
      have RQ := Lib.hid SQ
      clear SQ
      go_wp2_with fail
      refine bodyPost_ret (v := .tuple #[.agg #[.string d.name, .slice Y1 d.labels.length y1, .int .i64 d.cpu, .int .i64 d.mem, .int .i64 d.slots, .slice Y5 d.taints.length y5], .bool false]) (by simp only [results, Try.results39]; go_simp) rfl ?_
      exact ⟨[.string d.name, .slice Y1 d.labels.length y1, .int .i64 d.cpu, .int .i64 d.mem, .int .i64 d.slots, .slice Y5 d.taints.length y5], by rw [Hf.out], by rw [Hf.out]; exact VC.out.carry (fun b hb => (by repeat (first | (with_reducible rfl) | ((with_reducible refine (Below.heap_setCell _ _ _ b ?_).trans ?_); focus (simp; omega)) | ((with_reducible refine (Below.heap_alloc _ _ b ?_).trans ?_); focus (simp; omega)) | ((with_reducible refine (Below.block (by assumption) b ?_).trans ?_); focus (simp; omega))))) (fun b hb => ⟨by omega, by have := hb.2; first | omega | (simp; done) | (simp; omega)⟩), (by repeat (first | (with_reducible exact Below.refl _ _) | (with_reducible refine ext_alloc ?_) | ((with_reducible refine ext_setCell ?_ ?_); focus (simp; (try omega))) | (with_reducible refine below_drewN ?_ _) | (with_reducible refine Below.drew ?_) | (with_reducible (apply ext_step; assumption))))⟩
    · skip
      go_wp2_with fail
      refine (c_impl_HostOk ⟨d.name, Q1, d.cpu, d.mem, d.slots, Q5⟩ [.string d.name, .slice X1 Q1.length x1, .int .i64 d.cpu, .int .i64 d.mem, .int .i64 d.slots, .slice X5 Q5.length x5] _ w.heap.size ?_).mono ?_
      · exact OwnHost.toC (S := fun b => w.heap.size ≤ b ∧ b < w2.heap.size) ⟨_, _, _, _, rfl, a0, V1.out.carry (fun b hb => (by repeat (first | (with_reducible rfl) | ((with_reducible refine (Below.heap_setCell _ _ _ b ?_).trans ?_); focus (simp; omega)) | ((with_reducible refine (Below.heap_alloc _ _ b ?_).trans ?_); focus (simp; omega)) | ((with_reducible refine (Below.block (by assumption) b ?_).trans ?_); focus (simp; omega))))) (fun _ h => h), a2, a3, a4, V5.out.carry (fun b hb => (by repeat (first | (with_reducible rfl) | ((with_reducible refine (Below.heap_setCell _ _ _ b ?_).trans ?_); focus (simp; omega)) | ((with_reducible refine (Below.heap_alloc _ _ b ?_).trans ?_); focus (simp; omega)) | ((with_reducible refine (Below.block (by assumption) b ?_).trans ?_); focus (simp; omega))))) (fun _ h => h), fun b hb => ⟨⟨by omega, by first | omega | (simp; done) | (simp; omega)⟩, by omega⟩, fun b hb => ⟨by omega, by first | omega | (simp; done) | (simp; omega)⟩⟩ (fun b hb => ⟨hb.1, by have := hb.2; first | omega | (simp; done) | (simp; omega)⟩)
      rintro e w8 ⟨rfl, hb⟩
      have z_w8 := hb.size
      (try simp at z_w8)
      have K_w8 := hb
      clear hb
      have SP : w8.heap[w.heap.size]? = some (.cells #[.string d.name, .slice A1 d.labels.length c1, .int .i64 d.cpu, .int .i64 d.mem, .int .i64 d.slots, .slice A5 d.taints.length c5] 65 (0, 0)) := (K_w8.block (w.heap.size) (by first | omega | (simp; omega) | (simp; done))).trans (by repeat (first | (exact RP.out) | ((with_reducible refine heap_at ?_); (focus (simp; done))) | (with_reducible apply set6_0) | (with_reducible apply set6_1) | (with_reducible apply set6_2) | (with_reducible apply set6_3) | (with_reducible apply set6_4) | (with_reducible apply set6_5) | ((with_reducible refine (Below.heap_setCell _ _ _ _ ?_).trans ?_); focus (first | omega | (simp; omega) | (simp; done))) | ((with_reducible refine (Below.heap_alloc _ _ _ ?_).trans ?_); focus (first | omega | (simp; omega) | (simp; done)))))
      have SQ : w8.heap[w.heap.size + 1]? = some (.cells #[.string ⟨#[]⟩, .slice none 0 0, .int .i64 0, .int .i64 0, .int .i64 0, .slice none 0 0] 65 (0, 0)) := (K_w8.block (w.heap.size + 1) (by first | omega | (simp; omega) | (simp; done))).trans (by repeat (first | (exact RQ.out) | ((with_reducible refine heap_at ?_); (focus (simp; done))) | (with_reducible apply set6_0) | (with_reducible apply set6_1) | (with_reducible apply set6_2) | (with_reducible apply set6_3) | (with_reducible apply set6_4) | (with_reducible apply set6_5) | ((with_reducible refine (Below.heap_setCell _ _ _ _ ?_).trans ?_); focus (first | omega | (simp; omega) | (simp; done))) | ((with_reducible refine (Below.heap_alloc _ _ _ ?_).trans ?_); focus (first | omega | (simp; omega) | (simp; done)))))
      have SO : w8.heap[w.heap.size + 1 + 1]? = some (.cells #[.string d.name, .slice X1 Q1.length x1, .int .i64 d.cpu, .int .i64 d.mem, .int .i64 d.slots, .slice X5 Q5.length x5] 65 (0, 0)) := (K_w8.block (w.heap.size + 1 + 1) (by first | omega | (simp; omega) | (simp; done))).trans (by repeat (first | (exact RO.out) | ((with_reducible refine heap_at ?_); (focus (simp; done))) | (with_reducible apply set6_0) | (with_reducible apply set6_1) | (with_reducible apply set6_2) | (with_reducible apply set6_3) | (with_reducible apply set6_4) | (with_reducible apply set6_5) | ((with_reducible refine (Below.heap_setCell _ _ _ _ ?_).trans ?_); focus (first | omega | (simp; omega) | (simp; done))) | ((with_reducible refine (Below.heap_alloc _ _ _ ?_).trans ?_); focus (first | omega | (simp; omega) | (simp; done)))))
      clear xP0 xP1 xP2 xP3 xP4 xP5 RP xPf lP mP nP
      clear xQ0 xQ1 xQ2 xQ3 xQ4 xQ5 RQ xQf lQ mQ nQ
      clear xO0 xO1 xO2 xO3 xO4 xO5 RO xOf lO mO nO
      obtain ⟨xP0, xP1, xP2, xP3, xP4, xP5, xPf⟩ := row6x SP
      have lP := row_lt SP
      have mP := Nat.lt_succ_of_lt lP
      have nP := Nat.lt_succ_of_lt mP
      have RP := Lib.hid SP
      clear SP
      obtain ⟨xQ0, xQ1, xQ2, xQ3, xQ4, xQ5, xQf⟩ := row6x SQ
      have lQ := row_lt SQ
      have mQ := Nat.lt_succ_of_lt lQ
      have nQ := Nat.lt_succ_of_lt mQ
      have RQ := Lib.hid SQ
      clear SQ
      obtain ⟨xO0, xO1, xO2, xO3, xO4, xO5, xOf⟩ := row6x SO
      have lO := row_lt SO
      have mO := Nat.lt_succ_of_lt lO
      have nO := Nat.lt_succ_of_lt mO
      have RO := Lib.hid SO
      clear SO
      rcases ht : hostB ⟨d.name, Q1, d.cpu, d.mem, d.slots, Q5⟩ with _ | _
      · have Hf := Lib.hid (show hostNB d = (d, false) by rw [HD.out, ht]; rfl)
        go_wp2_with fail
        refine (c_impl_copyHost d _ _ _ (C_Host.now HH.out (by repeat (first | (with_reducible exact Below.refl _ _) | (with_reducible refine ext_alloc ?_) | ((with_reducible refine ext_setCell ?_ ?_); focus (simp; (try omega))) | (with_reducible refine below_drewN ?_ _) | (with_reducible refine Below.drew ?_) | (with_reducible (apply ext_step; assumption))))) hn1 hn5).mono ?_
        rintro e w9 ⟨cs', rfl, hC, hb⟩
        obtain ⟨Y1, y1, Y5, y5, rfl⟩ := hC.open
        have VC := Lib.hid (hC.carry (S' := fun b => w8.heap.size ≤ b ∧ b < w9.heap.size) (fun _ _ => rfl) (fun b hb => ⟨by have := hb.1; (try simp at this); omega, hb.2⟩))
        clear hC
        have z_w9 := hb.size
        (try simp at z_w9)
        have K_w9 := hb
        clear hb
        have SQ : w9.heap[w.heap.size + 1]? = some (.cells #[.string ⟨#[]⟩, .slice none 0 0, .int .i64 0, .int .i64 0, .int .i64 0, .slice none 0 0] 65 (0, 0)) := (K_w9.block (w.heap.size + 1) (by first | omega | (simp; omega) | (simp; done))).trans (by repeat (first | (exact RQ.out) | ((with_reducible refine heap_at ?_); (focus (simp; done))) | (with_reducible apply set6_0) | (with_reducible apply set6_1) | (with_reducible apply set6_2) | (with_reducible apply set6_3) | (with_reducible apply set6_4) | (with_reducible apply set6_5) | ((with_reducible refine (Below.heap_setCell _ _ _ _ ?_).trans ?_); focus (first | omega | (simp; omega) | (simp; done))) | ((with_reducible refine (Below.heap_alloc _ _ _ ?_).trans ?_); focus (first | omega | (simp; omega) | (simp; done)))))
        clear xP0 xP1 xP2 xP3 xP4 xP5 RP xPf lP mP nP
        clear xQ0 xQ1 xQ2 xQ3 xQ4 xQ5 RQ xQf lQ mQ nQ
        clear xO0 xO1 xO2 xO3 xO4 xO5 RO xOf lO mO nO
        obtain ⟨xQ0, xQ1, xQ2, xQ3, xQ4, xQ5, xQf⟩ := row6x SQ
        have lQ := row_lt SQ
        have mQ := Nat.lt_succ_of_lt lQ
        have nQ := Nat.lt_succ_of_lt mQ
        have RQ := Lib.hid SQ
        clear SQ
        go_wp2_with fail
        refine bodyPost_ret (v := .tuple #[.agg #[.string d.name, .slice Y1 d.labels.length y1, .int .i64 d.cpu, .int .i64 d.mem, .int .i64 d.slots, .slice Y5 d.taints.length y5], .bool false]) (by simp only [results, Try.results39]; go_simp) rfl ?_
        exact ⟨[.string d.name, .slice Y1 d.labels.length y1, .int .i64 d.cpu, .int .i64 d.mem, .int .i64 d.slots, .slice Y5 d.taints.length y5], by rw [Hf.out], by rw [Hf.out]; exact VC.out.carry (fun b hb => (by repeat (first | (with_reducible rfl) | ((with_reducible refine (Below.heap_setCell _ _ _ b ?_).trans ?_); focus (simp; omega)) | ((with_reducible refine (Below.heap_alloc _ _ b ?_).trans ?_); focus (simp; omega)) | ((with_reducible refine (Below.block (by assumption) b ?_).trans ?_); focus (simp; omega))))) (fun b hb => ⟨by omega, by have := hb.2; first | omega | (simp; done) | (simp; omega)⟩), (by repeat (first | (with_reducible exact Below.refl _ _) | (with_reducible refine ext_alloc ?_) | ((with_reducible refine ext_setCell ?_ ?_); focus (simp; (try omega))) | (with_reducible refine below_drewN ?_ _) | (with_reducible refine Below.drew ?_) | (with_reducible (apply ext_step; assumption))))⟩
      · have Hf := Lib.hid (show hostNB d = (⟨d.name, Q1, d.cpu, d.mem, d.slots, Q5⟩, true) by rw [HD.out, ht]; rfl)
        go_wp2_with fail
        refine bodyPost_ret (v := .tuple #[.agg #[.string d.name, .slice X1 Q1.length x1, .int .i64 d.cpu, .int .i64 d.mem, .int .i64 d.slots, .slice X5 Q5.length x5], .bool true]) (by simp only [results, Try.results39]; go_simp) rfl ?_
        exact ⟨[.string d.name, .slice X1 Q1.length x1, .int .i64 d.cpu, .int .i64 d.mem, .int .i64 d.slots, .slice X5 Q5.length x5], by rw [Hf.out], by rw [Hf.out]; exact ⟨_, _, _, _, rfl, a0, V1.out.carry (fun b hb => (by repeat (first | (with_reducible rfl) | ((with_reducible refine (Below.heap_setCell _ _ _ b ?_).trans ?_); focus (simp; omega)) | ((with_reducible refine (Below.heap_alloc _ _ b ?_).trans ?_); focus (simp; omega)) | ((with_reducible refine (Below.block (by assumption) b ?_).trans ?_); focus (simp; omega))))) (fun _ h => h), a2, a3, a4, V5.out.carry (fun b hb => (by repeat (first | (with_reducible rfl) | ((with_reducible refine (Below.heap_setCell _ _ _ b ?_).trans ?_); focus (simp; omega)) | ((with_reducible refine (Below.heap_alloc _ _ b ?_).trans ?_); focus (simp; omega)) | ((with_reducible refine (Below.block (by assumption) b ?_).trans ?_); focus (simp; omega))))) (fun _ h => h), fun b hb => ⟨⟨by omega, by first | omega | (simp; done) | (simp; omega)⟩, by omega⟩, fun b hb => ⟨by omega, by first | omega | (simp; done) | (simp; omega)⟩⟩, (by repeat (first | (with_reducible exact Below.refl _ _) | (with_reducible refine ext_alloc ?_) | ((with_reducible refine ext_setCell ?_ ?_); focus (simp; (try omega))) | (with_reducible refine below_drewN ?_ _) | (with_reducible refine Below.drew ?_) | (with_reducible (apply ext_step; assumption))))⟩
end Go.Proofs.Ytmhlnbihppojmaa
