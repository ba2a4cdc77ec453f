/- The laws' own toHost, markHost, heldHost over rows that the call owns. No conditions. Written by wip/tools/genrowhost.py. -/
import Derived.Test.YtmhlnbihppojmaaHHost
import Derived.Test.YtmhlnbihppojmaaHostN
import Derived.Test.YtmhlnbihppojmaaHeldLabel
import Derived.Test.YtmhlnbihppojmaaHeldTaint
namespace Go.Proofs.Ytmhlnbihppojmaa
open Go.RowKit Go.Lib

def MkHost (x : Int) (d : Host) : Prop := MkLabels (x) d.labels ∧ MkTaints (x + 2 * d.labels.length) d.taints
def cntHost (d : Host) : Nat := 2 * d.labels.length + 3 * d.taints.length
set_option maxHeartbeats 2000000 in
set_option maxRecDepth 10000 in
theorem c_laws_toHostO (d : Host) (cs : List Value) (w : World) (lo : Nat) (h : C_Host lo w.heap.size w d cs) (hn : nHost d ≤ 1048576) :
    Calls Try.prog 38 #[.agg cs.toArray] w fun e w' => ∃ cs', e = .returned (.agg cs'.toArray) ∧ OwnHost (fun b => w.heap.size ≤ b ∧ b < w'.heap.size) w' d cs' ∧ Below w.heap.size w w' := by
  obtain ⟨v1, v5, rfl, a0, a1, a2, a3, a4, a5⟩ := h
  obtain ⟨A1, c1, rfl⟩ := a1.form
  obtain ⟨A5, c5, rfl⟩ := a5.form
  have H1 := Lib.hid a1
  have H5 := Lib.hid a5
  clear a1 a5
  unfold nHost at hn
  have m1 : d.labels.length ≤ 1048576 := by have := nL_def nLabel d.labels; omega
  have m5 : d.taints.length ≤ 1048576 := by have := nL_def nTaint d.taints; omega
  clear hn
  go_enter Try.func38, Try.ntmps38
  go_wp2_with fail
  refine (c_laws_toLabelSO d.labels _ _ _ (Sl_Label.now H1.out (by repeat (first | (with_reducible exact Below.refl _ _) | (with_reducible refine ext_alloc ?_) | ((with_reducible refine ext_setCell ?_ ?_); focus (simp; (try omega))) | (with_reducible refine below_drewN ?_ _) | (with_reducible refine Below.drew ?_) | (with_reducible (apply ext_step; assumption))))) m1).mono ?_
  rintro e w1 ⟨X1, x1, rfl, R1, hb⟩
  have z_w1 := hb.size
  (try simp at z_w1)
  have K_w1 := hb
  clear hb
  have SP : w1.heap[w.heap.size]? = some (.cells #[.string d.name, .slice A1 d.labels.length c1, .int .i64 d.cpu, .int .i64 d.mem, .int .i64 d.slots, .slice A5 d.taints.length c5] 61 (0, 0)) := (K_w1.block (w.heap.size) (by first | omega | (simp; omega) | (simp; done))).trans (by repeat (first | ((with_reducible refine heap_at ?_); (focus (simp; done))) | (with_reducible apply set6_0) | (with_reducible apply set6_1) | (with_reducible apply set6_2) | (with_reducible apply set6_3) | (with_reducible apply set6_4) | (with_reducible apply set6_5) | ((with_reducible refine (Below.heap_setCell _ _ _ _ ?_).trans ?_); focus (first | omega | (simp; omega) | (simp; done))) | ((with_reducible refine (Below.heap_alloc _ _ _ ?_).trans ?_); focus (first | omega | (simp; omega) | (simp; done)))))
  have SQ : w1.heap[w.heap.size + 1]? = some (.cells #[.string ⟨#[]⟩, .slice none 0 0, .int .i64 0, .int .i64 0, .int .i64 0, .slice none 0 0] 65 (0, 0)) := (K_w1.block (w.heap.size + 1) (by first | omega | (simp; omega) | (simp; done))).trans (by repeat (first | ((with_reducible refine heap_at ?_); (focus (simp; done))) | (with_reducible apply set6_0) | (with_reducible apply set6_1) | (with_reducible apply set6_2) | (with_reducible apply set6_3) | (with_reducible apply set6_4) | (with_reducible apply set6_5) | ((with_reducible refine (Below.heap_setCell _ _ _ _ ?_).trans ?_); focus (first | omega | (simp; omega) | (simp; done))) | ((with_reducible refine (Below.heap_alloc _ _ _ ?_).trans ?_); focus (first | omega | (simp; omega) | (simp; done)))))
  have SO : w1.heap[w.heap.size + 1 + 1]? = some (.cells #[.string d.name, .slice none 0 0, .int .i64 0, .int .i64 0, .int .i64 0, .slice none 0 0] 65 (0, 0)) := (K_w1.block (w.heap.size + 1 + 1) (by first | omega | (simp; omega) | (simp; done))).trans (by repeat (first | ((with_reducible refine heap_at ?_); (focus (simp; done))) | (with_reducible apply set6_0) | (with_reducible apply set6_1) | (with_reducible apply set6_2) | (with_reducible apply set6_3) | (with_reducible apply set6_4) | (with_reducible apply set6_5) | ((with_reducible refine (Below.heap_setCell _ _ _ _ ?_).trans ?_); focus (first | omega | (simp; omega) | (simp; done))) | ((with_reducible refine (Below.heap_alloc _ _ _ ?_).trans ?_); focus (first | omega | (simp; omega) | (simp; done)))))
  obtain ⟨xP0, xP1, xP2, xP3, xP4, xP5, xPf⟩ := row6x SP
  have lP := row_lt SP
  have mP := Nat.lt_succ_of_lt lP
  have nP := Nat.lt_succ_of_lt mP
  have RP := Lib.hid SP
  clear SP
  obtain ⟨xQ0, xQ1, xQ2, xQ3, xQ4, xQ5, xQf⟩ := row6x SQ
  have lQ := row_lt SQ
  have mQ := Nat.lt_succ_of_lt lQ
  have nQ := Nat.lt_succ_of_lt mQ
  have RQ := Lib.hid SQ
  clear SQ
  obtain ⟨xO0, xO1, xO2, xO3, xO4, xO5, xOf⟩ := row6x SO
  have lO := row_lt SO
  have mO := Nat.lt_succ_of_lt lO
  have nO := Nat.lt_succ_of_lt mO
  have RO := Lib.hid SO
  clear SO
  have V1 := Lib.hid (R1.carry (S' := fun b => w.heap.size + 3 ≤ b ∧ b < w1.heap.size) (fun _ _ => rfl) (fun b hb => ⟨by have := hb.1; (try simp at this); omega, hb.2⟩))
  clear R1
  go_wp2_with fail
  refine (c_laws_toTaintSO d.taints _ _ _ (Sl_Taint.now H5.out (by repeat (first | (with_reducible exact Below.refl _ _) | (with_reducible refine ext_alloc ?_) | ((with_reducible refine ext_setCell ?_ ?_); focus (simp; (try omega))) | (with_reducible refine below_drewN ?_ _) | (with_reducible refine Below.drew ?_) | (with_reducible (apply ext_step; assumption))))) m5).mono ?_
  rintro e w2 ⟨X5, x5, rfl, R5, hb⟩
  have z_w2 := hb.size
  (try simp at z_w2)
  have K_w2 := hb
  clear hb
  have SP : w2.heap[w.heap.size]? = some (.cells #[.string d.name, .slice A1 d.labels.length c1, .int .i64 d.cpu, .int .i64 d.mem, .int .i64 d.slots, .slice A5 d.taints.length c5] 61 (0, 0)) := (K_w2.block (w.heap.size) (by first | omega | (simp; omega) | (simp; done))).trans (by repeat (first | (exact RP.out) | ((with_reducible refine heap_at ?_); (focus (simp; done))) | (with_reducible apply set6_0) | (with_reducible apply set6_1) | (with_reducible apply set6_2) | (with_reducible apply set6_3) | (with_reducible apply set6_4) | (with_reducible apply set6_5) | ((with_reducible refine (Below.heap_setCell _ _ _ _ ?_).trans ?_); focus (first | omega | (simp; omega) | (simp; done))) | ((with_reducible refine (Below.heap_alloc _ _ _ ?_).trans ?_); focus (first | omega | (simp; omega) | (simp; done)))))
  have SQ : w2.heap[w.heap.size + 1]? = some (.cells #[.string ⟨#[]⟩, .slice none 0 0, .int .i64 0, .int .i64 0, .int .i64 0, .slice none 0 0] 65 (0, 0)) := (K_w2.block (w.heap.size + 1) (by first | omega | (simp; omega) | (simp; done))).trans (by repeat (first | (exact RQ.out) | ((with_reducible refine heap_at ?_); (focus (simp; done))) | (with_reducible apply set6_0) | (with_reducible apply set6_1) | (with_reducible apply set6_2) | (with_reducible apply set6_3) | (with_reducible apply set6_4) | (with_reducible apply set6_5) | ((with_reducible refine (Below.heap_setCell _ _ _ _ ?_).trans ?_); focus (first | omega | (simp; omega) | (simp; done))) | ((with_reducible refine (Below.heap_alloc _ _ _ ?_).trans ?_); focus (first | omega | (simp; omega) | (simp; done)))))
  have SO : w2.heap[w.heap.size + 1 + 1]? = some (.cells #[.string d.name, .slice X1 d.labels.length x1, .int .i64 d.cpu, .int .i64 d.mem, .int .i64 d.slots, .slice none 0 0] 65 (0, 0)) := (K_w2.block (w.heap.size + 1 + 1) (by first | omega | (simp; omega) | (simp; done))).trans (by repeat (first | (exact RO.out) | ((with_reducible refine heap_at ?_); (focus (simp; done))) | (with_reducible apply set6_0) | (with_reducible apply set6_1) | (with_reducible apply set6_2) | (with_reducible apply set6_3) | (with_reducible apply set6_4) | (with_reducible apply set6_5) | ((with_reducible refine (Below.heap_setCell _ _ _ _ ?_).trans ?_); focus (first | omega | (simp; omega) | (simp; done))) | ((with_reducible refine (Below.heap_alloc _ _ _ ?_).trans ?_); focus (first | omega | (simp; omega) | (simp; done)))))
  clear xP0 xP1 xP2 xP3 xP4 xP5 RP xPf lP mP nP
  clear xQ0 xQ1 xQ2 xQ3 xQ4 xQ5 RQ xQf lQ mQ nQ
  clear xO0 xO1 xO2 xO3 xO4 xO5 RO xOf lO mO nO
  obtain ⟨xP0, xP1, xP2, xP3, xP4, xP5, xPf⟩ := row6x SP
  have lP := row_lt SP
  have mP := Nat.lt_succ_of_lt lP
  have nP := Nat.lt_succ_of_lt mP
  have RP := Lib.hid SP
  clear SP
  obtain ⟨xQ0, xQ1, xQ2, xQ3, xQ4, xQ5, xQf⟩ := row6x SQ
  have lQ := row_lt SQ
  have mQ := Nat.lt_succ_of_lt lQ
  have nQ := Nat.lt_succ_of_lt mQ
  have RQ := Lib.hid SQ
  clear SQ
  obtain ⟨xO0, xO1, xO2, xO3, xO4, xO5, xOf⟩ := row6x SO
  have lO := row_lt SO
  have mO := Nat.lt_succ_of_lt lO
  have nO := Nat.lt_succ_of_lt mO
  have RO := Lib.hid SO
  clear SO
  have V5 := Lib.hid (R5.carry (S' := fun b => w1.heap.size ≤ b ∧ b < w2.heap.size) (fun _ _ => rfl) (fun b hb => ⟨by have := hb.1; (try simp at this); omega, hb.2⟩))
  clear R5
  go_wp2_with fail
  refine bodyPost_ret (v := .agg #[.string d.name, .slice X1 d.labels.length x1, .int .i64 d.cpu, .int .i64 d.mem, .int .i64 d.slots, .slice X5 d.taints.length x5]) (by simp only [results, Try.results38]; go_simp) rfl ?_
  refine ⟨[.string d.name, .slice X1 d.labels.length x1, .int .i64 d.cpu, .int .i64 d.mem, .int .i64 d.slots, .slice X5 d.taints.length x5], rfl, ?_, (by repeat (first | (with_reducible exact Below.refl _ _) | (with_reducible refine ext_alloc ?_) | ((with_reducible refine ext_setCell ?_ ?_); focus (simp; (try omega))) | (with_reducible refine below_drewN ?_ _) | (with_reducible refine Below.drew ?_) | (with_reducible (apply ext_step; assumption))))⟩
  exact ⟨_, _, _, _, rfl, a0, V1.out.carry (fun b hb => (by repeat (first | (with_reducible rfl) | ((with_reducible refine (Below.heap_setCell _ _ _ b ?_).trans ?_); focus (simp; omega)) | ((with_reducible refine (Below.heap_alloc _ _ b ?_).trans ?_); focus (simp; omega)) | ((with_reducible refine (Below.block (by assumption) b ?_).trans ?_); focus (simp; omega))))) (fun _ h => h), a2, a3, a4, V5.out.carry (fun b hb => (by repeat (first | (with_reducible rfl) | ((with_reducible refine (Below.heap_setCell _ _ _ b ?_).trans ?_); focus (simp; omega)) | ((with_reducible refine (Below.heap_alloc _ _ b ?_).trans ?_); focus (simp; omega)) | ((with_reducible refine (Below.block (by assumption) b ?_).trans ?_); focus (simp; omega))))) (fun _ h => h), fun b hb => ⟨⟨by omega, by first | omega | (simp; done) | (simp; omega)⟩, by omega⟩, fun b hb => ⟨by omega, by first | omega | (simp; done) | (simp; omega)⟩⟩
set_option maxHeartbeats 2000000 in
set_option maxRecDepth 10000 in
theorem c_laws_markHost (d : Host) (cs : List Value) (x : Int) (w : World) (S : Nat → Prop) (h : OwnHost S w d cs) (hSb : ∀ b, S b → b < w.heap.size) (h1 : 0 < x) (h2 : x + cntHost d ≤ 1152921504606846976) :
    Calls Try.prog 41 #[.agg cs.toArray, .int .i64 x] w fun e w' => ∃ d', e = .returned (.int .i64 (x + cntHost d)) ∧ cntHost d' = cntHost d ∧ OwnHost S w' d' cs ∧ MkHost x d' ∧ Aside S w w' := by
  obtain ⟨v1, v5, S1, S5, rfl, a0, a1, a2, a3, a4, a5, s1, s5⟩ := h
  have b1 := a1
  have b5 := a5
  unfold cntHost at h2
  have Hx := Lib.hid h2
  obtain ⟨A1, c1, rfl⟩ := b1.form
  have H1 := Lib.hid b1
  obtain ⟨A5, c5, rfl⟩ := b5.form
  have H5 := Lib.hid b5
  clear h2 b1 a1 b5 a5
  obtain ⟨y1, hy1⟩ : ∃ y : Int, y = x + 2 * d.labels.length := ⟨_, rfl⟩
  have HY1 := Lib.hid hy1
  have hp1 : 0 < y1 := by omega
  clear hy1
  go_enter Try.func41, Try.ntmps41
  go_wp2_with fail
  refine (c_laws_markLabelS d.labels _ _ _ _ (H1.out.carry (fun b hb => (Below.heap_alloc _ _ b (by have := hSb b (s1 b hb).1; first | omega | (simp; omega)))) (fun _ h => h)) (fun b hb => (by have := hSb b (s1 b hb).1; first | omega | (simp; omega))) h1 (by have := Hx.out; omega)).mono ?_
  rintro e w1 ⟨m1, rfl, l1, O1, M1, hb⟩
  rw [← HY1.out]
  have z_w1 := hb.size
  (try simp at z_w1)
  have K_w1 := hb
  clear hb
  have SP : w1.heap[w.heap.size]? = some (.cells #[.string d.name, .slice A1 d.labels.length c1, .int .i64 d.cpu, .int .i64 d.mem, .int .i64 d.slots, .slice A5 d.taints.length c5] 65 (0, 0)) := (K_w1.block (w.heap.size) (by first | omega | (simp; done) | (simp; omega)) (fun hq => by have := hSb _ (s1 _ hq).1; omega)).trans (by repeat (first | ((with_reducible refine heap_at ?_); (focus (simp; done))) | (with_reducible apply set6_0) | (with_reducible apply set6_1) | (with_reducible apply set6_2) | (with_reducible apply set6_3) | (with_reducible apply set6_4) | (with_reducible apply set6_5) | ((with_reducible refine (Below.heap_setCell _ _ _ _ ?_).trans ?_); focus (first | omega | (simp; omega) | (simp; done))) | ((with_reducible refine (Below.heap_alloc _ _ _ ?_).trans ?_); focus (first | omega | (simp; omega) | (simp; done)))))
  obtain ⟨xP0, xP1, xP2, xP3, xP4, xP5, xPf⟩ := row6x SP
  have lP := row_lt SP
  have mP := Nat.lt_succ_of_lt lP
  have nP := Nat.lt_succ_of_lt mP
  have RP := Lib.hid SP
  clear SP
  have HO1 := Lib.hid O1
  have HM1 := Lib.hid M1
  have HL1 := Lib.hid l1
  clear O1 M1 l1
  go_wp2_with fail
  refine (c_laws_markTaintS d.taints _ _ _ _ (H5.out.carry (fun b hb => ((K_w1.block b (by have := hSb b (s5 b hb); first | omega | (simp; omega)) (fun hq => (s1 b hq).2 hb)).trans (Below.heap_alloc _ _ b (by have := hSb b (s5 b hb); first | omega | (simp; omega))))) (fun _ h => h)) (fun b hb => (by have := hSb b (s5 b hb); first | omega | (simp; omega))) hp1 (by have := Hx.out; have := HY1.out; omega)).mono ?_
  rintro e w2 ⟨m5, rfl, l5, O5, M5, hb⟩
  have z_w2 := hb.size
  (try simp at z_w2)
  have K_w2 := hb
  clear hb
  have SP : w2.heap[w.heap.size]? = some (.cells #[.string d.name, .slice A1 d.labels.length c1, .int .i64 d.cpu, .int .i64 d.mem, .int .i64 d.slots, .slice A5 d.taints.length c5] 65 (0, 0)) := (K_w2.block (w.heap.size) (by first | omega | (simp; done) | (simp; omega)) (fun hq => by have := hSb _ (s5 _ hq); omega)).trans (by repeat (first | (exact RP.out) | ((with_reducible refine heap_at ?_); (focus (simp; done))) | (with_reducible apply set6_0) | (with_reducible apply set6_1) | (with_reducible apply set6_2) | (with_reducible apply set6_3) | (with_reducible apply set6_4) | (with_reducible apply set6_5) | ((with_reducible refine (Below.heap_setCell _ _ _ _ ?_).trans ?_); focus (first | omega | (simp; omega) | (simp; done))) | ((with_reducible refine (Below.heap_alloc _ _ _ ?_).trans ?_); focus (first | omega | (simp; omega) | (simp; done)))))
  clear xP0 xP1 xP2 xP3 xP4 xP5 RP xPf lP mP nP
  obtain ⟨xP0, xP1, xP2, xP3, xP4, xP5, xPf⟩ := row6x SP
  have lP := row_lt SP
  have mP := Nat.lt_succ_of_lt lP
  have nP := Nat.lt_succ_of_lt mP
  have RP := Lib.hid SP
  clear SP
  have HO5 := Lib.hid O5
  have HM5 := Lib.hid M5
  have HL5 := Lib.hid l5
  clear O5 M5 l5
  go_wp2_with fail
  go_ret
  have hl1 : m1.length = d.labels.length := HL1.out
  have hl5 : m5.length = d.taints.length := HL5.out
  have hM5 : MkTaints (x + 2 * (⟨d.name, m1, d.cpu, d.mem, d.slots, m5⟩ : Host).labels.length) m5 := by
    have h9 := HM5.out
    have h8 : y1 = x + 2 * (⟨d.name, m1, d.cpu, d.mem, d.slots, m5⟩ : Host).labels.length := by have := HY1.out; simp only []; have := hl1; omega
    rw [h8] at h9
    exact h9
  have hfin : y1 + 3 * d.taints.length = x + cntHost d := by unfold cntHost; have := HY1.out; omega
  exact ⟨⟨d.name, m1, d.cpu, d.mem, d.slots, m5⟩, ret_int hfin, by unfold cntHost; simp only []; omega, ⟨_, _, S1, S5, rfl, a0, (HO1.out.carry (fun b hb => (K_w2.block b (by have := hSb b (s1 b hb).1; first | omega | (simp; omega)) (fun hq => (s1 b hb).2 hq))) (fun _ h => h)), a2, a3, a4, HO5.out, s1, s5⟩, ⟨HM1.out, hM5⟩, (((aside_alloc (Aside.refl S w)).trans (K_w1.mono (fun b hb => (s1 b hb).1))).trans (K_w2.mono (fun b hb => (s5 b hb))))⟩
set_option maxHeartbeats 2000000 in
set_option maxRecDepth 10000 in
theorem c_laws_heldHost (d : Host) (cs : List Value) (x : Int) (w : World) (lo : Nat) (h : C_Host lo w.heap.size w d cs) (hm : MkHost x d) (h1 : 0 < x) (h2 : x + cntHost d ≤ 1152921504606846976) :
    Calls Try.prog 42 #[.agg cs.toArray, .int .i64 x] w fun e w' => e = .returned (.int .i64 (x + cntHost d)) ∧ Below w.heap.size w w' := by
  obtain ⟨v1, v5, rfl, a0, a1, a2, a3, a4, a5⟩ := h
  obtain ⟨mm1, mm5⟩ := hm
  obtain ⟨A1, c1, rfl⟩ := a1.form
  obtain ⟨A5, c5, rfl⟩ := a5.form
  have H1 := Lib.hid a1
  have HM1 := Lib.hid mm1
  have H5 := Lib.hid a5
  have HM5 := Lib.hid mm5
  unfold cntHost at h2
  have Hx := Lib.hid h2
  clear h2 a1 mm1 a5 mm5
  obtain ⟨y1, hy1⟩ : ∃ y : Int, y = x + 2 * d.labels.length := ⟨_, rfl⟩
  have HY1 := Lib.hid hy1
  have hp1 : 0 < y1 := by omega
  have hq1 : ¬ y1 < 0 := by omega
  obtain ⟨y2, hy2⟩ : ∃ y : Int, y = y1 + 3 * d.taints.length := ⟨_, rfl⟩
  have HY2 := Lib.hid hy2
  have hq2 : ¬ y2 < 0 := by omega
  clear hy1 hy2
  go_enter Try.func42, Try.ntmps42
  go_wp2_with fail
  refine (c_laws_heldLabelS d.labels _ _ _ _ (Sl_Label.now H1.out (by repeat (first | (with_reducible exact Below.refl _ _) | (with_reducible refine ext_alloc ?_) | ((with_reducible refine ext_setCell ?_ ?_); focus (simp; (try omega))) | (with_reducible refine below_drewN ?_ _) | (with_reducible refine Below.drew ?_) | (with_reducible (apply ext_step; assumption))))) HM1.out h1 (by have := Hx.out; omega)).mono ?_
  rintro e w1 ⟨rfl, hb⟩
  rw [← HY1.out]
  have z_w1 := hb.size
  (try simp at z_w1)
  have K_w1 := hb
  clear hb
  have SP : w1.heap[w.heap.size]? = some (.cells #[.string d.name, .slice A1 d.labels.length c1, .int .i64 d.cpu, .int .i64 d.mem, .int .i64 d.slots, .slice A5 d.taints.length c5] 65 (0, 0)) := (K_w1.block (w.heap.size) (by first | omega | (simp; omega) | (simp; done))).trans (by repeat (first | ((with_reducible refine heap_at ?_); (focus (simp; done))) | (with_reducible apply set6_0) | (with_reducible apply set6_1) | (with_reducible apply set6_2) | (with_reducible apply set6_3) | (with_reducible apply set6_4) | (with_reducible apply set6_5) | ((with_reducible refine (Below.heap_setCell _ _ _ _ ?_).trans ?_); focus (first | omega | (simp; omega) | (simp; done))) | ((with_reducible refine (Below.heap_alloc _ _ _ ?_).trans ?_); focus (first | omega | (simp; omega) | (simp; done)))))
  obtain ⟨xP0, xP1, xP2, xP3, xP4, xP5, xPf⟩ := row6x SP
  have lP := row_lt SP
  have mP := Nat.lt_succ_of_lt lP
  have nP := Nat.lt_succ_of_lt mP
  have RP := Lib.hid SP
  clear SP
  go_wp2_with fail
  refine (c_laws_heldTaintS d.taints _ _ _ _ (Sl_Taint.now H5.out (by repeat (first | (with_reducible exact Below.refl _ _) | (with_reducible refine ext_alloc ?_) | ((with_reducible refine ext_setCell ?_ ?_); focus (simp; (try omega))) | (with_reducible refine below_drewN ?_ _) | (with_reducible refine Below.drew ?_) | (with_reducible (apply ext_step; assumption))))) (by have h9 := HM5.out; rw [show x + 2 * d.labels.length = y1 from by have := HY1.out; omega] at h9; exact h9) hp1 (by have := Hx.out; have := HY1.out; omega)).mono ?_
  rintro e w2 ⟨rfl, hb⟩
  rw [← HY2.out]
  have z_w2 := hb.size
  (try simp at z_w2)
  have K_w2 := hb
  clear hb
  have SP : w2.heap[w.heap.size]? = some (.cells #[.string d.name, .slice A1 d.labels.length c1, .int .i64 d.cpu, .int .i64 d.mem, .int .i64 d.slots, .slice A5 d.taints.length c5] 65 (0, 0)) := (K_w2.block (w.heap.size) (by first | omega | (simp; omega) | (simp; done))).trans (by repeat (first | (exact RP.out) | ((with_reducible refine heap_at ?_); (focus (simp; done))) | (with_reducible apply set6_0) | (with_reducible apply set6_1) | (with_reducible apply set6_2) | (with_reducible apply set6_3) | (with_reducible apply set6_4) | (with_reducible apply set6_5) | ((with_reducible refine (Below.heap_setCell _ _ _ _ ?_).trans ?_); focus (first | omega | (simp; omega) | (simp; done))) | ((with_reducible refine (Below.heap_alloc _ _ _ ?_).trans ?_); focus (first | omega | (simp; omega) | (simp; done)))))
  clear xP0 xP1 xP2 xP3 xP4 xP5 RP xPf lP mP nP
  obtain ⟨xP0, xP1, xP2, xP3, xP4, xP5, xPf⟩ := row6x SP
  have lP := row_lt SP
  have mP := Nat.lt_succ_of_lt lP
  have nP := Nat.lt_succ_of_lt mP
  have RP := Lib.hid SP
  clear SP
  go_wp2_with fail
  go_ret
  exact ⟨ret_int (by unfold cntHost; have := HY1.out; have := HY2.out; omega), (by repeat (first | (with_reducible exact Below.refl _ _) | (with_reducible refine ext_alloc ?_) | ((with_reducible refine ext_setCell ?_ ?_); focus (simp; (try omega))) | (with_reducible refine below_drewN ?_ _) | (with_reducible refine Below.drew ?_) | (with_reducible (apply ext_step; assumption))))⟩
end Go.Proofs.Ytmhlnbihppojmaa
