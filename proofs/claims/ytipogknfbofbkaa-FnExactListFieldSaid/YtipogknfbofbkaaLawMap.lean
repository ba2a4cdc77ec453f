/- The walk of the law FnExactMapField. No conditions. Written by wip/tools/genlawmap.py. -/
import Derived.Test.YtipogknfbofbkaaMap
import Derived.Test.YtipogknfbofbkaaToOwn
import Derived.Test.YtipogknfbofbkaaMarkT
namespace Go.Proofs.Ytipogknfbofbkaa
open Go.RowKit

theorem cnt_le : ∀ (n : Nat) (d : TreeD), cntT n d ≤ 4 * nTree n d
  | 0, _ => Nat.zero_le _
  | n + 1, d => by
    rw [cntT_succ, nTree_succ]
    have h1 := nL_def ByteArray.size d.keys
    have h2 := nL_def (nTree n) d.kids
    have h3 : ∀ l : List TreeD, cntL n l ≤ 4 * (l.length + szL (nTree n) l) := by
      intro l
      induction l with
      | nil => exact Nat.zero_le _
      | cons t l ih =>
        have := cnt_le n t
        show 4 + cntT n t + cntL n l ≤ 4 * (l.length + 1 + (nTree n t + szL (nTree n) l))
        omega
    have := h3 d.kids
    omega
theorem szL_congr {D : Type} (f g : D → Nat) : ∀ l : List D, (∀ d ∈ l, f d = g d) → szL f l = szL g l
  | [], _ => rfl
  | d :: l, h => by
    simp only [szL]
    rw [h d (by simp), szL_congr f g l (fun x hx => h x (by simp [hx]))]
theorem nTree_up : ∀ {n lo hi : Nat} {w : World} {d : TreeD} {cs : List Value}, C_Tree n lo hi w d cs → nTree (n + 1) d = nTree n d
  | 0, _, _, _, _, _, h => h.none.elim
  | n + 1, lo, hi, w, d, cs, h => by
    obtain ⟨v4, v5, -, -, -, -, -, A, c, -, -, -, hA⟩ := h.out
    have e1 := nL_def (nTree (n + 1)) d.kids
    have e2 := nL_def (nTree n) d.kids
    rw [nTree_succ (n + 1), nTree_succ n, e1, e2, szL_congr (nTree (n + 1)) (nTree n) d.kids (fun t ht => ?_)]
    obtain ⟨i, hi⟩ := List.getElem?_of_mem ht
    obtain ⟨b, o, -, -, -, hc⟩ := hA (Nat.lt_of_le_of_lt (Nat.zero_le i) (List.getElem?_eq_some_iff.1 hi).1)
    obtain ⟨es, -, -, he⟩ := hc i t hi
    exact nTree_up he
theorem nTree_map {n lo hi : Nat} {w : World} {d : TreeD} {cs : List Value} (key : ByteArray) (h : C_Tree n lo hi w d cs) (hn : nTree n d ≤ 1048576) : nTree n (mapD d key) ≤ 1048576 := by
  obtain ⟨m, rfl⟩ := h.any
  unfold mapD
  rcases hk : kidO d key with _ | f
  · show nTree (m + 1) map0 ≤ _
    rw [nTree_succ]; exact by simp [map0, nL, szL]; decide
  · show nTree (m + 1) (if f.kind = 6 then f else tree0) ≤ _
    split
    · obtain ⟨k, hkl, -, -, hf⟩ := kidO_some hk
      obtain ⟨v4, v5, -, -, -, -, -, A, c, -, -, -, hA⟩ := h.out
      obtain ⟨b, o, -, -, -, hc⟩ := hA (by omega)
      obtain ⟨es, -, -, he⟩ := hc k f hf
      rw [nTree_up he]
      exact nTree_kid hf hn
    · rw [nTree_succ]; exact by simp [tree0, nL, szL]; decide

set_option maxHeartbeats 4000000 in
set_option maxRecDepth 10000 in
theorem w_FnExactMapField (d0 : TreeD) (v0 : Value) (d1 : ByteArray) (v1 : Value) (d2 : ByteArray) (v2 : Value) (w : World) (h0 : R_Tree w d0 v0) (h1 : R_Str w d1 v1) (h2 : R_Str w d2 v2) :
    Calls Try.prog 10 #[v0, v1, v2] w fun e w' => e = .returned (.bool true) ∧ Below w.heap.size w w' := by
  obtain ⟨n, cs, rfl, h0⟩ := h0
  obtain ⟨A4, c4, A5, c5, rfl⟩ := C_Tree.open h0
  obtain ⟨rfl, hz0⟩ := h1
  obtain ⟨rfl, hz1⟩ := h2
  by_cases hp : (d1.size : Int) ≤ 1048576
  · by_cases hp1 : (d2.size : Int) ≤ 1048576
    · by_cases hq : ((nTree n d0 : Nat) : Int) ≤ 1048576
      · have hz := szI_pos hq
        have hz2 : ¬ szI 1048576 (nTree n d0) < 0 := by omega
        have hp2 : d1.size ≤ 1048576 := by omega
        have hp3 : d2.size ≤ 1048576 := by omega
        have hn : nTree n d0 ≤ 1048576 := by omega
        have Hx := Lib.hid (cnt_le n d0)
        have Hg := Lib.hid (Nat.le_trans (cnt_le n (mapD d0 d2)) (Nat.mul_le_mul_left 4 (nTree_map d2 h0 hn)))
        clear hz
        go_enter Try.func10, Try.ntmps10
        have Bw : Below w.heap.size w w := Below.refl _ _
        go_wp2_with fail
        refine (all_szTree n d0 _ _ _ _ (h0.now (by repeat (first | (with_reducible exact Below.refl _ _) | (with_reducible refine ext_alloc ?_) | ((with_reducible refine ext_setCell ?_ ?_); focus (simp; (try omega))) | (with_reducible refine below_drewN ?_ _) | (with_reducible refine Below.drew ?_) | (with_reducible (apply ext_step; assumption))))) (by omega) (by omega)).mono ?_
        rintro e w1 ⟨rfl, hb⟩
        have z1 := hb.size
        (try simp at z1)
        have SA : w1.heap[w.heap.size]? = some (.cells #[.int .i64 d0.kind, .bool d0.flag, .int .i64 d0.num, .string d0.text, .slice A4 d0.keys.length c4, .slice A5 d0.kids.length c5] 79 (0, 0)) := (hb.block (w.heap.size) (by first | omega | (simp; try omega))).trans (heap_at (by simp))
        have Cw : Below w.heap.size w w1 := (Bw.alloc (by first | omega | (simp; try omega)) _).trans (hb.mono (by first | omega | (simp; try omega)))
        obtain ⟨xA0, xA1, xA2, xA3, xA4, xA5, xAf⟩ := row6 SA
        have lA := row_lt SA
        have mA := Nat.lt_succ_of_lt lA
        have nA := Nat.lt_succ_of_lt mA
        have RA := Lib.hid SA
        clear SA
        have Bw := Cw
        clear Cw
        clear hb
        go_wp2_with fail
        refine (all_toTreeO n d0 _ _ _ (h0.now Bw) hn).mono ?_
        rintro e w2 ⟨cs2, rfl, T2, hb⟩
        obtain ⟨p4, q4, p5, q5, rfl, -⟩ := T2.flat
        have z2 := hb.size
        (try simp at z2)
        have SA : w2.heap[w.heap.size]? = some (.cells #[.int .i64 d0.kind, .bool d0.flag, .int .i64 d0.num, .string d0.text, .slice A4 d0.keys.length c4, .slice A5 d0.kids.length c5] 79 (0, 0)) := (hb.block (w.heap.size) (by first | omega | (simp; try omega))).trans RA.out
        have Cw : Below w.heap.size w w2 := Bw.trans (hb.mono (by first | omega | (simp; try omega)))
        have T2C := T2.toC (fun b hb => hb)
        clear RA Bw xA0 xA1 xA2 xA3 xA4 xA5 xAf lA mA nA
        obtain ⟨xA0, xA1, xA2, xA3, xA4, xA5, xAf⟩ := row6 SA
        have lA := row_lt SA
        have mA := Nat.lt_succ_of_lt lA
        have nA := Nat.lt_succ_of_lt mA
        have RA := Lib.hid SA
        clear SA
        have Bw := Cw
        clear Cw
        clear hb
        go_wp2_with fail
        refine (c_spec_MapField n d0 _ d1 d2 _ _ T2C hn hp2 hp3).mono ?_
        rintro e w3 ⟨cs3, rfl, T3, hb⟩
        obtain ⟨D4, e4, D5, e5, rfl, -⟩ := T3.flat
        have z3 := hb.size
        (try simp at z3)
        have SA : w3.heap[w.heap.size]? = some (.cells #[.int .i64 d0.kind, .bool d0.flag, .int .i64 d0.num, .string d0.text, .slice A4 d0.keys.length c4, .slice A5 d0.kids.length c5] 79 (0, 0)) := (hb.block (w.heap.size) (by first | omega | (simp; try omega))).trans RA.out
        have Cw : Below w.heap.size w w3 := Bw.trans (hb.mono (by first | omega | (simp; try omega)))
        have CW := T3.toC (fun b hb => hb)
        clear T2C T2 T3
        clear RA Bw xA0 xA1 xA2 xA3 xA4 xA5 xAf lA mA nA
        obtain ⟨xA0, xA1, xA2, xA3, xA4, xA5, xAf⟩ := row6 SA
        have lA := row_lt SA
        have mA := Nat.lt_succ_of_lt lA
        have nA := Nat.lt_succ_of_lt mA
        have RA := Lib.hid SA
        clear SA
        have Bw := Cw
        clear Cw
        clear hb
        have BW : Below w3.heap.size w3 w3 := Below.refl _ _
        go_wp2_with fail
        refine (all_toTreeO n d0 _ _ _ (h0.now ((Bw.alloc (by omega) _).alloc (by simp; omega) _)) hn).mono ?_
        rintro e w4 ⟨cs4, rfl, T4, hb⟩
        obtain ⟨E4, g4, E5, g5, rfl, -⟩ := T4.flat
        have z4 := hb.size
        (try simp at z4)
        have SA : w4.heap[w.heap.size]? = some (.cells #[.int .i64 d0.kind, .bool d0.flag, .int .i64 d0.num, .string d0.text, .slice A4 d0.keys.length c4, .slice A5 d0.kids.length c5] 79 (0, 0)) := (hb.block (w.heap.size) (by first | omega | (simp; try omega))).trans ((Below.heap_alloc _ _ _ (by first | omega | (simp; try omega))).trans ((Below.heap_alloc _ _ _ (by first | omega | (simp; try omega))).trans RA.out))
        have SM : w4.heap[w3.heap.size]? = some (.cells #[.int .i64 (mapD d0 d2).kind, .bool (mapD d0 d2).flag, .int .i64 (mapD d0 d2).num, .string (mapD d0 d2).text, .slice D4 (mapD d0 d2).keys.length e4, .slice D5 (mapD d0 d2).kids.length e5] 40 (0, 0)) := (hb.block (w3.heap.size) (by first | omega | (simp; try omega))).trans ((Below.heap_alloc _ _ _ (by first | omega | (simp; try omega))).trans (heap_at (by simp)))
        have SN : w4.heap[w3.heap.size + 1]? = some (.cells #[.int .i64 (mapC d0 d2), .int .i64 0, .string (mapP d0 d1 d2)] 82 (0, 0)) := (hb.block (w3.heap.size + 1) (by first | omega | (simp; try omega))).trans (heap_at (by simp))
        have Cw : Below w.heap.size w w4 := ((Bw.alloc (by first | omega | (simp; try omega)) _).alloc (by first | omega | (simp; try omega)) _).trans (hb.mono (by first | omega | (simp; try omega)))
        have CW : Below w3.heap.size w3 w4 := ((BW.alloc (by first | omega | (simp; try omega)) _).alloc (by first | omega | (simp; try omega)) _).trans (hb.mono (by first | omega | (simp; try omega)))
        have TX := T4.carry (S' := fun b => w3.heap.size + 2 ≤ b ∧ b < w4.heap.size) (fun _ _ => rfl) (fun b hb => by simpa using hb)
        have CX := TX.toC (fun b hb => hb)
        clear T4
        clear RA Bw BW xA0 xA1 xA2 xA3 xA4 xA5 xAf lA mA nA
        obtain ⟨xA0, xA1, xA2, xA3, xA4, xA5, xAf⟩ := row6 SA
        have lA := row_lt SA
        have mA := Nat.lt_succ_of_lt lA
        have nA := Nat.lt_succ_of_lt mA
        have RA := Lib.hid SA
        clear SA
        obtain ⟨xM0, xM1, xM2, xM3, xM4, xM5, xMf⟩ := row6 SM
        have lM := row_lt SM
        have mM := Nat.lt_succ_of_lt lM
        have nM := Nat.lt_succ_of_lt mM
        have RM := Lib.hid SM
        clear SM
        obtain ⟨xN0, xN1, xN2, xNf⟩ := row3 SN
        have lN := row_lt SN
        have mN := Nat.lt_succ_of_lt lN
        have nN := Nat.lt_succ_of_lt mN
        have RN := Lib.hid SN
        clear SN
        have Bw := Cw
        clear Cw
        have BW := CW
        clear CW
        clear hb
        have BX : Below w4.heap.size w4 w4 := Below.refl _ _
        go_wp2_with fail
        refine (c_impl_MapField n d0 _ d1 d2 _ _ (CX.now ((Below.refl _ _).alloc (Nat.le_refl _) _)) hn hp2 hp3).mono ?_
        rintro e w5 ⟨cs5, rfl, T5, hb⟩
        obtain ⟨G4, i4, G5, i5, rfl, -⟩ := T5.flat
        have z5 := hb.size
        (try simp at z5)
        have SA : w5.heap[w.heap.size]? = some (.cells #[.int .i64 d0.kind, .bool d0.flag, .int .i64 d0.num, .string d0.text, .slice A4 d0.keys.length c4, .slice A5 d0.kids.length c5] 79 (0, 0)) := (hb.block (w.heap.size) (by first | omega | (simp; try omega))).trans ((Below.heap_alloc _ _ _ (by first | omega | (simp; try omega))).trans RA.out)
        have SM : w5.heap[w3.heap.size]? = some (.cells #[.int .i64 (mapD d0 d2).kind, .bool (mapD d0 d2).flag, .int .i64 (mapD d0 d2).num, .string (mapD d0 d2).text, .slice D4 (mapD d0 d2).keys.length e4, .slice D5 (mapD d0 d2).kids.length e5] 40 (0, 0)) := (hb.block (w3.heap.size) (by first | omega | (simp; try omega))).trans ((Below.heap_alloc _ _ _ (by first | omega | (simp; try omega))).trans RM.out)
        have SN : w5.heap[w3.heap.size + 1]? = some (.cells #[.int .i64 (mapC d0 d2), .int .i64 0, .string (mapP d0 d1 d2)] 82 (0, 0)) := (hb.block (w3.heap.size + 1) (by first | omega | (simp; try omega))).trans ((Below.heap_alloc _ _ _ (by first | omega | (simp; try omega))).trans RN.out)
        have SX : w5.heap[w4.heap.size]? = some (.cells #[.int .i64 d0.kind, .bool d0.flag, .int .i64 d0.num, .string d0.text, .slice E4 d0.keys.length g4, .slice E5 d0.kids.length g5] 40 (0, 0)) := (hb.block (w4.heap.size) (by first | omega | (simp; try omega))).trans (heap_at (by simp))
        have Cw : Below w.heap.size w w5 := (Bw.alloc (by first | omega | (simp; try omega)) _).trans (hb.mono (by first | omega | (simp; try omega)))
        have CW : Below w3.heap.size w3 w5 := (BW.alloc (by first | omega | (simp; try omega)) _).trans (hb.mono (by first | omega | (simp; try omega)))
        have CX : Below w4.heap.size w4 w5 := (BX.alloc (by first | omega | (simp; try omega)) _).trans (hb.mono (by first | omega | (simp; try omega)))
        have TG := T5.carry (S' := fun b => w4.heap.size + 1 ≤ b ∧ b < w5.heap.size) (fun _ _ => rfl) (fun b hb => by simpa using hb)
        have CG := TG.toC (fun b hb => hb)
        clear T5
        clear RA RM RN Bw BW BX xA0 xA1 xA2 xA3 xA4 xA5 xM0 xM1 xM2 xM3 xM4 xM5 xN0 xN1 xN2 xAf xMf xNf lA mA nA lM mM nM lN mN nN
        obtain ⟨xA0, xA1, xA2, xA3, xA4, xA5, xAf⟩ := row6 SA
        have lA := row_lt SA
        have mA := Nat.lt_succ_of_lt lA
        have nA := Nat.lt_succ_of_lt mA
        have RA := Lib.hid SA
        clear SA
        obtain ⟨xM0, xM1, xM2, xM3, xM4, xM5, xMf⟩ := row6 SM
        have lM := row_lt SM
        have mM := Nat.lt_succ_of_lt lM
        have nM := Nat.lt_succ_of_lt mM
        have RM := Lib.hid SM
        clear SM
        obtain ⟨xN0, xN1, xN2, xNf⟩ := row3 SN
        have lN := row_lt SN
        have mN := Nat.lt_succ_of_lt lN
        have nN := Nat.lt_succ_of_lt mN
        have RN := Lib.hid SN
        clear SN
        obtain ⟨xX0, xX1, xX2, xX3, xX4, xX5, xXf⟩ := row6 SX
        have lX := row_lt SX
        have mX := Nat.lt_succ_of_lt lX
        have nX := Nat.lt_succ_of_lt mX
        have RX := Lib.hid SX
        clear SX
        have Bw := Cw
        clear Cw
        have BW := CW
        clear CW
        have BX := CX
        clear CX
        clear hb
        have BG : Below w5.heap.size w5 w5 := Below.refl _ _
        go_wp2_with fail
        refine (all_eqTree n (mapD d0 d2) _ _ _ _ _ (CG.now ((BG.alloc (by omega) _).alloc (by first | omega | (simp; try omega)) _)) (CW.now ((BW.alloc (by omega) _).alloc (by first | omega | (simp; try omega)) _))).mono ?_
        rintro e w6 ⟨rfl, hb⟩
        have z6 := hb.size
        (try simp at z6)
        have SA : w6.heap[w.heap.size]? = some (.cells #[.int .i64 d0.kind, .bool d0.flag, .int .i64 d0.num, .string d0.text, .slice A4 d0.keys.length c4, .slice A5 d0.kids.length c5] 79 (0, 0)) := (hb.block (w.heap.size) (by first | omega | (simp; try omega))).trans ((Below.heap_alloc _ _ _ (by first | omega | (simp; try omega))).trans ((Below.heap_alloc _ _ _ (by first | omega | (simp; try omega))).trans RA.out))
        have SM : w6.heap[w3.heap.size]? = some (.cells #[.int .i64 (mapD d0 d2).kind, .bool (mapD d0 d2).flag, .int .i64 (mapD d0 d2).num, .string (mapD d0 d2).text, .slice D4 (mapD d0 d2).keys.length e4, .slice D5 (mapD d0 d2).kids.length e5] 40 (0, 0)) := (hb.block (w3.heap.size) (by first | omega | (simp; try omega))).trans ((Below.heap_alloc _ _ _ (by first | omega | (simp; try omega))).trans ((Below.heap_alloc _ _ _ (by first | omega | (simp; try omega))).trans RM.out))
        have SN : w6.heap[w3.heap.size + 1]? = some (.cells #[.int .i64 (mapC d0 d2), .int .i64 0, .string (mapP d0 d1 d2)] 82 (0, 0)) := (hb.block (w3.heap.size + 1) (by first | omega | (simp; try omega))).trans ((Below.heap_alloc _ _ _ (by first | omega | (simp; try omega))).trans ((Below.heap_alloc _ _ _ (by first | omega | (simp; try omega))).trans RN.out))
        have SX : w6.heap[w4.heap.size]? = some (.cells #[.int .i64 d0.kind, .bool d0.flag, .int .i64 d0.num, .string d0.text, .slice E4 d0.keys.length g4, .slice E5 d0.kids.length g5] 40 (0, 0)) := (hb.block (w4.heap.size) (by first | omega | (simp; try omega))).trans ((Below.heap_alloc _ _ _ (by first | omega | (simp; try omega))).trans ((Below.heap_alloc _ _ _ (by first | omega | (simp; try omega))).trans RX.out))
        have SG : w6.heap[w5.heap.size]? = some (.cells #[.int .i64 (mapD d0 d2).kind, .bool (mapD d0 d2).flag, .int .i64 (mapD d0 d2).num, .string (mapD d0 d2).text, .slice G4 (mapD d0 d2).keys.length i4, .slice G5 (mapD d0 d2).kids.length i5] 40 (0, 0)) := (hb.block (w5.heap.size) (by first | omega | (simp; try omega))).trans ((Below.heap_alloc _ _ _ (by first | omega | (simp; try omega))).trans (heap_at (by simp)))
        have SH : w6.heap[w5.heap.size + 1]? = some (.cells #[.int .i64 (mapC d0 d2), .int .i64 0, .string (mapP d0 d1 d2)] 82 (0, 0)) := (hb.block (w5.heap.size + 1) (by first | omega | (simp; try omega))).trans (heap_at (by simp))
        have Cw : Below w.heap.size w w6 := ((Bw.alloc (by first | omega | (simp; try omega)) _).alloc (by first | omega | (simp; try omega)) _).trans (hb.mono (by first | omega | (simp; try omega)))
        have CW : Below w3.heap.size w3 w6 := ((BW.alloc (by first | omega | (simp; try omega)) _).alloc (by first | omega | (simp; try omega)) _).trans (hb.mono (by first | omega | (simp; try omega)))
        have CX : Below w4.heap.size w4 w6 := ((BX.alloc (by first | omega | (simp; try omega)) _).alloc (by first | omega | (simp; try omega)) _).trans (hb.mono (by first | omega | (simp; try omega)))
        have CG : Below w5.heap.size w5 w6 := ((BG.alloc (by first | omega | (simp; try omega)) _).alloc (by first | omega | (simp; try omega)) _).trans (hb.mono (by first | omega | (simp; try omega)))
        clear RA RM RN RX Bw BW BX BG xA0 xA1 xA2 xA3 xA4 xA5 xM0 xM1 xM2 xM3 xM4 xM5 xN0 xN1 xN2 xX0 xX1 xX2 xX3 xX4 xX5 xAf xMf xNf xXf lA mA nA lM mM nM lN mN nN lX mX nX
        obtain ⟨xA0, xA1, xA2, xA3, xA4, xA5, xAf⟩ := row6 SA
        have lA := row_lt SA
        have mA := Nat.lt_succ_of_lt lA
        have nA := Nat.lt_succ_of_lt mA
        have RA := Lib.hid SA
        clear SA
        obtain ⟨xM0, xM1, xM2, xM3, xM4, xM5, xMf⟩ := row6 SM
        have lM := row_lt SM
        have mM := Nat.lt_succ_of_lt lM
        have nM := Nat.lt_succ_of_lt mM
        have RM := Lib.hid SM
        clear SM
        obtain ⟨xN0, xN1, xN2, xNf⟩ := row3 SN
        have lN := row_lt SN
        have mN := Nat.lt_succ_of_lt lN
        have nN := Nat.lt_succ_of_lt mN
        have RN := Lib.hid SN
        clear SN
        obtain ⟨xX0, xX1, xX2, xX3, xX4, xX5, xXf⟩ := row6 SX
        have lX := row_lt SX
        have mX := Nat.lt_succ_of_lt lX
        have nX := Nat.lt_succ_of_lt mX
        have RX := Lib.hid SX
        clear SX
        obtain ⟨xG0, xG1, xG2, xG3, xG4, xG5, xGf⟩ := row6 SG
        have lG := row_lt SG
        have mG := Nat.lt_succ_of_lt lG
        have nG := Nat.lt_succ_of_lt mG
        have RG := Lib.hid SG
        clear SG
        obtain ⟨xH0, xH1, xH2, xHf⟩ := row3 SH
        have lH := row_lt SH
        have mH := Nat.lt_succ_of_lt lH
        have nH := Nat.lt_succ_of_lt mH
        have RH := Lib.hid SH
        clear SH
        have Bw := Cw
        clear Cw
        have BW := CW
        clear CW
        have BX := CX
        clear CX
        have BG := CG
        clear CG
        clear hb
        go_wp2_with fail
        refine (c_laws_eqFault _ _ _ _).mono ?_
        rintro e w7 ⟨rfl, hb⟩
        have z7 := hb.size
        (try simp at z7)
        have SA : w7.heap[w.heap.size]? = some (.cells #[.int .i64 d0.kind, .bool d0.flag, .int .i64 d0.num, .string d0.text, .slice A4 d0.keys.length c4, .slice A5 d0.kids.length c5] 79 (0, 0)) := (hb.block (w.heap.size) (by first | omega | (simp; try omega))).trans RA.out
        have SM : w7.heap[w3.heap.size]? = some (.cells #[.int .i64 (mapD d0 d2).kind, .bool (mapD d0 d2).flag, .int .i64 (mapD d0 d2).num, .string (mapD d0 d2).text, .slice D4 (mapD d0 d2).keys.length e4, .slice D5 (mapD d0 d2).kids.length e5] 40 (0, 0)) := (hb.block (w3.heap.size) (by first | omega | (simp; try omega))).trans RM.out
        have SN : w7.heap[w3.heap.size + 1]? = some (.cells #[.int .i64 (mapC d0 d2), .int .i64 0, .string (mapP d0 d1 d2)] 82 (0, 0)) := (hb.block (w3.heap.size + 1) (by first | omega | (simp; try omega))).trans RN.out
        have SX : w7.heap[w4.heap.size]? = some (.cells #[.int .i64 d0.kind, .bool d0.flag, .int .i64 d0.num, .string d0.text, .slice E4 d0.keys.length g4, .slice E5 d0.kids.length g5] 40 (0, 0)) := (hb.block (w4.heap.size) (by first | omega | (simp; try omega))).trans RX.out
        have SG : w7.heap[w5.heap.size]? = some (.cells #[.int .i64 (mapD d0 d2).kind, .bool (mapD d0 d2).flag, .int .i64 (mapD d0 d2).num, .string (mapD d0 d2).text, .slice G4 (mapD d0 d2).keys.length i4, .slice G5 (mapD d0 d2).kids.length i5] 40 (0, 0)) := (hb.block (w5.heap.size) (by first | omega | (simp; try omega))).trans RG.out
        have SH : w7.heap[w5.heap.size + 1]? = some (.cells #[.int .i64 (mapC d0 d2), .int .i64 0, .string (mapP d0 d1 d2)] 82 (0, 0)) := (hb.block (w5.heap.size + 1) (by first | omega | (simp; try omega))).trans RH.out
        have Cw : Below w.heap.size w w7 := Bw.trans (hb.mono (by first | omega | (simp; try omega)))
        have CW : Below w3.heap.size w3 w7 := BW.trans (hb.mono (by first | omega | (simp; try omega)))
        have CX : Below w4.heap.size w4 w7 := BX.trans (hb.mono (by first | omega | (simp; try omega)))
        have CG : Below w5.heap.size w5 w7 := BG.trans (hb.mono (by first | omega | (simp; try omega)))
        clear RA RM RN RX RG RH Bw BW BX BG xA0 xA1 xA2 xA3 xA4 xA5 xM0 xM1 xM2 xM3 xM4 xM5 xN0 xN1 xN2 xX0 xX1 xX2 xX3 xX4 xX5 xG0 xG1 xG2 xG3 xG4 xG5 xH0 xH1 xH2 xAf xMf xNf xXf xGf xHf lA mA nA lM mM nM lN mN nN lX mX nX lG mG nG lH mH nH
        obtain ⟨xA0, xA1, xA2, xA3, xA4, xA5, xAf⟩ := row6 SA
        have lA := row_lt SA
        have mA := Nat.lt_succ_of_lt lA
        have nA := Nat.lt_succ_of_lt mA
        have RA := Lib.hid SA
        clear SA
        obtain ⟨xM0, xM1, xM2, xM3, xM4, xM5, xMf⟩ := row6 SM
        have lM := row_lt SM
        have mM := Nat.lt_succ_of_lt lM
        have nM := Nat.lt_succ_of_lt mM
        have RM := Lib.hid SM
        clear SM
        obtain ⟨xN0, xN1, xN2, xNf⟩ := row3 SN
        have lN := row_lt SN
        have mN := Nat.lt_succ_of_lt lN
        have nN := Nat.lt_succ_of_lt mN
        have RN := Lib.hid SN
        clear SN
        obtain ⟨xX0, xX1, xX2, xX3, xX4, xX5, xXf⟩ := row6 SX
        have lX := row_lt SX
        have mX := Nat.lt_succ_of_lt lX
        have nX := Nat.lt_succ_of_lt mX
        have RX := Lib.hid SX
        clear SX
        obtain ⟨xG0, xG1, xG2, xG3, xG4, xG5, xGf⟩ := row6 SG
        have lG := row_lt SG
        have mG := Nat.lt_succ_of_lt lG
        have nG := Nat.lt_succ_of_lt mG
        have RG := Lib.hid SG
        clear SG
        obtain ⟨xH0, xH1, xH2, xHf⟩ := row3 SH
        have lH := row_lt SH
        have mH := Nat.lt_succ_of_lt lH
        have nH := Nat.lt_succ_of_lt mH
        have RH := Lib.hid SH
        clear SH
        have Bw := Cw
        clear Cw
        have BW := CW
        clear CW
        have BX := CX
        clear CX
        have BG := CG
        clear CG
        clear hb
        go_wp2_with fail
        have CX7 := CX.now BX
        go_region_held3 (fun w' => Below (w7).heap.size (w7) w' ∧ (∀ xb xo, xb < (w7).heap.size → w'.cell? ⟨xb, xo, none⟩ = (w7).cell? ⟨xb, xo, none⟩)) (first | exact keep_drew _ | exact keep_ext (by assumption) (by assumption) | exact keep_same (by assumption) | exact keep_alloc (by assumption) _) (first | (go_at_call 52; refine (all_toTree n d0 _ _ _ (h0.now (ext_trans Bw (by first | (with_reducible exact Below.refl _ _) | exact (keep_same (by assumption)).1))) hn).mono ?_; rintro e w9 ⟨cs9, rfl, hr9, hb9⟩; obtain ⟨y0, y1, y2, y3, rfl⟩ := C_Tree.open hr9) | (go_at_call 27; refine (all_eqTree n d0 _ _ _ _ _ (CX7.now (by first | (with_reducible exact Below.refl _ _) | exact (keep_same (by assumption)).1)) (hr9.now (by first | exact Below.refl _ _ | exact (Below.refl _ _).drew))).mono ?_; rintro e w9 ⟨rfl, hb9⟩))
        have hb := held_step (by assumption)
        have z8 := hb.size
        (try simp at z8)
        have SA : w9.heap[w.heap.size]? = some (.cells #[.int .i64 d0.kind, .bool d0.flag, .int .i64 d0.num, .string d0.text, .slice A4 d0.keys.length c4, .slice A5 d0.kids.length c5] 79 (0, 0)) := (hb.block (w.heap.size) (by first | omega | (simp; try omega))).trans RA.out
        have SM : w9.heap[w3.heap.size]? = some (.cells #[.int .i64 (mapD d0 d2).kind, .bool (mapD d0 d2).flag, .int .i64 (mapD d0 d2).num, .string (mapD d0 d2).text, .slice D4 (mapD d0 d2).keys.length e4, .slice D5 (mapD d0 d2).kids.length e5] 40 (0, 0)) := (hb.block (w3.heap.size) (by first | omega | (simp; try omega))).trans RM.out
        have SN : w9.heap[w3.heap.size + 1]? = some (.cells #[.int .i64 (mapC d0 d2), .int .i64 0, .string (mapP d0 d1 d2)] 82 (0, 0)) := (hb.block (w3.heap.size + 1) (by first | omega | (simp; try omega))).trans RN.out
        have SX : w9.heap[w4.heap.size]? = some (.cells #[.int .i64 d0.kind, .bool d0.flag, .int .i64 d0.num, .string d0.text, .slice E4 d0.keys.length g4, .slice E5 d0.kids.length g5] 40 (0, 0)) := (hb.block (w4.heap.size) (by first | omega | (simp; try omega))).trans RX.out
        have SG : w9.heap[w5.heap.size]? = some (.cells #[.int .i64 (mapD d0 d2).kind, .bool (mapD d0 d2).flag, .int .i64 (mapD d0 d2).num, .string (mapD d0 d2).text, .slice G4 (mapD d0 d2).keys.length i4, .slice G5 (mapD d0 d2).kids.length i5] 40 (0, 0)) := (hb.block (w5.heap.size) (by first | omega | (simp; try omega))).trans RG.out
        have SH : w9.heap[w5.heap.size + 1]? = some (.cells #[.int .i64 (mapC d0 d2), .int .i64 0, .string (mapP d0 d1 d2)] 82 (0, 0)) := (hb.block (w5.heap.size + 1) (by first | omega | (simp; try omega))).trans RH.out
        have Cw : Below w.heap.size w w9 := Bw.trans (hb.mono (by first | omega | (simp; try omega)))
        have CW : Below w3.heap.size w3 w9 := BW.trans (hb.mono (by first | omega | (simp; try omega)))
        have CX : Below w4.heap.size w4 w9 := BX.trans (hb.mono (by first | omega | (simp; try omega)))
        have CG : Below w5.heap.size w5 w9 := BG.trans (hb.mono (by first | omega | (simp; try omega)))
        clear RA RM RN RX RG RH Bw BW BX BG xA0 xA1 xA2 xA3 xA4 xA5 xM0 xM1 xM2 xM3 xM4 xM5 xN0 xN1 xN2 xX0 xX1 xX2 xX3 xX4 xX5 xG0 xG1 xG2 xG3 xG4 xG5 xH0 xH1 xH2 xAf xMf xNf xXf xGf xHf lA mA nA lM mM nM lN mN nN lX mX nX lG mG nG lH mH nH
        obtain ⟨xA0, xA1, xA2, xA3, xA4, xA5, xAf⟩ := row6 SA
        have lA := row_lt SA
        have mA := Nat.lt_succ_of_lt lA
        have nA := Nat.lt_succ_of_lt mA
        have RA := Lib.hid SA
        clear SA
        obtain ⟨xM0, xM1, xM2, xM3, xM4, xM5, xMf⟩ := row6 SM
        have lM := row_lt SM
        have mM := Nat.lt_succ_of_lt lM
        have nM := Nat.lt_succ_of_lt mM
        have RM := Lib.hid SM
        clear SM
        obtain ⟨xN0, xN1, xN2, xNf⟩ := row3 SN
        have lN := row_lt SN
        have mN := Nat.lt_succ_of_lt lN
        have nN := Nat.lt_succ_of_lt mN
        have RN := Lib.hid SN
        clear SN
        obtain ⟨xX0, xX1, xX2, xX3, xX4, xX5, xXf⟩ := row6 SX
        have lX := row_lt SX
        have mX := Nat.lt_succ_of_lt lX
        have nX := Nat.lt_succ_of_lt mX
        have RX := Lib.hid SX
        clear SX
        obtain ⟨xG0, xG1, xG2, xG3, xG4, xG5, xGf⟩ := row6 SG
        have lG := row_lt SG
        have mG := Nat.lt_succ_of_lt lG
        have nG := Nat.lt_succ_of_lt mG
        have RG := Lib.hid SG
        clear SG
        obtain ⟨xH0, xH1, xH2, xHf⟩ := row3 SH
        have lH := row_lt SH
        have mH := Nat.lt_succ_of_lt lH
        have nH := Nat.lt_succ_of_lt mH
        have RH := Lib.hid SH
        clear SH
        have Bw := Cw
        clear Cw
        have BW := CW
        clear CW
        have BX := CX
        clear CX
        have BG := CG
        clear CG
        clear hb
        go_wp2_with fail
        refine (all_mark n d0 _ _ _ _ (TX.carry (fun b hb => BX.block b hb.2) (fun _ h => h)) (fun b hb => by omega) (by decide) (by have := Hx.out; omega)).mono ?_
        rintro e w10 ⟨x0d, rfl, -, -, -, hb⟩
        have z10 := hb.size
        have SA : w10.heap[w.heap.size]? = some (.cells #[.int .i64 d0.kind, .bool d0.flag, .int .i64 d0.num, .string d0.text, .slice A4 d0.keys.length c4, .slice A5 d0.kids.length c5] 79 (0, 0)) := (hb.block (w.heap.size) (by omega) (by omega)).trans RA.out
        have SM : w10.heap[w3.heap.size]? = some (.cells #[.int .i64 (mapD d0 d2).kind, .bool (mapD d0 d2).flag, .int .i64 (mapD d0 d2).num, .string (mapD d0 d2).text, .slice D4 (mapD d0 d2).keys.length e4, .slice D5 (mapD d0 d2).kids.length e5] 40 (0, 0)) := (hb.block (w3.heap.size) (by omega) (by omega)).trans RM.out
        have SN : w10.heap[w3.heap.size + 1]? = some (.cells #[.int .i64 (mapC d0 d2), .int .i64 0, .string (mapP d0 d1 d2)] 82 (0, 0)) := (hb.block (w3.heap.size + 1) (by omega) (by omega)).trans RN.out
        have SX : w10.heap[w4.heap.size]? = some (.cells #[.int .i64 d0.kind, .bool d0.flag, .int .i64 d0.num, .string d0.text, .slice E4 d0.keys.length g4, .slice E5 d0.kids.length g5] 40 (0, 0)) := (hb.block (w4.heap.size) (by omega) (by omega)).trans RX.out
        have SG : w10.heap[w5.heap.size]? = some (.cells #[.int .i64 (mapD d0 d2).kind, .bool (mapD d0 d2).flag, .int .i64 (mapD d0 d2).num, .string (mapD d0 d2).text, .slice G4 (mapD d0 d2).keys.length i4, .slice G5 (mapD d0 d2).kids.length i5] 40 (0, 0)) := (hb.block (w5.heap.size) (by omega) (by omega)).trans RG.out
        have SH : w10.heap[w5.heap.size + 1]? = some (.cells #[.int .i64 (mapC d0 d2), .int .i64 0, .string (mapP d0 d1 d2)] 82 (0, 0)) := (hb.block (w5.heap.size + 1) (by omega) (by omega)).trans RH.out
        have Cw : Below w.heap.size w w10 := Bw.trans (hb.below (by omega) (fun i hi => by omega))
        have CW : Below w3.heap.size w3 w10 := BW.trans (hb.below (by omega) (fun i hi => by omega))
        have TG10 := TG.carry (w' := w10) (fun b hq => (hb.block b (by omega) (by omega)).trans (BG.block b hq.2)) (fun _ h => h)
        have CG10 := TG10.toC (lo := w4.heap.size + 1) (hi := w10.heap.size) (fun b hq => ⟨hq.1, by omega⟩)
        have hc0 : (0 : Int) ≤ cntT n d0 := by omega
        clear TG CG CX7 CX TX
        clear RA RM RN RX RG RH Bw BW xA0 xA1 xA2 xA3 xA4 xA5 xM0 xM1 xM2 xM3 xM4 xM5 xN0 xN1 xN2 xX0 xX1 xX2 xX3 xX4 xX5 xG0 xG1 xG2 xG3 xG4 xG5 xH0 xH1 xH2 xAf xMf xNf xXf xGf xHf lA mA nA lM mM nM lN mN nN lX mX nX lG mG nG lH mH nH
        obtain ⟨xA0, xA1, xA2, xA3, xA4, xA5, xAf⟩ := row6 SA
        have lA := row_lt SA
        have mA := Nat.lt_succ_of_lt lA
        have nA := Nat.lt_succ_of_lt mA
        have RA := Lib.hid SA
        clear SA
        obtain ⟨xM0, xM1, xM2, xM3, xM4, xM5, xMf⟩ := row6 SM
        have lM := row_lt SM
        have mM := Nat.lt_succ_of_lt lM
        have nM := Nat.lt_succ_of_lt mM
        have RM := Lib.hid SM
        clear SM
        obtain ⟨xN0, xN1, xN2, xNf⟩ := row3 SN
        have lN := row_lt SN
        have mN := Nat.lt_succ_of_lt lN
        have nN := Nat.lt_succ_of_lt mN
        have RN := Lib.hid SN
        clear SN
        obtain ⟨xX0, xX1, xX2, xX3, xX4, xX5, xXf⟩ := row6 SX
        have lX := row_lt SX
        have mX := Nat.lt_succ_of_lt lX
        have nX := Nat.lt_succ_of_lt mX
        have RX := Lib.hid SX
        clear SX
        obtain ⟨xG0, xG1, xG2, xG3, xG4, xG5, xGf⟩ := row6 SG
        have lG := row_lt SG
        have mG := Nat.lt_succ_of_lt lG
        have nG := Nat.lt_succ_of_lt mG
        have RG := Lib.hid SG
        clear SG
        obtain ⟨xH0, xH1, xH2, xHf⟩ := row3 SH
        have lH := row_lt SH
        have mH := Nat.lt_succ_of_lt lH
        have nH := Nat.lt_succ_of_lt mH
        have RH := Lib.hid SH
        clear SH
        have Bw := Cw
        clear Cw
        have BW := CW
        clear CW
        clear hb
        go_wp2_with fail
        refine (all_eqTree n (mapD d0 d2) _ _ _ _ _ CG10 (CW.now BW)).mono ?_
        rintro e w11 ⟨rfl, hb⟩
        have z11 := hb.size
        (try simp at z11)
        have SA : w11.heap[w.heap.size]? = some (.cells #[.int .i64 d0.kind, .bool d0.flag, .int .i64 d0.num, .string d0.text, .slice A4 d0.keys.length c4, .slice A5 d0.kids.length c5] 79 (0, 0)) := (hb.block (w.heap.size) (by first | omega | (simp; try omega))).trans RA.out
        have SM : w11.heap[w3.heap.size]? = some (.cells #[.int .i64 (mapD d0 d2).kind, .bool (mapD d0 d2).flag, .int .i64 (mapD d0 d2).num, .string (mapD d0 d2).text, .slice D4 (mapD d0 d2).keys.length e4, .slice D5 (mapD d0 d2).kids.length e5] 40 (0, 0)) := (hb.block (w3.heap.size) (by first | omega | (simp; try omega))).trans RM.out
        have SN : w11.heap[w3.heap.size + 1]? = some (.cells #[.int .i64 (mapC d0 d2), .int .i64 0, .string (mapP d0 d1 d2)] 82 (0, 0)) := (hb.block (w3.heap.size + 1) (by first | omega | (simp; try omega))).trans RN.out
        have SX : w11.heap[w4.heap.size]? = some (.cells #[.int .i64 d0.kind, .bool d0.flag, .int .i64 d0.num, .string d0.text, .slice E4 d0.keys.length g4, .slice E5 d0.kids.length g5] 40 (0, 0)) := (hb.block (w4.heap.size) (by first | omega | (simp; try omega))).trans RX.out
        have SG : w11.heap[w5.heap.size]? = some (.cells #[.int .i64 (mapD d0 d2).kind, .bool (mapD d0 d2).flag, .int .i64 (mapD d0 d2).num, .string (mapD d0 d2).text, .slice G4 (mapD d0 d2).keys.length i4, .slice G5 (mapD d0 d2).kids.length i5] 40 (0, 0)) := (hb.block (w5.heap.size) (by first | omega | (simp; try omega))).trans RG.out
        have SH : w11.heap[w5.heap.size + 1]? = some (.cells #[.int .i64 (mapC d0 d2), .int .i64 0, .string (mapP d0 d1 d2)] 82 (0, 0)) := (hb.block (w5.heap.size + 1) (by first | omega | (simp; try omega))).trans RH.out
        have Cw : Below w.heap.size w w11 := Bw.trans (hb.mono (by first | omega | (simp; try omega)))
        have CW : Below w3.heap.size w3 w11 := BW.trans (hb.mono (by first | omega | (simp; try omega)))
        have TG11 := TG10.carry (w' := w11) (fun b hq => hb.block b (by omega)) (fun _ h => h)
        clear TG10 CG10
        clear RA RM RN RX RG RH Bw BW xA0 xA1 xA2 xA3 xA4 xA5 xM0 xM1 xM2 xM3 xM4 xM5 xN0 xN1 xN2 xX0 xX1 xX2 xX3 xX4 xX5 xG0 xG1 xG2 xG3 xG4 xG5 xH0 xH1 xH2 xAf xMf xNf xXf xGf xHf lA mA nA lM mM nM lN mN nN lX mX nX lG mG nG lH mH nH
        obtain ⟨xA0, xA1, xA2, xA3, xA4, xA5, xAf⟩ := row6 SA
        have lA := row_lt SA
        have mA := Nat.lt_succ_of_lt lA
        have nA := Nat.lt_succ_of_lt mA
        have RA := Lib.hid SA
        clear SA
        obtain ⟨xM0, xM1, xM2, xM3, xM4, xM5, xMf⟩ := row6 SM
        have lM := row_lt SM
        have mM := Nat.lt_succ_of_lt lM
        have nM := Nat.lt_succ_of_lt mM
        have RM := Lib.hid SM
        clear SM
        obtain ⟨xN0, xN1, xN2, xNf⟩ := row3 SN
        have lN := row_lt SN
        have mN := Nat.lt_succ_of_lt lN
        have nN := Nat.lt_succ_of_lt mN
        have RN := Lib.hid SN
        clear SN
        obtain ⟨xX0, xX1, xX2, xX3, xX4, xX5, xXf⟩ := row6 SX
        have lX := row_lt SX
        have mX := Nat.lt_succ_of_lt lX
        have nX := Nat.lt_succ_of_lt mX
        have RX := Lib.hid SX
        clear SX
        obtain ⟨xG0, xG1, xG2, xG3, xG4, xG5, xGf⟩ := row6 SG
        have lG := row_lt SG
        have mG := Nat.lt_succ_of_lt lG
        have nG := Nat.lt_succ_of_lt mG
        have RG := Lib.hid SG
        clear SG
        obtain ⟨xH0, xH1, xH2, xHf⟩ := row3 SH
        have lH := row_lt SH
        have mH := Nat.lt_succ_of_lt lH
        have nH := Nat.lt_succ_of_lt mH
        have RH := Lib.hid SH
        clear SH
        have Bw := Cw
        clear Cw
        have BW := CW
        clear CW
        clear hb
        go_wp2_with fail
        refine (c_laws_eqFault _ _ _ _).mono ?_
        rintro e w12 ⟨rfl, hb⟩
        have z12 := hb.size
        (try simp at z12)
        have SA : w12.heap[w.heap.size]? = some (.cells #[.int .i64 d0.kind, .bool d0.flag, .int .i64 d0.num, .string d0.text, .slice A4 d0.keys.length c4, .slice A5 d0.kids.length c5] 79 (0, 0)) := (hb.block (w.heap.size) (by first | omega | (simp; try omega))).trans RA.out
        have SM : w12.heap[w3.heap.size]? = some (.cells #[.int .i64 (mapD d0 d2).kind, .bool (mapD d0 d2).flag, .int .i64 (mapD d0 d2).num, .string (mapD d0 d2).text, .slice D4 (mapD d0 d2).keys.length e4, .slice D5 (mapD d0 d2).kids.length e5] 40 (0, 0)) := (hb.block (w3.heap.size) (by first | omega | (simp; try omega))).trans RM.out
        have SN : w12.heap[w3.heap.size + 1]? = some (.cells #[.int .i64 (mapC d0 d2), .int .i64 0, .string (mapP d0 d1 d2)] 82 (0, 0)) := (hb.block (w3.heap.size + 1) (by first | omega | (simp; try omega))).trans RN.out
        have SX : w12.heap[w4.heap.size]? = some (.cells #[.int .i64 d0.kind, .bool d0.flag, .int .i64 d0.num, .string d0.text, .slice E4 d0.keys.length g4, .slice E5 d0.kids.length g5] 40 (0, 0)) := (hb.block (w4.heap.size) (by first | omega | (simp; try omega))).trans RX.out
        have SG : w12.heap[w5.heap.size]? = some (.cells #[.int .i64 (mapD d0 d2).kind, .bool (mapD d0 d2).flag, .int .i64 (mapD d0 d2).num, .string (mapD d0 d2).text, .slice G4 (mapD d0 d2).keys.length i4, .slice G5 (mapD d0 d2).kids.length i5] 40 (0, 0)) := (hb.block (w5.heap.size) (by first | omega | (simp; try omega))).trans RG.out
        have SH : w12.heap[w5.heap.size + 1]? = some (.cells #[.int .i64 (mapC d0 d2), .int .i64 0, .string (mapP d0 d1 d2)] 82 (0, 0)) := (hb.block (w5.heap.size + 1) (by first | omega | (simp; try omega))).trans RH.out
        have Cw : Below w.heap.size w w12 := Bw.trans (hb.mono (by first | omega | (simp; try omega)))
        have CW : Below w3.heap.size w3 w12 := BW.trans (hb.mono (by first | omega | (simp; try omega)))
        have TG12 := TG11.carry (w' := w12) (fun b hq => hb.block b (by omega)) (fun _ h => h)
        clear TG11
        clear RA RM RN RX RG RH Bw BW xA0 xA1 xA2 xA3 xA4 xA5 xM0 xM1 xM2 xM3 xM4 xM5 xN0 xN1 xN2 xX0 xX1 xX2 xX3 xX4 xX5 xG0 xG1 xG2 xG3 xG4 xG5 xH0 xH1 xH2 xAf xMf xNf xXf xGf xHf lA mA nA lM mM nM lN mN nN lX mX nX lG mG nG lH mH nH
        obtain ⟨xA0, xA1, xA2, xA3, xA4, xA5, xAf⟩ := row6 SA
        have lA := row_lt SA
        have mA := Nat.lt_succ_of_lt lA
        have nA := Nat.lt_succ_of_lt mA
        have RA := Lib.hid SA
        clear SA
        obtain ⟨xM0, xM1, xM2, xM3, xM4, xM5, xMf⟩ := row6 SM
        have lM := row_lt SM
        have mM := Nat.lt_succ_of_lt lM
        have nM := Nat.lt_succ_of_lt mM
        have RM := Lib.hid SM
        clear SM
        obtain ⟨xN0, xN1, xN2, xNf⟩ := row3 SN
        have lN := row_lt SN
        have mN := Nat.lt_succ_of_lt lN
        have nN := Nat.lt_succ_of_lt mN
        have RN := Lib.hid SN
        clear SN
        obtain ⟨xX0, xX1, xX2, xX3, xX4, xX5, xXf⟩ := row6 SX
        have lX := row_lt SX
        have mX := Nat.lt_succ_of_lt lX
        have nX := Nat.lt_succ_of_lt mX
        have RX := Lib.hid SX
        clear SX
        obtain ⟨xG0, xG1, xG2, xG3, xG4, xG5, xGf⟩ := row6 SG
        have lG := row_lt SG
        have mG := Nat.lt_succ_of_lt lG
        have nG := Nat.lt_succ_of_lt mG
        have RG := Lib.hid SG
        clear SG
        obtain ⟨xH0, xH1, xH2, xHf⟩ := row3 SH
        have lH := row_lt SH
        have mH := Nat.lt_succ_of_lt lH
        have nH := Nat.lt_succ_of_lt mH
        have RH := Lib.hid SH
        clear SH
        have Bw := Cw
        clear Cw
        have BW := CW
        clear CW
        clear hb
        go_wp2_with fail
        refine (all_mark n (mapD d0 d2) _ _ _ _ TG12 (fun b hb => by omega) (by decide) (by have := Hg.out; omega)).mono ?_
        rintro e w13 ⟨g0d, rfl, TG13, MG, EG, hb⟩
        have z13 := hb.size
        have SA : w13.heap[w.heap.size]? = some (.cells #[.int .i64 d0.kind, .bool d0.flag, .int .i64 d0.num, .string d0.text, .slice A4 d0.keys.length c4, .slice A5 d0.kids.length c5] 79 (0, 0)) := (hb.block (w.heap.size) (by omega) (by omega)).trans RA.out
        have SM : w13.heap[w3.heap.size]? = some (.cells #[.int .i64 (mapD d0 d2).kind, .bool (mapD d0 d2).flag, .int .i64 (mapD d0 d2).num, .string (mapD d0 d2).text, .slice D4 (mapD d0 d2).keys.length e4, .slice D5 (mapD d0 d2).kids.length e5] 40 (0, 0)) := (hb.block (w3.heap.size) (by omega) (by omega)).trans RM.out
        have SN : w13.heap[w3.heap.size + 1]? = some (.cells #[.int .i64 (mapC d0 d2), .int .i64 0, .string (mapP d0 d1 d2)] 82 (0, 0)) := (hb.block (w3.heap.size + 1) (by omega) (by omega)).trans RN.out
        have SX : w13.heap[w4.heap.size]? = some (.cells #[.int .i64 d0.kind, .bool d0.flag, .int .i64 d0.num, .string d0.text, .slice E4 d0.keys.length g4, .slice E5 d0.kids.length g5] 40 (0, 0)) := (hb.block (w4.heap.size) (by omega) (by omega)).trans RX.out
        have SG : w13.heap[w5.heap.size]? = some (.cells #[.int .i64 (mapD d0 d2).kind, .bool (mapD d0 d2).flag, .int .i64 (mapD d0 d2).num, .string (mapD d0 d2).text, .slice G4 (mapD d0 d2).keys.length i4, .slice G5 (mapD d0 d2).kids.length i5] 40 (0, 0)) := (hb.block (w5.heap.size) (by omega) (by omega)).trans RG.out
        have SH : w13.heap[w5.heap.size + 1]? = some (.cells #[.int .i64 (mapC d0 d2), .int .i64 0, .string (mapP d0 d1 d2)] 82 (0, 0)) := (hb.block (w5.heap.size + 1) (by omega) (by omega)).trans RH.out
        have Cw : Below w.heap.size w w13 := Bw.trans (hb.below (by omega) (fun i hi => by omega))
        have CW : Below w3.heap.size w3 w13 := BW.trans (hb.below (by omega) (fun i hi => by omega))
        have CG13 := TG13.toC (lo := w4.heap.size + 1) (hi := w13.heap.size) (fun b hq => ⟨hq.1, by omega⟩)
        have HE := Lib.hid EG
        have HM := Lib.hid MG
        clear TG12 TG13 EG MG
        clear RA RM RN RX RG RH Bw BW xA0 xA1 xA2 xA3 xA4 xA5 xM0 xM1 xM2 xM3 xM4 xM5 xN0 xN1 xN2 xX0 xX1 xX2 xX3 xX4 xX5 xG0 xG1 xG2 xG3 xG4 xG5 xH0 xH1 xH2 xAf xMf xNf xXf xGf xHf lA mA nA lM mM nM lN mN nN lX mX nX lG mG nG lH mH nH
        obtain ⟨xA0, xA1, xA2, xA3, xA4, xA5, xAf⟩ := row6 SA
        have lA := row_lt SA
        have mA := Nat.lt_succ_of_lt lA
        have nA := Nat.lt_succ_of_lt mA
        have RA := Lib.hid SA
        clear SA
        obtain ⟨xM0, xM1, xM2, xM3, xM4, xM5, xMf⟩ := row6 SM
        have lM := row_lt SM
        have mM := Nat.lt_succ_of_lt lM
        have nM := Nat.lt_succ_of_lt mM
        have RM := Lib.hid SM
        clear SM
        obtain ⟨xN0, xN1, xN2, xNf⟩ := row3 SN
        have lN := row_lt SN
        have mN := Nat.lt_succ_of_lt lN
        have nN := Nat.lt_succ_of_lt mN
        have RN := Lib.hid SN
        clear SN
        obtain ⟨xX0, xX1, xX2, xX3, xX4, xX5, xXf⟩ := row6 SX
        have lX := row_lt SX
        have mX := Nat.lt_succ_of_lt lX
        have nX := Nat.lt_succ_of_lt mX
        have RX := Lib.hid SX
        clear SX
        obtain ⟨xG0, xG1, xG2, xG3, xG4, xG5, xGf⟩ := row6 SG
        have lG := row_lt SG
        have mG := Nat.lt_succ_of_lt lG
        have nG := Nat.lt_succ_of_lt mG
        have RG := Lib.hid SG
        clear SG
        obtain ⟨xH0, xH1, xH2, xHf⟩ := row3 SH
        have lH := row_lt SH
        have mH := Nat.lt_succ_of_lt lH
        have nH := Nat.lt_succ_of_lt mH
        have RH := Lib.hid SH
        clear SH
        have Bw := Cw
        clear Cw
        have BW := CW
        clear CW
        clear hb
        have BD : Below w13.heap.size w13 w13 := Below.refl _ _
        obtain ⟨cg, hcg⟩ : ∃ cg : Int, cg = (cntT n (mapD d0 d2) : Int) := ⟨_, rfl⟩
        have Hcg := Lib.hid hcg
        have hcg0 : 0 ≤ cg := by omega
        have hcg1 : cg ≤ 4194304 := by have := Hg.out; omega
        rw [← hcg]
        clear hcg
        go_wp2_with fail
        refine (c_laws_heldTree n g0d _ _ _ _ CG13 HM.out (by decide) (by have := HE.out; have := Hcg.out; omega)).mono ?_
        rintro e w14 ⟨rfl, hb⟩
        rw [HE.out, ← Hcg.out]
        have z14 := hb.size
        (try simp at z14)
        have SA : w14.heap[w.heap.size]? = some (.cells #[.int .i64 d0.kind, .bool d0.flag, .int .i64 d0.num, .string d0.text, .slice A4 d0.keys.length c4, .slice A5 d0.kids.length c5] 79 (0, 0)) := (hb.block (w.heap.size) (by first | omega | (simp; try omega))).trans RA.out
        have SM : w14.heap[w3.heap.size]? = some (.cells #[.int .i64 (mapD d0 d2).kind, .bool (mapD d0 d2).flag, .int .i64 (mapD d0 d2).num, .string (mapD d0 d2).text, .slice D4 (mapD d0 d2).keys.length e4, .slice D5 (mapD d0 d2).kids.length e5] 40 (0, 0)) := (hb.block (w3.heap.size) (by first | omega | (simp; try omega))).trans RM.out
        have SN : w14.heap[w3.heap.size + 1]? = some (.cells #[.int .i64 (mapC d0 d2), .int .i64 0, .string (mapP d0 d1 d2)] 82 (0, 0)) := (hb.block (w3.heap.size + 1) (by first | omega | (simp; try omega))).trans RN.out
        have SX : w14.heap[w4.heap.size]? = some (.cells #[.int .i64 d0.kind, .bool d0.flag, .int .i64 d0.num, .string d0.text, .slice E4 d0.keys.length g4, .slice E5 d0.kids.length g5] 40 (0, 0)) := (hb.block (w4.heap.size) (by first | omega | (simp; try omega))).trans RX.out
        have SG : w14.heap[w5.heap.size]? = some (.cells #[.int .i64 (mapD d0 d2).kind, .bool (mapD d0 d2).flag, .int .i64 (mapD d0 d2).num, .string (mapD d0 d2).text, .slice G4 (mapD d0 d2).keys.length i4, .slice G5 (mapD d0 d2).kids.length i5] 40 (0, 0)) := (hb.block (w5.heap.size) (by first | omega | (simp; try omega))).trans RG.out
        have SH : w14.heap[w5.heap.size + 1]? = some (.cells #[.int .i64 (mapC d0 d2), .int .i64 0, .string (mapP d0 d1 d2)] 82 (0, 0)) := (hb.block (w5.heap.size + 1) (by first | omega | (simp; try omega))).trans RH.out
        have Cw : Below w.heap.size w w14 := Bw.trans (hb.mono (by first | omega | (simp; try omega)))
        have CW : Below w3.heap.size w3 w14 := BW.trans (hb.mono (by first | omega | (simp; try omega)))
        have CD : Below w13.heap.size w13 w14 := BD.trans (hb.mono (by first | omega | (simp; try omega)))
        clear RA RM RN RX RG RH Bw BW BD xA0 xA1 xA2 xA3 xA4 xA5 xM0 xM1 xM2 xM3 xM4 xM5 xN0 xN1 xN2 xX0 xX1 xX2 xX3 xX4 xX5 xG0 xG1 xG2 xG3 xG4 xG5 xH0 xH1 xH2 xAf xMf xNf xXf xGf xHf lA mA nA lM mM nM lN mN nN lX mX nX lG mG nG lH mH nH
        obtain ⟨xA0, xA1, xA2, xA3, xA4, xA5, xAf⟩ := row6 SA
        have lA := row_lt SA
        have mA := Nat.lt_succ_of_lt lA
        have nA := Nat.lt_succ_of_lt mA
        have RA := Lib.hid SA
        clear SA
        obtain ⟨xM0, xM1, xM2, xM3, xM4, xM5, xMf⟩ := row6 SM
        have lM := row_lt SM
        have mM := Nat.lt_succ_of_lt lM
        have nM := Nat.lt_succ_of_lt mM
        have RM := Lib.hid SM
        clear SM
        obtain ⟨xN0, xN1, xN2, xNf⟩ := row3 SN
        have lN := row_lt SN
        have mN := Nat.lt_succ_of_lt lN
        have nN := Nat.lt_succ_of_lt mN
        have RN := Lib.hid SN
        clear SN
        obtain ⟨xX0, xX1, xX2, xX3, xX4, xX5, xXf⟩ := row6 SX
        have lX := row_lt SX
        have mX := Nat.lt_succ_of_lt lX
        have nX := Nat.lt_succ_of_lt mX
        have RX := Lib.hid SX
        clear SX
        obtain ⟨xG0, xG1, xG2, xG3, xG4, xG5, xGf⟩ := row6 SG
        have lG := row_lt SG
        have mG := Nat.lt_succ_of_lt lG
        have nG := Nat.lt_succ_of_lt mG
        have RG := Lib.hid SG
        clear SG
        obtain ⟨xH0, xH1, xH2, xHf⟩ := row3 SH
        have lH := row_lt SH
        have mH := Nat.lt_succ_of_lt lH
        have nH := Nat.lt_succ_of_lt mH
        have RH := Lib.hid SH
        clear SH
        have Bw := Cw
        clear Cw
        have BW := CW
        clear CW
        have BD := CD
        clear CD
        clear hb
        go_wp2_with fail
        refine (all_toTreeO n d0 _ _ _ (h0.now Bw) hn).mono ?_
        rintro e w15 ⟨cs15, rfl, T15, hb⟩
        obtain ⟨K4, m4, K5, m5, rfl, -⟩ := T15.flat
        have z15 := hb.size
        (try simp at z15)
        have SA : w15.heap[w.heap.size]? = some (.cells #[.int .i64 d0.kind, .bool d0.flag, .int .i64 d0.num, .string d0.text, .slice A4 d0.keys.length c4, .slice A5 d0.kids.length c5] 79 (0, 0)) := (hb.block (w.heap.size) (by first | omega | (simp; try omega))).trans RA.out
        have SM : w15.heap[w3.heap.size]? = some (.cells #[.int .i64 (mapD d0 d2).kind, .bool (mapD d0 d2).flag, .int .i64 (mapD d0 d2).num, .string (mapD d0 d2).text, .slice D4 (mapD d0 d2).keys.length e4, .slice D5 (mapD d0 d2).kids.length e5] 40 (0, 0)) := (hb.block (w3.heap.size) (by first | omega | (simp; try omega))).trans RM.out
        have SN : w15.heap[w3.heap.size + 1]? = some (.cells #[.int .i64 (mapC d0 d2), .int .i64 0, .string (mapP d0 d1 d2)] 82 (0, 0)) := (hb.block (w3.heap.size + 1) (by first | omega | (simp; try omega))).trans RN.out
        have SX : w15.heap[w4.heap.size]? = some (.cells #[.int .i64 d0.kind, .bool d0.flag, .int .i64 d0.num, .string d0.text, .slice E4 d0.keys.length g4, .slice E5 d0.kids.length g5] 40 (0, 0)) := (hb.block (w4.heap.size) (by first | omega | (simp; try omega))).trans RX.out
        have SG : w15.heap[w5.heap.size]? = some (.cells #[.int .i64 (mapD d0 d2).kind, .bool (mapD d0 d2).flag, .int .i64 (mapD d0 d2).num, .string (mapD d0 d2).text, .slice G4 (mapD d0 d2).keys.length i4, .slice G5 (mapD d0 d2).kids.length i5] 40 (0, 0)) := (hb.block (w5.heap.size) (by first | omega | (simp; try omega))).trans RG.out
        have SH : w15.heap[w5.heap.size + 1]? = some (.cells #[.int .i64 (mapC d0 d2), .int .i64 0, .string (mapP d0 d1 d2)] 82 (0, 0)) := (hb.block (w5.heap.size + 1) (by first | omega | (simp; try omega))).trans RH.out
        have Cw : Below w.heap.size w w15 := Bw.trans (hb.mono (by first | omega | (simp; try omega)))
        have CW : Below w3.heap.size w3 w15 := BW.trans (hb.mono (by first | omega | (simp; try omega)))
        have CD : Below w13.heap.size w13 w15 := BD.trans (hb.mono (by first | omega | (simp; try omega)))
        have T15C := T15.toC (fun b hb => hb)
        clear RA RM RN RX RG RH Bw BW BD xA0 xA1 xA2 xA3 xA4 xA5 xM0 xM1 xM2 xM3 xM4 xM5 xN0 xN1 xN2 xX0 xX1 xX2 xX3 xX4 xX5 xG0 xG1 xG2 xG3 xG4 xG5 xH0 xH1 xH2 xAf xMf xNf xXf xGf xHf lA mA nA lM mM nM lN mN nN lX mX nX lG mG nG lH mH nH
        obtain ⟨xA0, xA1, xA2, xA3, xA4, xA5, xAf⟩ := row6 SA
        have lA := row_lt SA
        have mA := Nat.lt_succ_of_lt lA
        have nA := Nat.lt_succ_of_lt mA
        have RA := Lib.hid SA
        clear SA
        obtain ⟨xM0, xM1, xM2, xM3, xM4, xM5, xMf⟩ := row6 SM
        have lM := row_lt SM
        have mM := Nat.lt_succ_of_lt lM
        have nM := Nat.lt_succ_of_lt mM
        have RM := Lib.hid SM
        clear SM
        obtain ⟨xN0, xN1, xN2, xNf⟩ := row3 SN
        have lN := row_lt SN
        have mN := Nat.lt_succ_of_lt lN
        have nN := Nat.lt_succ_of_lt mN
        have RN := Lib.hid SN
        clear SN
        obtain ⟨xX0, xX1, xX2, xX3, xX4, xX5, xXf⟩ := row6 SX
        have lX := row_lt SX
        have mX := Nat.lt_succ_of_lt lX
        have nX := Nat.lt_succ_of_lt mX
        have RX := Lib.hid SX
        clear SX
        obtain ⟨xG0, xG1, xG2, xG3, xG4, xG5, xGf⟩ := row6 SG
        have lG := row_lt SG
        have mG := Nat.lt_succ_of_lt lG
        have nG := Nat.lt_succ_of_lt mG
        have RG := Lib.hid SG
        clear SG
        obtain ⟨xH0, xH1, xH2, xHf⟩ := row3 SH
        have lH := row_lt SH
        have mH := Nat.lt_succ_of_lt lH
        have nH := Nat.lt_succ_of_lt mH
        have RH := Lib.hid SH
        clear SH
        have Bw := Cw
        clear Cw
        have BW := CW
        clear CW
        have BD := CD
        clear CD
        clear hb
        go_wp2_with fail
        refine (c_impl_MapField n d0 _ d1 d2 _ _ T15C hn hp2 hp3).mono ?_
        rintro e w16 ⟨cs16, rfl, T16, hb⟩
        obtain ⟨Q4, r4, Q5, r5, rfl, -⟩ := T16.flat
        have z16 := hb.size
        (try simp at z16)
        have SA : w16.heap[w.heap.size]? = some (.cells #[.int .i64 d0.kind, .bool d0.flag, .int .i64 d0.num, .string d0.text, .slice A4 d0.keys.length c4, .slice A5 d0.kids.length c5] 79 (0, 0)) := (hb.block (w.heap.size) (by first | omega | (simp; try omega))).trans RA.out
        have SM : w16.heap[w3.heap.size]? = some (.cells #[.int .i64 (mapD d0 d2).kind, .bool (mapD d0 d2).flag, .int .i64 (mapD d0 d2).num, .string (mapD d0 d2).text, .slice D4 (mapD d0 d2).keys.length e4, .slice D5 (mapD d0 d2).kids.length e5] 40 (0, 0)) := (hb.block (w3.heap.size) (by first | omega | (simp; try omega))).trans RM.out
        have SN : w16.heap[w3.heap.size + 1]? = some (.cells #[.int .i64 (mapC d0 d2), .int .i64 0, .string (mapP d0 d1 d2)] 82 (0, 0)) := (hb.block (w3.heap.size + 1) (by first | omega | (simp; try omega))).trans RN.out
        have SX : w16.heap[w4.heap.size]? = some (.cells #[.int .i64 d0.kind, .bool d0.flag, .int .i64 d0.num, .string d0.text, .slice E4 d0.keys.length g4, .slice E5 d0.kids.length g5] 40 (0, 0)) := (hb.block (w4.heap.size) (by first | omega | (simp; try omega))).trans RX.out
        have SG : w16.heap[w5.heap.size]? = some (.cells #[.int .i64 (mapD d0 d2).kind, .bool (mapD d0 d2).flag, .int .i64 (mapD d0 d2).num, .string (mapD d0 d2).text, .slice G4 (mapD d0 d2).keys.length i4, .slice G5 (mapD d0 d2).kids.length i5] 40 (0, 0)) := (hb.block (w5.heap.size) (by first | omega | (simp; try omega))).trans RG.out
        have SH : w16.heap[w5.heap.size + 1]? = some (.cells #[.int .i64 (mapC d0 d2), .int .i64 0, .string (mapP d0 d1 d2)] 82 (0, 0)) := (hb.block (w5.heap.size + 1) (by first | omega | (simp; try omega))).trans RH.out
        have Cw : Below w.heap.size w w16 := Bw.trans (hb.mono (by first | omega | (simp; try omega)))
        have CW : Below w3.heap.size w3 w16 := BW.trans (hb.mono (by first | omega | (simp; try omega)))
        have CD : Below w13.heap.size w13 w16 := BD.trans (hb.mono (by first | omega | (simp; try omega)))
        have CH := T16.toC (fun b hb => hb)
        clear T15 T15C T16
        clear RA RM RN RX RG RH Bw BW BD xA0 xA1 xA2 xA3 xA4 xA5 xM0 xM1 xM2 xM3 xM4 xM5 xN0 xN1 xN2 xX0 xX1 xX2 xX3 xX4 xX5 xG0 xG1 xG2 xG3 xG4 xG5 xH0 xH1 xH2 xAf xMf xNf xXf xGf xHf lA mA nA lM mM nM lN mN nN lX mX nX lG mG nG lH mH nH
        obtain ⟨xA0, xA1, xA2, xA3, xA4, xA5, xAf⟩ := row6 SA
        have lA := row_lt SA
        have mA := Nat.lt_succ_of_lt lA
        have nA := Nat.lt_succ_of_lt mA
        have RA := Lib.hid SA
        clear SA
        obtain ⟨xM0, xM1, xM2, xM3, xM4, xM5, xMf⟩ := row6 SM
        have lM := row_lt SM
        have mM := Nat.lt_succ_of_lt lM
        have nM := Nat.lt_succ_of_lt mM
        have RM := Lib.hid SM
        clear SM
        obtain ⟨xN0, xN1, xN2, xNf⟩ := row3 SN
        have lN := row_lt SN
        have mN := Nat.lt_succ_of_lt lN
        have nN := Nat.lt_succ_of_lt mN
        have RN := Lib.hid SN
        clear SN
        obtain ⟨xX0, xX1, xX2, xX3, xX4, xX5, xXf⟩ := row6 SX
        have lX := row_lt SX
        have mX := Nat.lt_succ_of_lt lX
        have nX := Nat.lt_succ_of_lt mX
        have RX := Lib.hid SX
        clear SX
        obtain ⟨xG0, xG1, xG2, xG3, xG4, xG5, xGf⟩ := row6 SG
        have lG := row_lt SG
        have mG := Nat.lt_succ_of_lt lG
        have nG := Nat.lt_succ_of_lt mG
        have RG := Lib.hid SG
        clear SG
        obtain ⟨xH0, xH1, xH2, xHf⟩ := row3 SH
        have lH := row_lt SH
        have mH := Nat.lt_succ_of_lt lH
        have nH := Nat.lt_succ_of_lt mH
        have RH := Lib.hid SH
        clear SH
        have Bw := Cw
        clear Cw
        have BW := CW
        clear CW
        have BD := CD
        clear CD
        clear hb
        go_wp2_with fail
        refine (all_eqTree n (mapD d0 d2) _ _ _ _ _ (CH.now (((Below.refl _ _).alloc (Nat.le_refl _) _).alloc (by simp) _)) (CW.now ((BW.alloc (by omega) _).alloc (by first | omega | (simp; try omega)) _))).mono ?_
        rintro e w17 ⟨rfl, hb⟩
        have z17 := hb.size
        (try simp at z17)
        have SA : w17.heap[w.heap.size]? = some (.cells #[.int .i64 d0.kind, .bool d0.flag, .int .i64 d0.num, .string d0.text, .slice A4 d0.keys.length c4, .slice A5 d0.kids.length c5] 79 (0, 0)) := (hb.block (w.heap.size) (by first | omega | (simp; try omega))).trans ((Below.heap_alloc _ _ _ (by first | omega | (simp; try omega))).trans ((Below.heap_alloc _ _ _ (by first | omega | (simp; try omega))).trans RA.out))
        have SM : w17.heap[w3.heap.size]? = some (.cells #[.int .i64 (mapD d0 d2).kind, .bool (mapD d0 d2).flag, .int .i64 (mapD d0 d2).num, .string (mapD d0 d2).text, .slice D4 (mapD d0 d2).keys.length e4, .slice D5 (mapD d0 d2).kids.length e5] 40 (0, 0)) := (hb.block (w3.heap.size) (by first | omega | (simp; try omega))).trans ((Below.heap_alloc _ _ _ (by first | omega | (simp; try omega))).trans ((Below.heap_alloc _ _ _ (by first | omega | (simp; try omega))).trans RM.out))
        have SN : w17.heap[w3.heap.size + 1]? = some (.cells #[.int .i64 (mapC d0 d2), .int .i64 0, .string (mapP d0 d1 d2)] 82 (0, 0)) := (hb.block (w3.heap.size + 1) (by first | omega | (simp; try omega))).trans ((Below.heap_alloc _ _ _ (by first | omega | (simp; try omega))).trans ((Below.heap_alloc _ _ _ (by first | omega | (simp; try omega))).trans RN.out))
        have SX : w17.heap[w4.heap.size]? = some (.cells #[.int .i64 d0.kind, .bool d0.flag, .int .i64 d0.num, .string d0.text, .slice E4 d0.keys.length g4, .slice E5 d0.kids.length g5] 40 (0, 0)) := (hb.block (w4.heap.size) (by first | omega | (simp; try omega))).trans ((Below.heap_alloc _ _ _ (by first | omega | (simp; try omega))).trans ((Below.heap_alloc _ _ _ (by first | omega | (simp; try omega))).trans RX.out))
        have SG : w17.heap[w5.heap.size]? = some (.cells #[.int .i64 (mapD d0 d2).kind, .bool (mapD d0 d2).flag, .int .i64 (mapD d0 d2).num, .string (mapD d0 d2).text, .slice G4 (mapD d0 d2).keys.length i4, .slice G5 (mapD d0 d2).kids.length i5] 40 (0, 0)) := (hb.block (w5.heap.size) (by first | omega | (simp; try omega))).trans ((Below.heap_alloc _ _ _ (by first | omega | (simp; try omega))).trans ((Below.heap_alloc _ _ _ (by first | omega | (simp; try omega))).trans RG.out))
        have SH : w17.heap[w5.heap.size + 1]? = some (.cells #[.int .i64 (mapC d0 d2), .int .i64 0, .string (mapP d0 d1 d2)] 82 (0, 0)) := (hb.block (w5.heap.size + 1) (by first | omega | (simp; try omega))).trans ((Below.heap_alloc _ _ _ (by first | omega | (simp; try omega))).trans ((Below.heap_alloc _ _ _ (by first | omega | (simp; try omega))).trans RH.out))
        have SP : w17.heap[w16.heap.size]? = some (.cells #[.int .i64 (mapD d0 d2).kind, .bool (mapD d0 d2).flag, .int .i64 (mapD d0 d2).num, .string (mapD d0 d2).text, .slice Q4 (mapD d0 d2).keys.length r4, .slice Q5 (mapD d0 d2).kids.length r5] 40 (0, 0)) := (hb.block (w16.heap.size) (by first | omega | (simp; try omega))).trans ((Below.heap_alloc _ _ _ (by first | omega | (simp; try omega))).trans (heap_at (by simp)))
        have SQ : w17.heap[w16.heap.size + 1]? = some (.cells #[.int .i64 (mapC d0 d2), .int .i64 0, .string (mapP d0 d1 d2)] 82 (0, 0)) := (hb.block (w16.heap.size + 1) (by first | omega | (simp; try omega))).trans (heap_at (by simp))
        have Cw : Below w.heap.size w w17 := ((Bw.alloc (by first | omega | (simp; try omega)) _).alloc (by first | omega | (simp; try omega)) _).trans (hb.mono (by first | omega | (simp; try omega)))
        have CW : Below w3.heap.size w3 w17 := ((BW.alloc (by first | omega | (simp; try omega)) _).alloc (by first | omega | (simp; try omega)) _).trans (hb.mono (by first | omega | (simp; try omega)))
        have CD : Below w13.heap.size w13 w17 := ((BD.alloc (by first | omega | (simp; try omega)) _).alloc (by first | omega | (simp; try omega)) _).trans (hb.mono (by first | omega | (simp; try omega)))
        clear RA RM RN RX RG RH Bw BW BD xA0 xA1 xA2 xA3 xA4 xA5 xM0 xM1 xM2 xM3 xM4 xM5 xN0 xN1 xN2 xX0 xX1 xX2 xX3 xX4 xX5 xG0 xG1 xG2 xG3 xG4 xG5 xH0 xH1 xH2 xAf xMf xNf xXf xGf xHf lA mA nA lM mM nM lN mN nN lX mX nX lG mG nG lH mH nH
        obtain ⟨xA0, xA1, xA2, xA3, xA4, xA5, xAf⟩ := row6 SA
        have lA := row_lt SA
        have mA := Nat.lt_succ_of_lt lA
        have nA := Nat.lt_succ_of_lt mA
        have RA := Lib.hid SA
        clear SA
        obtain ⟨xM0, xM1, xM2, xM3, xM4, xM5, xMf⟩ := row6 SM
        have lM := row_lt SM
        have mM := Nat.lt_succ_of_lt lM
        have nM := Nat.lt_succ_of_lt mM
        have RM := Lib.hid SM
        clear SM
        obtain ⟨xN0, xN1, xN2, xNf⟩ := row3 SN
        have lN := row_lt SN
        have mN := Nat.lt_succ_of_lt lN
        have nN := Nat.lt_succ_of_lt mN
        have RN := Lib.hid SN
        clear SN
        obtain ⟨xX0, xX1, xX2, xX3, xX4, xX5, xXf⟩ := row6 SX
        have lX := row_lt SX
        have mX := Nat.lt_succ_of_lt lX
        have nX := Nat.lt_succ_of_lt mX
        have RX := Lib.hid SX
        clear SX
        obtain ⟨xG0, xG1, xG2, xG3, xG4, xG5, xGf⟩ := row6 SG
        have lG := row_lt SG
        have mG := Nat.lt_succ_of_lt lG
        have nG := Nat.lt_succ_of_lt mG
        have RG := Lib.hid SG
        clear SG
        obtain ⟨xH0, xH1, xH2, xHf⟩ := row3 SH
        have lH := row_lt SH
        have mH := Nat.lt_succ_of_lt lH
        have nH := Nat.lt_succ_of_lt mH
        have RH := Lib.hid SH
        clear SH
        obtain ⟨xP0, xP1, xP2, xP3, xP4, xP5, xPf⟩ := row6 SP
        have lP := row_lt SP
        have mP := Nat.lt_succ_of_lt lP
        have nP := Nat.lt_succ_of_lt mP
        have RP := Lib.hid SP
        clear SP
        obtain ⟨xQ0, xQ1, xQ2, xQf⟩ := row3 SQ
        have lQ := row_lt SQ
        have mQ := Nat.lt_succ_of_lt lQ
        have nQ := Nat.lt_succ_of_lt mQ
        have RQ := Lib.hid SQ
        clear SQ
        have Bw := Cw
        clear Cw
        have BW := CW
        clear CW
        have BD := CD
        clear CD
        clear hb
        go_wp2_with fail
        refine (c_laws_eqFault _ _ _ _).mono ?_
        rintro e w18 ⟨rfl, hb⟩
        have z18 := hb.size
        (try simp at z18)
        have SA : w18.heap[w.heap.size]? = some (.cells #[.int .i64 d0.kind, .bool d0.flag, .int .i64 d0.num, .string d0.text, .slice A4 d0.keys.length c4, .slice A5 d0.kids.length c5] 79 (0, 0)) := (hb.block (w.heap.size) (by first | omega | (simp; try omega))).trans RA.out
        have SM : w18.heap[w3.heap.size]? = some (.cells #[.int .i64 (mapD d0 d2).kind, .bool (mapD d0 d2).flag, .int .i64 (mapD d0 d2).num, .string (mapD d0 d2).text, .slice D4 (mapD d0 d2).keys.length e4, .slice D5 (mapD d0 d2).kids.length e5] 40 (0, 0)) := (hb.block (w3.heap.size) (by first | omega | (simp; try omega))).trans RM.out
        have SN : w18.heap[w3.heap.size + 1]? = some (.cells #[.int .i64 (mapC d0 d2), .int .i64 0, .string (mapP d0 d1 d2)] 82 (0, 0)) := (hb.block (w3.heap.size + 1) (by first | omega | (simp; try omega))).trans RN.out
        have SX : w18.heap[w4.heap.size]? = some (.cells #[.int .i64 d0.kind, .bool d0.flag, .int .i64 d0.num, .string d0.text, .slice E4 d0.keys.length g4, .slice E5 d0.kids.length g5] 40 (0, 0)) := (hb.block (w4.heap.size) (by first | omega | (simp; try omega))).trans RX.out
        have SG : w18.heap[w5.heap.size]? = some (.cells #[.int .i64 (mapD d0 d2).kind, .bool (mapD d0 d2).flag, .int .i64 (mapD d0 d2).num, .string (mapD d0 d2).text, .slice G4 (mapD d0 d2).keys.length i4, .slice G5 (mapD d0 d2).kids.length i5] 40 (0, 0)) := (hb.block (w5.heap.size) (by first | omega | (simp; try omega))).trans RG.out
        have SH : w18.heap[w5.heap.size + 1]? = some (.cells #[.int .i64 (mapC d0 d2), .int .i64 0, .string (mapP d0 d1 d2)] 82 (0, 0)) := (hb.block (w5.heap.size + 1) (by first | omega | (simp; try omega))).trans RH.out
        have SP : w18.heap[w16.heap.size]? = some (.cells #[.int .i64 (mapD d0 d2).kind, .bool (mapD d0 d2).flag, .int .i64 (mapD d0 d2).num, .string (mapD d0 d2).text, .slice Q4 (mapD d0 d2).keys.length r4, .slice Q5 (mapD d0 d2).kids.length r5] 40 (0, 0)) := (hb.block (w16.heap.size) (by first | omega | (simp; try omega))).trans RP.out
        have SQ : w18.heap[w16.heap.size + 1]? = some (.cells #[.int .i64 (mapC d0 d2), .int .i64 0, .string (mapP d0 d1 d2)] 82 (0, 0)) := (hb.block (w16.heap.size + 1) (by first | omega | (simp; try omega))).trans RQ.out
        have Cw : Below w.heap.size w w18 := Bw.trans (hb.mono (by first | omega | (simp; try omega)))
        have CW : Below w3.heap.size w3 w18 := BW.trans (hb.mono (by first | omega | (simp; try omega)))
        have CD : Below w13.heap.size w13 w18 := BD.trans (hb.mono (by first | omega | (simp; try omega)))
        clear RA RM RN RX RG RH RP RQ Bw BW BD xA0 xA1 xA2 xA3 xA4 xA5 xM0 xM1 xM2 xM3 xM4 xM5 xN0 xN1 xN2 xX0 xX1 xX2 xX3 xX4 xX5 xG0 xG1 xG2 xG3 xG4 xG5 xH0 xH1 xH2 xP0 xP1 xP2 xP3 xP4 xP5 xQ0 xQ1 xQ2 xAf xMf xNf xXf xGf xHf xPf xQf lA mA nA lM mM nM lN mN nN lX mX nX lG mG nG lH mH nH lP mP nP lQ mQ nQ
        obtain ⟨xA0, xA1, xA2, xA3, xA4, xA5, xAf⟩ := row6 SA
        have lA := row_lt SA
        have mA := Nat.lt_succ_of_lt lA
        have nA := Nat.lt_succ_of_lt mA
        have RA := Lib.hid SA
        clear SA
        obtain ⟨xM0, xM1, xM2, xM3, xM4, xM5, xMf⟩ := row6 SM
        have lM := row_lt SM
        have mM := Nat.lt_succ_of_lt lM
        have nM := Nat.lt_succ_of_lt mM
        have RM := Lib.hid SM
        clear SM
        obtain ⟨xN0, xN1, xN2, xNf⟩ := row3 SN
        have lN := row_lt SN
        have mN := Nat.lt_succ_of_lt lN
        have nN := Nat.lt_succ_of_lt mN
        have RN := Lib.hid SN
        clear SN
        obtain ⟨xX0, xX1, xX2, xX3, xX4, xX5, xXf⟩ := row6 SX
        have lX := row_lt SX
        have mX := Nat.lt_succ_of_lt lX
        have nX := Nat.lt_succ_of_lt mX
        have RX := Lib.hid SX
        clear SX
        obtain ⟨xG0, xG1, xG2, xG3, xG4, xG5, xGf⟩ := row6 SG
        have lG := row_lt SG
        have mG := Nat.lt_succ_of_lt lG
        have nG := Nat.lt_succ_of_lt mG
        have RG := Lib.hid SG
        clear SG
        obtain ⟨xH0, xH1, xH2, xHf⟩ := row3 SH
        have lH := row_lt SH
        have mH := Nat.lt_succ_of_lt lH
        have nH := Nat.lt_succ_of_lt mH
        have RH := Lib.hid SH
        clear SH
        obtain ⟨xP0, xP1, xP2, xP3, xP4, xP5, xPf⟩ := row6 SP
        have lP := row_lt SP
        have mP := Nat.lt_succ_of_lt lP
        have nP := Nat.lt_succ_of_lt mP
        have RP := Lib.hid SP
        clear SP
        obtain ⟨xQ0, xQ1, xQ2, xQf⟩ := row3 SQ
        have lQ := row_lt SQ
        have mQ := Nat.lt_succ_of_lt lQ
        have nQ := Nat.lt_succ_of_lt mQ
        have RQ := Lib.hid SQ
        clear SQ
        have Bw := Cw
        clear Cw
        have BW := CW
        clear CW
        have BD := CD
        clear CD
        clear hb
        go_wp2_with fail
        refine (c_laws_heldTree n g0d _ _ _ _ (CG13.now BD) HM.out (by decide) (by have := HE.out; have := Hcg.out; omega)).mono ?_
        rintro e w19 ⟨rfl, hb⟩
        rw [HE.out, ← Hcg.out]
        have z19 := hb.size
        (try simp at z19)
        have SA : w19.heap[w.heap.size]? = some (.cells #[.int .i64 d0.kind, .bool d0.flag, .int .i64 d0.num, .string d0.text, .slice A4 d0.keys.length c4, .slice A5 d0.kids.length c5] 79 (0, 0)) := (hb.block (w.heap.size) (by first | omega | (simp; try omega))).trans RA.out
        have SM : w19.heap[w3.heap.size]? = some (.cells #[.int .i64 (mapD d0 d2).kind, .bool (mapD d0 d2).flag, .int .i64 (mapD d0 d2).num, .string (mapD d0 d2).text, .slice D4 (mapD d0 d2).keys.length e4, .slice D5 (mapD d0 d2).kids.length e5] 40 (0, 0)) := (hb.block (w3.heap.size) (by first | omega | (simp; try omega))).trans RM.out
        have SN : w19.heap[w3.heap.size + 1]? = some (.cells #[.int .i64 (mapC d0 d2), .int .i64 0, .string (mapP d0 d1 d2)] 82 (0, 0)) := (hb.block (w3.heap.size + 1) (by first | omega | (simp; try omega))).trans RN.out
        have SX : w19.heap[w4.heap.size]? = some (.cells #[.int .i64 d0.kind, .bool d0.flag, .int .i64 d0.num, .string d0.text, .slice E4 d0.keys.length g4, .slice E5 d0.kids.length g5] 40 (0, 0)) := (hb.block (w4.heap.size) (by first | omega | (simp; try omega))).trans RX.out
        have SG : w19.heap[w5.heap.size]? = some (.cells #[.int .i64 (mapD d0 d2).kind, .bool (mapD d0 d2).flag, .int .i64 (mapD d0 d2).num, .string (mapD d0 d2).text, .slice G4 (mapD d0 d2).keys.length i4, .slice G5 (mapD d0 d2).kids.length i5] 40 (0, 0)) := (hb.block (w5.heap.size) (by first | omega | (simp; try omega))).trans RG.out
        have SH : w19.heap[w5.heap.size + 1]? = some (.cells #[.int .i64 (mapC d0 d2), .int .i64 0, .string (mapP d0 d1 d2)] 82 (0, 0)) := (hb.block (w5.heap.size + 1) (by first | omega | (simp; try omega))).trans RH.out
        have SP : w19.heap[w16.heap.size]? = some (.cells #[.int .i64 (mapD d0 d2).kind, .bool (mapD d0 d2).flag, .int .i64 (mapD d0 d2).num, .string (mapD d0 d2).text, .slice Q4 (mapD d0 d2).keys.length r4, .slice Q5 (mapD d0 d2).kids.length r5] 40 (0, 0)) := (hb.block (w16.heap.size) (by first | omega | (simp; try omega))).trans RP.out
        have SQ : w19.heap[w16.heap.size + 1]? = some (.cells #[.int .i64 (mapC d0 d2), .int .i64 0, .string (mapP d0 d1 d2)] 82 (0, 0)) := (hb.block (w16.heap.size + 1) (by first | omega | (simp; try omega))).trans RQ.out
        have Cw : Below w.heap.size w w19 := Bw.trans (hb.mono (by first | omega | (simp; try omega)))
        have CW : Below w3.heap.size w3 w19 := BW.trans (hb.mono (by first | omega | (simp; try omega)))
        have CD : Below w13.heap.size w13 w19 := BD.trans (hb.mono (by first | omega | (simp; try omega)))
        clear RA RM RN RX RG RH RP RQ Bw BW BD xA0 xA1 xA2 xA3 xA4 xA5 xM0 xM1 xM2 xM3 xM4 xM5 xN0 xN1 xN2 xX0 xX1 xX2 xX3 xX4 xX5 xG0 xG1 xG2 xG3 xG4 xG5 xH0 xH1 xH2 xP0 xP1 xP2 xP3 xP4 xP5 xQ0 xQ1 xQ2 xAf xMf xNf xXf xGf xHf xPf xQf lA mA nA lM mM nM lN mN nN lX mX nX lG mG nG lH mH nH lP mP nP lQ mQ nQ
        obtain ⟨xA0, xA1, xA2, xA3, xA4, xA5, xAf⟩ := row6 SA
        have lA := row_lt SA
        have mA := Nat.lt_succ_of_lt lA
        have nA := Nat.lt_succ_of_lt mA
        have RA := Lib.hid SA
        clear SA
        obtain ⟨xM0, xM1, xM2, xM3, xM4, xM5, xMf⟩ := row6 SM
        have lM := row_lt SM
        have mM := Nat.lt_succ_of_lt lM
        have nM := Nat.lt_succ_of_lt mM
        have RM := Lib.hid SM
        clear SM
        obtain ⟨xN0, xN1, xN2, xNf⟩ := row3 SN
        have lN := row_lt SN
        have mN := Nat.lt_succ_of_lt lN
        have nN := Nat.lt_succ_of_lt mN
        have RN := Lib.hid SN
        clear SN
        obtain ⟨xX0, xX1, xX2, xX3, xX4, xX5, xXf⟩ := row6 SX
        have lX := row_lt SX
        have mX := Nat.lt_succ_of_lt lX
        have nX := Nat.lt_succ_of_lt mX
        have RX := Lib.hid SX
        clear SX
        obtain ⟨xG0, xG1, xG2, xG3, xG4, xG5, xGf⟩ := row6 SG
        have lG := row_lt SG
        have mG := Nat.lt_succ_of_lt lG
        have nG := Nat.lt_succ_of_lt mG
        have RG := Lib.hid SG
        clear SG
        obtain ⟨xH0, xH1, xH2, xHf⟩ := row3 SH
        have lH := row_lt SH
        have mH := Nat.lt_succ_of_lt lH
        have nH := Nat.lt_succ_of_lt mH
        have RH := Lib.hid SH
        clear SH
        obtain ⟨xP0, xP1, xP2, xP3, xP4, xP5, xPf⟩ := row6 SP
        have lP := row_lt SP
        have mP := Nat.lt_succ_of_lt lP
        have nP := Nat.lt_succ_of_lt mP
        have RP := Lib.hid SP
        clear SP
        obtain ⟨xQ0, xQ1, xQ2, xQf⟩ := row3 SQ
        have lQ := row_lt SQ
        have mQ := Nat.lt_succ_of_lt lQ
        have nQ := Nat.lt_succ_of_lt mQ
        have RQ := Lib.hid SQ
        clear SQ
        have Bw := Cw
        clear Cw
        have BW := CW
        clear CW
        have BD := CD
        clear CD
        clear hb
        go_wp2_with fail
        go_ret
        exact ⟨rfl, Bw⟩
      · have hz := szI_neg hq
        have hz2 : szI 1048576 (nTree n d0) < 0 := by omega
        clear hz
        go_enter Try.func10, Try.ntmps10
        go_wp2_with (go_at_call 50; refine (all_szTree n d0 _ _ _ _ (h0.now (by repeat (first | (with_reducible exact Below.refl _ _) | (with_reducible refine ext_alloc ?_) | ((with_reducible refine ext_setCell ?_ ?_); focus (simp; (try omega))) | (with_reducible refine below_drewN ?_ _) | (with_reducible refine Below.drew ?_) | (with_reducible (apply ext_step; assumption))))) (by omega) (by omega)).mono ?_; rintro e w1 ⟨rfl, hb⟩)
        go_ret
        exact ⟨rfl, (by repeat (first | (with_reducible exact Below.refl _ _) | (with_reducible refine ext_alloc ?_) | ((with_reducible refine ext_setCell ?_ ?_); focus (simp; (try omega))) | (with_reducible refine below_drewN ?_ _) | (with_reducible refine Below.drew ?_) | (with_reducible (apply ext_step; assumption))))⟩
    · go_enter Try.func10, Try.ntmps10
      go_wp2_with fail
      go_ret
      exact ⟨rfl, (by repeat (first | (with_reducible exact Below.refl _ _) | (with_reducible refine ext_alloc ?_) | ((with_reducible refine ext_setCell ?_ ?_); focus (simp; (try omega))) | (with_reducible refine below_drewN ?_ _) | (with_reducible refine Below.drew ?_) | (with_reducible (apply ext_step; assumption))))⟩
  · go_enter Try.func10, Try.ntmps10
    go_wp2_with fail
    go_ret
    exact ⟨rfl, (by repeat (first | (with_reducible exact Below.refl _ _) | (with_reducible refine ext_alloc ?_) | ((with_reducible refine ext_setCell ?_ ?_); focus (simp; (try omega))) | (with_reducible refine below_drewN ?_ _) | (with_reducible refine Below.drew ?_) | (with_reducible (apply ext_step; assumption))))⟩
end Go.Proofs.Ytipogknfbofbkaa
