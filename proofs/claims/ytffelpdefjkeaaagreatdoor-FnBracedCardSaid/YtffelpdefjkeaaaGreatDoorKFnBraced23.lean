/- Written by wip/tools/pack.py: the texts that FnBraced needs, without what it does not need. No conditions. -/
import Derived.Test.YtffelpdefjkeaaaGreatDoorKFnBraced21
import Derived.Test.YtffelpdefjkeaaaGreatDoorKFnBraced22
import Derived.Test.YtffelpdefjkeaaaGreatDoorKFnBraced19
import Derived.Test.YtffelpdefjkeaaaGreatDoorKFnBraced20
namespace Go.Proofs.YtffelpdefjkeaaaGreatDoor
open Go.RowKit Go.Lib
def DrT (k : Nat) (code : List UInt8) (p : Nat) (w : World) (e : Ending) (w' : World) : Prop :=
  ∃ d cs, e = .returned (.agg cs.toArray) ∧ Drawn k d ∧ OwnT k (fun q => w.heap.size ≤ q ∧ q < w'.heap.size) w' d cs ∧ Dr code p w w'
theorem Dr.fin {code : List UInt8} {p H : Nat} {w w1 wF : World} (h : Dr code p w w1) (hA : Aside (fun b => b = H) w1 wF) (hH : w.heap.size ≤ H) (hp : p < w.heap.size) : Dr code p w wF :=
  ⟨⟨hA.os.trans h.aside.os, hA.tape.trans h.aside.tape, hA.output.trans h.aside.output, Nat.le_trans h.size hA.size, fun b hb hn => (hA.block b (Nat.lt_of_lt_of_le hb h.size) (by omega)).trans (h.aside.block b hb hn)⟩,
    h.cur.keep (fun b hb => hA.block b (by have := h.cur.lt; omega) (by omega))⟩
theorem Drawn.le {k : Nat} {d : TreeD} (h : Drawn k d) (hk : k ≤ 4) : sizeT k d ≤ 1048576 := by
  have h2 := h.size
  rcases (show k = 0 ∨ k = 1 ∨ k = 2 ∨ k = 3 ∨ k = 4 by omega) with rfl | rfl | rfl | rfl | rfl
  all_goals exact Nat.le_trans h2 (by decide)
theorem i64_0 : I64 0 := by unfold I64; decide
theorem drawn_null {k : Nat} : Drawn (k + 1) ⟨1, false, 0, ⟨#[]⟩, [], []⟩ := drawn_leaf (by unfold badH inB; simp) word_none rfl rfl rfl i64_0 (by rw [sayL_succ, if_pos rfl]; decide)
theorem drawn_flag {k : Nat} (x : Bool) : Drawn (k + 1) ⟨2, x, 0, ⟨#[]⟩, [], []⟩ := drawn_leaf (by unfold badH inB; simp) word_none rfl rfl rfl i64_0 (by rw [sayL_succ, if_neg (show ¬ (2 : Int) = 1 by decide), if_pos rfl]; cases x <;> decide)
theorem drawn_int {k : Nat} {n : Int} (h : I64 n) : Drawn (k + 1) ⟨3, false, n, ⟨#[]⟩, [], []⟩ := drawn_leaf (by unfold badH inB; simp) word_none rfl rfl rfl h (by rw [sayL_succ, if_neg (show ¬ (3 : Int) = 1 by decide), if_neg (show ¬ (3 : Int) = 2 by decide), if_pos rfl]; exact Nat.le_trans (Nat.le_of_eq Array.length_toList) (Nat.le_trans (decS_size n h) (by decide)))
theorem drawn_text {k : Nat} {s : ByteArray} (h : WordOk s) : Drawn (k + 1) ⟨4, false, 0, s, [], []⟩ := drawn_leaf (by unfold badH inB; simp) h rfl rfl rfl i64_0 (by rw [sayL_succ, if_neg (show ¬ (4 : Int) = 1 by decide), if_neg (show ¬ (4 : Int) = 2 by decide), if_neg (show ¬ (4 : Int) = 3 by decide), if_pos rfl]; exact h.quote)
theorem nums_ok {z : Int} (h : I64 z) : ∀ x ∈ ([0, 1, -1, 42, 9223372036854775807, -9223372036854775808, z] : List Int), I64 x := by
  intro x hx
  simp only [List.mem_cons, List.mem_nil_iff, or_false] at hx
  rcases hx with rfl | rfl | rfl | rfl | rfl | rfl | rfl
  all_goals first | exact h | (unfold I64; decide)
set_option maxHeartbeats 8000000 in
set_option maxRecDepth 20000 in
theorem c_tree_one (code : List UInt8) (p : Nat) (w : World) (h : CurAt code p w) : Calls Tryz.prog 43 #[.pointer (some ⟨p, 0, none⟩), .int .i64 1] w (DrT 1 code p w) := by
  have hpl := h.lt
  have hc := h.below (ext_alloc (o := (.cells #[.int .i64 0, .bool false, .int .i64 0, .string ⟨#[]⟩, .slice none 0 0, .slice none 0 0] 27)) (Below.refl w.heap.size w))
  go_enter Tryz.func43, Tryz.ntmps43
  go_wp2_with fail
  refine (c_l01Below code p 9 _ hc (by omega)).mono ?_
  rintro e w1 ⟨x, rfl, hx0, hx1, -, hd⟩
  have hx2 := hx1 (by decide)
  have hc1 := hd.cur
  have HD := Lib.hid hd
  clear hd hx1 hc
  have hx : x = 0 ∨ x = 1 ∨ x = 2 ∨ x = 3 ∨ x = 4 ∨ x = 5 ∨ x = 6 ∨ x = 7 ∨ x = 8 := by omega
  clear hx0 hx2
  rcases hx with q0 | q1 | q2 | q3 | q4 | q5 | q6 | q7 | q8
  · subst q0
    have hZ := (HD.out.block (g := w.heap.size) (by simp) (by omega)).trans (heap_at (w := w) (o := (.cells #[.int .i64 0, .bool false, .int .i64 0, .string ⟨#[]⟩, .slice none 0 0, .slice none 0 0] 27)) rfl)
    obtain ⟨z0, z1, z2, z3, z4, z5, zf⟩ := row6 hZ
    have zl := row_lt hZ
    go_wp2_with fail
    refine bodyPost_ret (v := .agg #[.int .i64 1, .bool false, .int .i64 0, .string ⟨#[]⟩, .slice none 0 0, .slice none 0 0]) (by simp only [results, Tryz.results43]; go_simp) rfl ⟨⟨1, false, 0, ⟨#[]⟩, [], []⟩, _, rfl, drawn_null, own_leaf (by unfold I64; decide) i64_0 (by decide), HD.out.cut.fin (H := w.heap.size) (by repeat (first | (with_reducible exact Aside.refl _ _) | ((with_reducible refine aside_set ?_ ?_); (focus (simp; done))) | (with_reducible refine aside_alloc ?_))) (Nat.le_refl _) hpl⟩
  · subst q1
    go_wp2_with fail
    refine (c_l01Once code p 2 _ hc1 (by omega)).mono ?_
    rintro e w2 ⟨x, rfl, hd2⟩
    have hd3 := HD.out.trans hd2
    have hZ := (hd3.block (g := w.heap.size) (by simp) (by omega)).trans (heap_at (w := w) (o := (.cells #[.int .i64 0, .bool false, .int .i64 0, .string ⟨#[]⟩, .slice none 0 0, .slice none 0 0] 27)) rfl)
    obtain ⟨z0, z1, z2, z3, z4, z5, zf⟩ := row6 hZ
    have zl := row_lt hZ
    have HD2 := Lib.hid hd3.cut
    clear hd2 hd3
    go_wp2_with fail
    refine bodyPost_ret (v := .agg #[.int .i64 2, .bool x, .int .i64 0, .string ⟨#[]⟩, .slice none 0 0, .slice none 0 0]) (by simp only [results, Tryz.results43]; go_simp) rfl ⟨⟨2, x, 0, ⟨#[]⟩, [], []⟩, _, rfl, drawn_flag x, own_leaf (by unfold I64; decide) i64_0 (by decide), HD2.out.fin (H := w.heap.size) (by repeat (first | (with_reducible exact Aside.refl _ _) | ((with_reducible refine aside_set ?_ ?_); (focus (simp; done))) | (with_reducible refine aside_alloc ?_))) (Nat.le_refl _) hpl⟩
  · subst q2
    go_wp2_with fail
    refine (c_l02Num code p _ hc1).mono ?_
    rintro e w2 ⟨z, rfl, hz, hd2⟩
    have hall : ∀ x ∈ ([0, 1, -1, 42, 9223372036854775807, -9223372036854775808, z] : List Int), I64 x := nums_ok hz
    have Hall := Lib.hid hall
    have hd3 := HD.out.trans hd2
    have HD2 := Lib.hid hd3
    have hc2 := hd2.cur
    have hpl2 := hc2.lt
    clear hd2 hd3 hz hall
    go_wp2_with fail
    refine (c_l01PickInt code p ([0, 1, -1, 42, 9223372036854775807, -9223372036854775808, z] : List Int) _ w2.heap.size (w2.alloc (.cells #[.int .i64 0, .int .i64 1, .int .i64 (-1), .int .i64 42, .int .i64 9223372036854775807, .int .i64 (-9223372036854775808), .int .i64 z] 3)) (hc2.below (ext_alloc (Below.refl _ _))) (sl_ints w2 ([0, 1, -1, 42, 9223372036854775807, -9223372036854775808, z] : List Int) (by simp) 3 _ rfl) hpl2 (by simp) (by simp)).mono ?_
    rintro e w3 ⟨y, rfl, hy, hd4⟩
    have hd5 := HD2.out.trans (Dr.cut hd4)
    have HY := Lib.hid (Hall.out y hy)
    have HD3 := Lib.hid hd5
    clear hd4 hd5 hy hc2
    go_wp2_with fail
    refine (c_rs_IntTree y _).mono ?_
    rintro e w4 ⟨rfl, hb4⟩
    have hd6 := HD3.out.step hb4
    have hZ := (hd6.block (g := w.heap.size) (by simp) (by omega)).trans (heap_at (w := w) (o := (.cells #[.int .i64 0, .bool false, .int .i64 0, .string ⟨#[]⟩, .slice none 0 0, .slice none 0 0] 27)) rfl)
    obtain ⟨z0, z1, z2, z3, z4, z5, zf⟩ := row6 hZ
    have zl := row_lt hZ
    have HD4 := Lib.hid hd6.cut
    clear hb4 hd6
    go_wp2_with fail
    refine bodyPost_ret (v := .agg #[.int .i64 3, .bool false, .int .i64 y, .string ⟨#[]⟩, .slice none 0 0, .slice none 0 0]) (by simp only [results, Tryz.results43]; go_simp) rfl ⟨⟨3, false, y, ⟨#[]⟩, [], []⟩, _, rfl, drawn_int HY.out, own_leaf (by unfold I64; decide) HY.out (by decide), HD4.out.fin (H := w.heap.size) (by repeat (first | (with_reducible exact Aside.refl _ _) | ((with_reducible refine aside_set ?_ ?_); (focus (simp; done))) | (with_reducible refine aside_alloc ?_))) (Nat.le_refl _) hpl⟩
  · subst q3
    go_wp2_with fail
    refine (c_l02Num code p _ hc1).mono ?_
    rintro e w2 ⟨z, rfl, hz, hd2⟩
    have hall : ∀ x ∈ ([0, 1, -1, 42, 9223372036854775807, -9223372036854775808, z] : List Int), I64 x := nums_ok hz
    have Hall := Lib.hid hall
    have hd3 := HD.out.trans hd2
    have HD2 := Lib.hid hd3
    have hc2 := hd2.cur
    have hpl2 := hc2.lt
    clear hd2 hd3 hz hall
    go_wp2_with fail
    refine (c_l01PickInt code p ([0, 1, -1, 42, 9223372036854775807, -9223372036854775808, z] : List Int) _ w2.heap.size (w2.alloc (.cells #[.int .i64 0, .int .i64 1, .int .i64 (-1), .int .i64 42, .int .i64 9223372036854775807, .int .i64 (-9223372036854775808), .int .i64 z] 3)) (hc2.below (ext_alloc (Below.refl _ _))) (sl_ints w2 ([0, 1, -1, 42, 9223372036854775807, -9223372036854775808, z] : List Int) (by simp) 3 _ rfl) hpl2 (by simp) (by simp)).mono ?_
    rintro e w3 ⟨y, rfl, hy, hd4⟩
    have hd5 := HD2.out.trans (Dr.cut hd4)
    have HY := Lib.hid (Hall.out y hy)
    have HD3 := Lib.hid hd5
    clear hd4 hd5 hy hc2
    go_wp2_with fail
    refine (c_rs_IntTree y _).mono ?_
    rintro e w4 ⟨rfl, hb4⟩
    have hd6 := HD3.out.step hb4
    have hZ := (hd6.block (g := w.heap.size) (by simp) (by omega)).trans (heap_at (w := w) (o := (.cells #[.int .i64 0, .bool false, .int .i64 0, .string ⟨#[]⟩, .slice none 0 0, .slice none 0 0] 27)) rfl)
    obtain ⟨z0, z1, z2, z3, z4, z5, zf⟩ := row6 hZ
    have zl := row_lt hZ
    have HD4 := Lib.hid hd6.cut
    clear hb4 hd6
    go_wp2_with fail
    refine bodyPost_ret (v := .agg #[.int .i64 3, .bool false, .int .i64 y, .string ⟨#[]⟩, .slice none 0 0, .slice none 0 0]) (by simp only [results, Tryz.results43]; go_simp) rfl ⟨⟨3, false, y, ⟨#[]⟩, [], []⟩, _, rfl, drawn_int HY.out, own_leaf (by unfold I64; decide) HY.out (by decide), HD4.out.fin (H := w.heap.size) (by repeat (first | (with_reducible exact Aside.refl _ _) | ((with_reducible refine aside_set ?_ ?_); (focus (simp; done))) | (with_reducible refine aside_alloc ?_))) (Nat.le_refl _) hpl⟩
  · subst q4
    go_wp2_with fail
    refine (c_l08Word code p _ hc1).mono ?_
    rintro e w2 ⟨s, rfl, hs, hd2⟩
    have hd3 := HD.out.trans hd2
    have HW := Lib.hid hs
    have HD2 := Lib.hid hd3
    clear hd2 hd3 hs
    go_wp2_with fail
    refine (c_rs_TextTree s _).mono ?_
    rintro e w4 ⟨rfl, hb4⟩
    have hd6 := HD2.out.step hb4
    have hZ := (hd6.block (g := w.heap.size) (by simp) (by omega)).trans (heap_at (w := w) (o := (.cells #[.int .i64 0, .bool false, .int .i64 0, .string ⟨#[]⟩, .slice none 0 0, .slice none 0 0] 27)) rfl)
    obtain ⟨z0, z1, z2, z3, z4, z5, zf⟩ := row6 hZ
    have zl := row_lt hZ
    have HD4 := Lib.hid hd6.cut
    clear hb4 hd6
    go_wp2_with fail
    refine bodyPost_ret (v := .agg #[.int .i64 4, .bool false, .int .i64 0, .string s, .slice none 0 0, .slice none 0 0]) (by simp only [results, Tryz.results43]; go_simp) rfl ⟨⟨4, false, 0, s, [], []⟩, _, rfl, drawn_text HW.out, own_leaf (by unfold I64; decide) i64_0 (Nat.le_trans HW.out.2 (by decide)), HD4.out.fin (H := w.heap.size) (by repeat (first | (with_reducible exact Aside.refl _ _) | ((with_reducible refine aside_set ?_ ?_); (focus (simp; done))) | (with_reducible refine aside_alloc ?_))) (Nat.le_refl _) hpl⟩
  · subst q5
    go_wp2_with fail
    refine (c_l08Word code p _ hc1).mono ?_
    rintro e w2 ⟨s, rfl, hs, hd2⟩
    have hd3 := HD.out.trans hd2
    have HW := Lib.hid hs
    have HD2 := Lib.hid hd3
    clear hd2 hd3 hs
    go_wp2_with fail
    refine (c_rs_TextTree s _).mono ?_
    rintro e w4 ⟨rfl, hb4⟩
    have hd6 := HD2.out.step hb4
    have hZ := (hd6.block (g := w.heap.size) (by simp) (by omega)).trans (heap_at (w := w) (o := (.cells #[.int .i64 0, .bool false, .int .i64 0, .string ⟨#[]⟩, .slice none 0 0, .slice none 0 0] 27)) rfl)
    obtain ⟨z0, z1, z2, z3, z4, z5, zf⟩ := row6 hZ
    have zl := row_lt hZ
    have HD4 := Lib.hid hd6.cut
    clear hb4 hd6
    go_wp2_with fail
    refine bodyPost_ret (v := .agg #[.int .i64 4, .bool false, .int .i64 0, .string s, .slice none 0 0, .slice none 0 0]) (by simp only [results, Tryz.results43]; go_simp) rfl ⟨⟨4, false, 0, s, [], []⟩, _, rfl, drawn_text HW.out, own_leaf (by unfold I64; decide) i64_0 (Nat.le_trans HW.out.2 (by decide)), HD4.out.fin (H := w.heap.size) (by repeat (first | (with_reducible exact Aside.refl _ _) | ((with_reducible refine aside_set ?_ ?_); (focus (simp; done))) | (with_reducible refine aside_alloc ?_))) (Nat.le_refl _) hpl⟩
  · subst q6
    have hZ := (HD.out.block (g := w.heap.size) (by simp) (by omega)).trans (heap_at (w := w) (o := (.cells #[.int .i64 0, .bool false, .int .i64 0, .string ⟨#[]⟩, .slice none 0 0, .slice none 0 0] 27)) rfl)
    obtain ⟨z0, z1, z2, z3, z4, z5, zf⟩ := row6 hZ
    have zl := row_lt hZ
    go_wp2_with fail
    refine bodyPost_ret (v := .agg #[.int .i64 1, .bool false, .int .i64 0, .string ⟨#[]⟩, .slice none 0 0, .slice none 0 0]) (by simp only [results, Tryz.results43]; go_simp) rfl ⟨⟨1, false, 0, ⟨#[]⟩, [], []⟩, _, rfl, drawn_null, own_leaf (by unfold I64; decide) i64_0 (by decide), HD.out.cut.fin (H := w.heap.size) (by repeat (first | (with_reducible exact Aside.refl _ _) | ((with_reducible refine aside_set ?_ ?_); (focus (simp; done))) | (with_reducible refine aside_alloc ?_))) (Nat.le_refl _) hpl⟩
  · subst q7
    go_wp2_with fail
    refine (c_l01Once code p 2 _ hc1 (by omega)).mono ?_
    rintro e w2 ⟨x, rfl, hd2⟩
    have hd3 := HD.out.trans hd2
    have hZ := (hd3.block (g := w.heap.size) (by simp) (by omega)).trans (heap_at (w := w) (o := (.cells #[.int .i64 0, .bool false, .int .i64 0, .string ⟨#[]⟩, .slice none 0 0, .slice none 0 0] 27)) rfl)
    obtain ⟨z0, z1, z2, z3, z4, z5, zf⟩ := row6 hZ
    have zl := row_lt hZ
    have HD2 := Lib.hid hd3.cut
    clear hd2 hd3
    go_wp2_with fail
    refine bodyPost_ret (v := .agg #[.int .i64 2, .bool x, .int .i64 0, .string ⟨#[]⟩, .slice none 0 0, .slice none 0 0]) (by simp only [results, Tryz.results43]; go_simp) rfl ⟨⟨2, x, 0, ⟨#[]⟩, [], []⟩, _, rfl, drawn_flag x, own_leaf (by unfold I64; decide) i64_0 (by decide), HD2.out.fin (H := w.heap.size) (by repeat (first | (with_reducible exact Aside.refl _ _) | ((with_reducible refine aside_set ?_ ?_); (focus (simp; done))) | (with_reducible refine aside_alloc ?_))) (Nat.le_refl _) hpl⟩
  · subst q8
    go_wp2_with fail
    refine (c_l02Num code p _ hc1).mono ?_
    rintro e w2 ⟨z, rfl, hz, hd2⟩
    have hall : ∀ x ∈ ([0, 1, -1, 42, 9223372036854775807, -9223372036854775808, z] : List Int), I64 x := nums_ok hz
    have Hall := Lib.hid hall
    have hd3 := HD.out.trans hd2
    have HD2 := Lib.hid hd3
    have hc2 := hd2.cur
    have hpl2 := hc2.lt
    clear hd2 hd3 hz hall
    go_wp2_with fail
    refine (c_l01PickInt code p ([0, 1, -1, 42, 9223372036854775807, -9223372036854775808, z] : List Int) _ w2.heap.size (w2.alloc (.cells #[.int .i64 0, .int .i64 1, .int .i64 (-1), .int .i64 42, .int .i64 9223372036854775807, .int .i64 (-9223372036854775808), .int .i64 z] 3)) (hc2.below (ext_alloc (Below.refl _ _))) (sl_ints w2 ([0, 1, -1, 42, 9223372036854775807, -9223372036854775808, z] : List Int) (by simp) 3 _ rfl) hpl2 (by simp) (by simp)).mono ?_
    rintro e w3 ⟨y, rfl, hy, hd4⟩
    have hd5 := HD2.out.trans (Dr.cut hd4)
    have HY := Lib.hid (Hall.out y hy)
    have HD3 := Lib.hid hd5
    clear hd4 hd5 hy hc2
    go_wp2_with fail
    refine (c_rs_IntTree y _).mono ?_
    rintro e w4 ⟨rfl, hb4⟩
    have hd6 := HD3.out.step hb4
    have hZ := (hd6.block (g := w.heap.size) (by simp) (by omega)).trans (heap_at (w := w) (o := (.cells #[.int .i64 0, .bool false, .int .i64 0, .string ⟨#[]⟩, .slice none 0 0, .slice none 0 0] 27)) rfl)
    obtain ⟨z0, z1, z2, z3, z4, z5, zf⟩ := row6 hZ
    have zl := row_lt hZ
    have HD4 := Lib.hid hd6.cut
    clear hb4 hd6
    go_wp2_with fail
    refine bodyPost_ret (v := .agg #[.int .i64 3, .bool false, .int .i64 y, .string ⟨#[]⟩, .slice none 0 0, .slice none 0 0]) (by simp only [results, Tryz.results43]; go_simp) rfl ⟨⟨3, false, y, ⟨#[]⟩, [], []⟩, _, rfl, drawn_int HY.out, own_leaf (by unfold I64; decide) HY.out (by decide), HD4.out.fin (H := w.heap.size) (by repeat (first | (with_reducible exact Aside.refl _ _) | ((with_reducible refine aside_set ?_ ?_); (focus (simp; done))) | (with_reducible refine aside_alloc ?_))) (Nat.le_refl _) hpl⟩
theorem own_tlist {n base hi : Nat} {w wF : World} {l : List TreeD} {v : Value} {S : Nat → Prop} (h : GrowK n base hi w l v) (hF : ∀ q, base ≤ q → q < hi → wF.heap[q]? = w.heap[q]?) (hS : ∀ b, base ≤ b → b < hi → S b) :
    OwnT (n + 1) S wF (tList l) [.int .i64 5, .bool false, .int .i64 0, .string ⟨#[]⟩, .slice none 0 0, v] :=
  OwnT.into ⟨_, _, fun _ => False, fun b => base ≤ b ∧ b < hi, rfl, (show I64 5 from by unfold I64; decide), (show I64 0 from by unfold I64; decide), (show ByteArray.size ⟨#[]⟩ ≤ 9223372036854775807 from by decide), fun _ h => h.elim, fun b hb => hS b hb.1 hb.2,
    ⟨none, 0, rfl, Nat.le_refl _, by decide, fun h => by simp [tList] at h⟩, h.own.keep (fun b hb => hF b hb.1 hb.2) (fun _ h => h)⟩
theorem GrowK.carryD {code : List UInt8} {p n base hi : Nat} {w w' : World} {l : List TreeD} {v : Value} (h : GrowK n base hi w l v) (hd : Dr code p w w') (hp : p < base) (hh : hi ≤ w.heap.size) : GrowK n base hi w' l v := h.carry (Nat.le_refl _) (fun g h1 h2 => hd.block (g := g) (by omega) (by omega))
theorem set6_all {w : World} {b : Nat} {a0 a1 a2 a3 a4 a5 v0 v1 v2 v3 v4 v5 : Value} {e : TypeId} (h : w.heap[b]? = some (.cells #[a0, a1, a2, a3, a4, a5] e (0, 0))) :
    ((((((w.setCell ⟨b, 0, none⟩ v0).setCell ⟨b, 1, none⟩ v1).setCell ⟨b, 2, none⟩ v2).setCell ⟨b, 3, none⟩ v3).setCell ⟨b, 4, none⟩ v4).setCell ⟨b, 5, none⟩ v5).heap[b]? = some (.cells #[v0, v1, v2, v3, v4, v5] e (0, 0)) :=
  heap_setCell_same _ b 5 _ _ _ (heap_setCell_same _ b 4 _ _ _ (heap_setCell_same _ b 3 _ _ _ (heap_setCell_same _ b 2 _ _ _ (heap_setCell_same _ b 1 _ _ _ (heap_setCell_same w b 0 _ _ _ h)))))
set_option maxHeartbeats 16000000 in
set_option maxRecDepth 20000 in
theorem c_tree_more (k : Nat) (hk : k ≤ 2) (ih : ∀ (code : List UInt8) (p : Nat) (w : World), CurAt code p w → Calls Tryz.prog 43 #[.pointer (some ⟨p, 0, none⟩), .int .i64 ((k + 1 : Nat) : Int)] w (DrT (k + 1) code p w))
    (code : List UInt8) (p : Nat) (w : World) (h : CurAt code p w) : Calls Tryz.prog 43 #[.pointer (some ⟨p, 0, none⟩), .int .i64 ((k + 2 : Nat) : Int)] w (DrT (k + 2) code p w) := by
  obtain ⟨i0, hi, hz0, hz1, hz2⟩ := info_parts (show (Tryz.prog.info? 27).map (fun i => (i.zero, i.size, i.bytes)) = some (some (.agg #[.int .i64 0, .bool false, .int .i64 0, .string ⟨#[]⟩, .slice none 0 0, .slice none 0 0]), 6, 88) from by kernel_rfl)
  have hpl := h.lt
  have hc := h.below (ext_alloc (o := (.cells #[.int .i64 0, .bool false, .int .i64 0, .string ⟨#[]⟩, .slice none 0 0, .slice none 0 0] 27)) (Below.refl w.heap.size w))
  obtain ⟨D, hD⟩ : ∃ D : Int, D = ((k + 2 : Nat) : Int) := ⟨_, rfl⟩
  have hD1 : 2 ≤ D := by omega
  have hD4 : D ≤ 4 := by omega
  obtain ⟨E, hE⟩ : ∃ E : Int, E = ((k + 1 : Nat) : Int) := ⟨_, rfl⟩
  have hDs : Hid (D - 1 = E) := Lib.hid (by omega)
  have hEw : Hid (IntKind.i64.wrap (D - 1) = E) := Lib.hid (by rw [IntWalk.i64_in _ (by omega)]; omega)
  rw [← hE] at ih
  rw [← hD]
  clear hD hE
  have dD : decide (D ≤ 1) = false := decide_eq_false (by omega)
  go_enter Tryz.func43, Tryz.ntmps43
  go_wp2_with fail
  refine (c_l01Below code p 9 _ hc (by omega)).mono ?_
  rintro e w1 ⟨y, rfl, hy0, hy1, -, hd⟩
  have hy2 := hy1 (by decide)
  have hc1 := hd.cur
  have HD := Lib.hid hd
  have hz1' := hd.size
  simp at hz1'
  clear hd hy1 hc
  have hy : y = 0 ∨ y = 1 ∨ y = 2 ∨ y = 3 ∨ y = 4 ∨ y = 5 ∨ y = 6 ∨ 7 ≤ y := by omega
  rcases hy with q0 | q1 | q2 | q3 | q4 | q5 | q6 | q7
  · subst q0
    have hZ := (HD.out.block (g := w.heap.size) (by simp) (by omega)).trans (heap_at (w := w) (o := (.cells #[.int .i64 0, .bool false, .int .i64 0, .string ⟨#[]⟩, .slice none 0 0, .slice none 0 0] 27)) rfl)
    obtain ⟨z0, z1, z2, z3, z4, z5, zf⟩ := row6 hZ
    have zl := row_lt hZ
    go_wp2_with fail
    refine bodyPost_ret (v := .agg #[.int .i64 1, .bool false, .int .i64 0, .string ⟨#[]⟩, .slice none 0 0, .slice none 0 0]) (by simp only [results, Tryz.results43]; go_simp) rfl ⟨⟨1, false, 0, ⟨#[]⟩, [], []⟩, _, rfl, drawn_null, own_leaf (by unfold I64; decide) i64_0 (by decide), HD.out.cut.fin (H := w.heap.size) (by repeat (first | (with_reducible exact Aside.refl _ _) | ((with_reducible refine aside_set ?_ ?_); (focus (simp; done))) | (with_reducible refine aside_alloc ?_))) (Nat.le_refl _) hpl⟩
  · subst q1
    go_wp2_with fail
    refine (c_l01Once code p 2 _ hc1 (by omega)).mono ?_
    rintro e w2 ⟨x, rfl, hd2⟩
    have hd3 := HD.out.trans hd2
    have hZ := (hd3.block (g := w.heap.size) (by simp) (by omega)).trans (heap_at (w := w) (o := (.cells #[.int .i64 0, .bool false, .int .i64 0, .string ⟨#[]⟩, .slice none 0 0, .slice none 0 0] 27)) rfl)
    obtain ⟨z0, z1, z2, z3, z4, z5, zf⟩ := row6 hZ
    have zl := row_lt hZ
    have HD2 := Lib.hid hd3.cut
    clear hd2 hd3
    go_wp2_with fail
    refine bodyPost_ret (v := .agg #[.int .i64 2, .bool x, .int .i64 0, .string ⟨#[]⟩, .slice none 0 0, .slice none 0 0]) (by simp only [results, Tryz.results43]; go_simp) rfl ⟨⟨2, x, 0, ⟨#[]⟩, [], []⟩, _, rfl, drawn_flag x, own_leaf (by unfold I64; decide) i64_0 (by decide), HD2.out.fin (H := w.heap.size) (by repeat (first | (with_reducible exact Aside.refl _ _) | ((with_reducible refine aside_set ?_ ?_); (focus (simp; done))) | (with_reducible refine aside_alloc ?_))) (Nat.le_refl _) hpl⟩
  · subst q2
    go_wp2_with fail
    refine (c_l02Num code p _ hc1).mono ?_
    rintro e w2 ⟨z, rfl, hz, hd2⟩
    have hall : ∀ x ∈ ([0, 1, -1, 42, 9223372036854775807, -9223372036854775808, z] : List Int), I64 x := nums_ok hz
    have Hall := Lib.hid hall
    have hd3 := HD.out.trans hd2
    have HD2 := Lib.hid hd3
    have hc2 := hd2.cur
    have hpl2 := hc2.lt
    clear hd2 hd3 hz hall
    go_wp2_with fail
    refine (c_l01PickInt code p ([0, 1, -1, 42, 9223372036854775807, -9223372036854775808, z] : List Int) _ w2.heap.size (w2.alloc (.cells #[.int .i64 0, .int .i64 1, .int .i64 (-1), .int .i64 42, .int .i64 9223372036854775807, .int .i64 (-9223372036854775808), .int .i64 z] 3)) (hc2.below (ext_alloc (Below.refl _ _))) (sl_ints w2 ([0, 1, -1, 42, 9223372036854775807, -9223372036854775808, z] : List Int) (by simp) 3 _ rfl) hpl2 (by simp) (by simp)).mono ?_
    rintro e w3 ⟨y, rfl, hy, hd4⟩
    have hd5 := HD2.out.trans (Dr.cut hd4)
    have HY := Lib.hid (Hall.out y hy)
    have HD3 := Lib.hid hd5
    clear hd4 hd5 hy hc2
    go_wp2_with fail
    refine (c_rs_IntTree y _).mono ?_
    rintro e w4 ⟨rfl, hb4⟩
    have hd6 := HD3.out.step hb4
    have hZ := (hd6.block (g := w.heap.size) (by simp) (by omega)).trans (heap_at (w := w) (o := (.cells #[.int .i64 0, .bool false, .int .i64 0, .string ⟨#[]⟩, .slice none 0 0, .slice none 0 0] 27)) rfl)
    obtain ⟨z0, z1, z2, z3, z4, z5, zf⟩ := row6 hZ
    have zl := row_lt hZ
    have HD4 := Lib.hid hd6.cut
    clear hb4 hd6
    go_wp2_with fail
    refine bodyPost_ret (v := .agg #[.int .i64 3, .bool false, .int .i64 y, .string ⟨#[]⟩, .slice none 0 0, .slice none 0 0]) (by simp only [results, Tryz.results43]; go_simp) rfl ⟨⟨3, false, y, ⟨#[]⟩, [], []⟩, _, rfl, drawn_int HY.out, own_leaf (by unfold I64; decide) HY.out (by decide), HD4.out.fin (H := w.heap.size) (by repeat (first | (with_reducible exact Aside.refl _ _) | ((with_reducible refine aside_set ?_ ?_); (focus (simp; done))) | (with_reducible refine aside_alloc ?_))) (Nat.le_refl _) hpl⟩
  · subst q3
    go_wp2_with fail
    refine (c_l02Num code p _ hc1).mono ?_
    rintro e w2 ⟨z, rfl, hz, hd2⟩
    have hall : ∀ x ∈ ([0, 1, -1, 42, 9223372036854775807, -9223372036854775808, z] : List Int), I64 x := nums_ok hz
    have Hall := Lib.hid hall
    have hd3 := HD.out.trans hd2
    have HD2 := Lib.hid hd3
    have hc2 := hd2.cur
    have hpl2 := hc2.lt
    clear hd2 hd3 hz hall
    go_wp2_with fail
    refine (c_l01PickInt code p ([0, 1, -1, 42, 9223372036854775807, -9223372036854775808, z] : List Int) _ w2.heap.size (w2.alloc (.cells #[.int .i64 0, .int .i64 1, .int .i64 (-1), .int .i64 42, .int .i64 9223372036854775807, .int .i64 (-9223372036854775808), .int .i64 z] 3)) (hc2.below (ext_alloc (Below.refl _ _))) (sl_ints w2 ([0, 1, -1, 42, 9223372036854775807, -9223372036854775808, z] : List Int) (by simp) 3 _ rfl) hpl2 (by simp) (by simp)).mono ?_
    rintro e w3 ⟨y, rfl, hy, hd4⟩
    have hd5 := HD2.out.trans (Dr.cut hd4)
    have HY := Lib.hid (Hall.out y hy)
    have HD3 := Lib.hid hd5
    clear hd4 hd5 hy hc2
    go_wp2_with fail
    refine (c_rs_IntTree y _).mono ?_
    rintro e w4 ⟨rfl, hb4⟩
    have hd6 := HD3.out.step hb4
    have hZ := (hd6.block (g := w.heap.size) (by simp) (by omega)).trans (heap_at (w := w) (o := (.cells #[.int .i64 0, .bool false, .int .i64 0, .string ⟨#[]⟩, .slice none 0 0, .slice none 0 0] 27)) rfl)
    obtain ⟨z0, z1, z2, z3, z4, z5, zf⟩ := row6 hZ
    have zl := row_lt hZ
    have HD4 := Lib.hid hd6.cut
    clear hb4 hd6
    go_wp2_with fail
    refine bodyPost_ret (v := .agg #[.int .i64 3, .bool false, .int .i64 y, .string ⟨#[]⟩, .slice none 0 0, .slice none 0 0]) (by simp only [results, Tryz.results43]; go_simp) rfl ⟨⟨3, false, y, ⟨#[]⟩, [], []⟩, _, rfl, drawn_int HY.out, own_leaf (by unfold I64; decide) HY.out (by decide), HD4.out.fin (H := w.heap.size) (by repeat (first | (with_reducible exact Aside.refl _ _) | ((with_reducible refine aside_set ?_ ?_); (focus (simp; done))) | (with_reducible refine aside_alloc ?_))) (Nat.le_refl _) hpl⟩
  · subst q4
    go_wp2_with fail
    refine (c_l08Word code p _ hc1).mono ?_
    rintro e w2 ⟨s, rfl, hs, hd2⟩
    have hd3 := HD.out.trans hd2
    have HW := Lib.hid hs
    have HD2 := Lib.hid hd3
    clear hd2 hd3 hs
    go_wp2_with fail
    refine (c_rs_TextTree s _).mono ?_
    rintro e w4 ⟨rfl, hb4⟩
    have hd6 := HD2.out.step hb4
    have hZ := (hd6.block (g := w.heap.size) (by simp) (by omega)).trans (heap_at (w := w) (o := (.cells #[.int .i64 0, .bool false, .int .i64 0, .string ⟨#[]⟩, .slice none 0 0, .slice none 0 0] 27)) rfl)
    obtain ⟨z0, z1, z2, z3, z4, z5, zf⟩ := row6 hZ
    have zl := row_lt hZ
    have HD4 := Lib.hid hd6.cut
    clear hb4 hd6
    go_wp2_with fail
    refine bodyPost_ret (v := .agg #[.int .i64 4, .bool false, .int .i64 0, .string s, .slice none 0 0, .slice none 0 0]) (by simp only [results, Tryz.results43]; go_simp) rfl ⟨⟨4, false, 0, s, [], []⟩, _, rfl, drawn_text HW.out, own_leaf (by unfold I64; decide) i64_0 (Nat.le_trans HW.out.2 (by decide)), HD4.out.fin (H := w.heap.size) (by repeat (first | (with_reducible exact Aside.refl _ _) | ((with_reducible refine aside_set ?_ ?_); (focus (simp; done))) | (with_reducible refine aside_alloc ?_))) (Nat.le_refl _) hpl⟩
  · subst q5
    go_wp2_with fail
    refine (c_l08Word code p _ hc1).mono ?_
    rintro e w2 ⟨s, rfl, hs, hd2⟩
    have hd3 := HD.out.trans hd2
    have HW := Lib.hid hs
    have HD2 := Lib.hid hd3
    clear hd2 hd3 hs
    go_wp2_with fail
    refine (c_rs_TextTree s _).mono ?_
    rintro e w4 ⟨rfl, hb4⟩
    have hd6 := HD2.out.step hb4
    have hZ := (hd6.block (g := w.heap.size) (by simp) (by omega)).trans (heap_at (w := w) (o := (.cells #[.int .i64 0, .bool false, .int .i64 0, .string ⟨#[]⟩, .slice none 0 0, .slice none 0 0] 27)) rfl)
    obtain ⟨z0, z1, z2, z3, z4, z5, zf⟩ := row6 hZ
    have zl := row_lt hZ
    have HD4 := Lib.hid hd6.cut
    clear hb4 hd6
    go_wp2_with fail
    refine bodyPost_ret (v := .agg #[.int .i64 4, .bool false, .int .i64 0, .string s, .slice none 0 0, .slice none 0 0]) (by simp only [results, Tryz.results43]; go_simp) rfl ⟨⟨4, false, 0, s, [], []⟩, _, rfl, drawn_text HW.out, own_leaf (by unfold I64; decide) i64_0 (Nat.le_trans HW.out.2 (by decide)), HD4.out.fin (H := w.heap.size) (by repeat (first | (with_reducible exact Aside.refl _ _) | ((with_reducible refine aside_set ?_ ?_); (focus (simp; done))) | (with_reducible refine aside_alloc ?_))) (Nat.le_refl _) hpl⟩
  · subst q6
    clear hy0 hy2
    go_wp2_with fail
    go_loopw [6, 7] (fun s6 s7 wr => ∃ (i c : Nat) (A : Option Addr) (l : List TreeD), i ≤ 3 ∧ s7 = .int .i64 i ∧ s6 = .slice A i c ∧ l.length = i ∧ GrowK (k + 1) w1.heap.size wr.heap.size wr l (.slice A i c) ∧ (∀ t ∈ l, Drawn (k + 1) t) ∧ wr.heap[w.heap.size]? = some (.cells #[.int .i64 0, .bool false, .int .i64 0, .string ⟨#[]⟩, .slice none 0 0, .slice none 0 0] 27 (0, 0)) ∧ Dr code p w wr ∧ w1.heap.size ≤ wr.heap.size) (fun _ s7 _ => 4 - (intOf s7).toNat)
    case atStart =>
      exact ⟨0, 0, _, [], Nat.zero_le _, rfl, rfl, rfl, GrowK.empty rfl (Nat.le_refl _), fun t ht => (by cases ht), (Below.heap_alloc _ _ _ (by omega)).trans ((HD.out.block (g := w.heap.size) (by simp) (by omega)).trans (heap_at rfl)), HD.out.cut.alloc _, by simp⟩
    case round =>
      obtain ⟨i, c, A, l, hi3, rfl, rfl, hl, hG, hall, hZ, hdr, hws⟩ := hrel
      have HG := Lib.hid hG
      have HA := Lib.hid hall
      have HZ := Lib.hid hZ
      have HR := Lib.hid hdr
      have HL := Lib.hid hl
      have hcr := hdr.cur
      clear hG hall hZ hdr hl hc1
      go_wp2_with fail
      refine (c_l01Below code p 4 _ hcr (by omega)).mono ?_
      rintro e w2 ⟨x, rfl, hx0, hx1, -, hd2⟩
      have hx2 := hx1 (by decide)
      have hc2 := hd2.cur
      have HG2 := Lib.hid (HG.out.carryD hd2 (by omega) (Nat.le_refl _))
      have HZ2 := Lib.hid ((hd2.block (g := w.heap.size) (by omega) (by omega)).trans HZ.out)
      have HR2 := Lib.hid (HR.out.trans hd2)
      have hs2 := hd2.size
      clear hd2 hx1 hcr
      by_cases hlt : (i : Int) < x
      · have dlt : decide ((i : Int) < x) = true := decide_eq_true hlt
        go_wp2_with fail
        rw [hDs.out]
        refine (ih code p _ hc2).mono ?_
        rintro e w9 ⟨t, es, rfl, hT, hO, hd9⟩
        obtain ⟨fA4, fc4, fA5, fc5, rfl, -⟩ := hO.flat
        have HT := Lib.hid hT
        have HO := Lib.hid hO
        have hs9 := hd9.size
        have HG9 := HG2.out.carryD hd9 (by omega) hs2
        have HZ9 := Lib.hid ((hd9.block (g := w.heap.size) (by omega) (by omega)).trans HZ2.out)
        have HR9 := Lib.hid (HR2.out.trans hd9)
        have hcl := hd9.cur.lt
        obtain ⟨ess, F, e1, e2, e3, e4, e5, e6, e7⟩ := HG9
        rw [HL.out] at e3
        have E := Lib.hid (And.intro e1 (And.intro e2 (And.intro e3 (And.intro e4 (And.intro e5 (And.intro e6 e7))))))
        have Hown := Lib.hid (fun q (hq : (Value.slice A i c).ownBlock = some q) => (e3.lt q hq).1)
        clear hT hO hd9 hc2 e1 e2 e3 e4 e5 e6 e7
        go_wp2_with (at_builtin; refine wpList_append_lies _ rfl (.tmp 53) (.tmp 58) 25 rfl w1.heap.size 27 i0 (.agg #[.int .i64 0, .bool false, .int .i64 0, .string ⟨#[]⟩, .slice none 0 0, .slice none 0 0]) 6 88 Tryz.underlying25 hi hz0 hz1 hz2 rfl (by decide) _ i ess.flatten rfl (E.out.2.2.1.alloc _) _ 1 1 [.int .i64 t.kind, .bool t.flag, .int .i64 t.num, .string t.text, .slice fA4 t.keys.length fc4, .slice fA5 t.kids.length fc5] rfl rfl (World.news_of_block (heap_at (by simp))) HO.out.one (by decide) (by unfold maxLen; omega) (by omega) (by simp; omega) _ rfl ?_)
        intro g cap w3 hown hgrow hat hlt3
        have hs3 := hgrow.size
        simp at hs3
        have hP := GrowK.push (n := k + 1) (base := w1.heap.size) (hi := wr.heap.size) (w := w9.alloc (.cells #[.int .i64 t.kind, .bool t.flag, .int .i64 t.num, .string t.text, .slice fA4 t.keys.length fc4, .slice fA5 t.kids.length fc5] 27)) (S := fun b => w2.heap.size ≤ b ∧ b < w9.heap.size) i HL.out (by simp; omega) (HO.out.carry (fun b hb => Below.heap_alloc _ _ b hb.2) (fun b hb => hb)) (fun b hb => by simp; omega) hws ess F E.out.1 E.out.2.1 E.out.2.2.2.1 E.out.2.2.2.2.1 E.out.2.2.2.2.2.1
          (fun j d' es' h1 h2 => (E.out.2.2.2.2.2.2 j d' es' h1 h2).carry (fun b hb => Below.heap_alloc _ _ b (by have := (E.out.2.2.2.2.1 j b hb).2.1; omega)) (fun _ h => h)) hown hgrow (hat.imp id (fun h => by (try simp at h); (try simp); omega)) hlt3
        have HP := Lib.hid hP
        have hno : ∀ q, q < w1.heap.size → (Value.slice A i c).ownBlock ≠ some q := fun q hq e => by have := Hown.out q e; omega
        have HZ3 := Lib.hid (((hgrow.block w.heap.size (by simp; omega) (fun e => hno _ (by omega) e.symm)).trans (Below.heap_alloc _ _ _ (by omega))).trans HZ9.out)
        have hb3 : Below w1.heap.size w9 w3 := Below.grown (B := w1.heap.size) ((Below.refl _ _).alloc (by omega) _) hgrow (by simp; omega) (fun q hq => Hown.out q hq)
        have HR3 := Lib.hid (HR9.out.low (hb3.mono (by omega)) hpl)
        clear hgrow hown hat hP hno
        go_wp2_with fail
        go_roundw
        case rel => exact ⟨i + 1, cap, _, l ++ [t], by omega, by go_num, rfl, by rw [List.length_append, HL.out]; rfl, HP.out, fun u hu => by rcases List.mem_append.1 hu with hu | hu; exact HA.out u hu; (simp at hu; rw [hu]; exact HT.out), HZ3.out, HR3.out, by omega⟩
        case measure => first | omega | (simp [Lib.intOf]; omega) | (simp [intOf]; omega)
      · have dlt : decide ((i : Int) < x) = false := decide_eq_false hlt
        have hl := HL.out
        subst hl
        have hfit := ((drawn_list (k := k) (by omega) HA.out).fits (by omega)).1
        have HC := Lib.hid ((own_tlist (S := fun q => w1.heap.size ≤ q ∧ q < wr.heap.size) HG2.out (wF := w2) (fun _ _ _ => rfl) (fun b h1 h2 => ⟨h1, h2⟩)).toC (lo := 0) (hi := w2.heap.size) (fun b hb => ⟨Nat.zero_le _, by omega⟩))
        go_wp2_with fail
        refine (c_ListTreeG (k + 1) l A c w2 0 HC.out hfit).mono ?_
        rintro e w5 ⟨cs5, rfl, hO5, hb5⟩
        obtain ⟨C4, d4, C5, d5, rfl, -⟩ := hO5.flat
        have HO5 := Lib.hid hO5
        have HD5 := Lib.hid (HR2.out.step hb5)
        have hZ5 := (hb5.block w.heap.size (by omega)).trans HZ2.out
        obtain ⟨z0, z1, z2, z3, z4, z5, zf⟩ := row6 hZ5
        have zl := row_lt hZ5
        have HDr := Lib.hid (drawn_list (k := k) (by omega) HA.out)
        clear hO5 hb5 hZ5 hfit
        go_wp2_with fail
        refine bodyPost_ret (v := .agg #[.int .i64 (tList l).kind, .bool (tList l).flag, .int .i64 (tList l).num, .string (tList l).text, .slice C4 (tList l).keys.length d4, .slice C5 (tList l).kids.length d5]) (by simp only [results, Tryz.results43]; go_simp) rfl ⟨tList l, _, rfl, HDr.out, HO5.out.carry (fun b hb => Aside.block (S := fun b => b = w.heap.size) (w := w5) (by repeat (first | (with_reducible exact Aside.refl _ _) | ((with_reducible refine aside_set ?_ ?_); (focus (simp; done))) | (with_reducible refine aside_alloc ?_))) b hb.2 (by have := hb.1; omega)) (fun b hb => by have q1 := hb.1; have q2 := hb.2; (try simp); omega), HD5.out.fin (H := w.heap.size) (by repeat (first | (with_reducible exact Aside.refl _ _) | ((with_reducible refine aside_set ?_ ?_); (focus (simp; done))) | (with_reducible refine aside_alloc ?_))) (Nat.le_refl _) hpl⟩
  · have f0 : (y == 0) = false := beq_eq_false_iff_ne.2 (by omega)
    have f1 : (y == 1) = false := beq_eq_false_iff_ne.2 (by omega)
    have f2 : (y == 2) = false := beq_eq_false_iff_ne.2 (by omega)
    have f3 : (y == 3) = false := beq_eq_false_iff_ne.2 (by omega)
    have f4 : (y == 4) = false := beq_eq_false_iff_ne.2 (by omega)
    have f5 : (y == 5) = false := beq_eq_false_iff_ne.2 (by omega)
    have f6 : (y == 6) = false := beq_eq_false_iff_ne.2 (by omega)
    clear hy0 hy2 q7
    go_wp2_with fail
    go_loopw [9] (fun s9 wr => ∃ (i c4 c5 : Nat) (A4 A5 : Option Addr) (K : List ByteArray) (V : List TreeD), i ≤ 4 ∧ s9 = .int .i64 i ∧ wr.heap[w1.heap.size]? = some (.cells #[.int .i64 6, .bool false, .int .i64 0, .string ⟨#[]⟩, .slice A4 K.length c4, .slice A5 V.length c5] 27 (0, 0)) ∧ OwnT (k + 2) (fun q => w1.heap.size < q ∧ q < wr.heap.size) wr (tMap K V) [.int .i64 6, .bool false, .int .i64 0, .string ⟨#[]⟩, .slice A4 K.length c4, .slice A5 V.length c5] ∧ MapD (k + 1) i K V ∧ wr.heap[w.heap.size]? = some (.cells #[.int .i64 0, .bool false, .int .i64 0, .string ⟨#[]⟩, .slice none 0 0, .slice none 0 0] 27 (0, 0)) ∧ Dr code p w wr) (fun s9 _ => 5 - (intOf s9).toNat)
    case atStart =>
      exact ⟨0, 0, 0, none, none, [], [], Nat.zero_le _, rfl, heap_at rfl, own_leaf (by unfold I64; decide) i64_0 (by decide), MapD.nil _, (Below.heap_alloc _ _ _ (by omega)).trans ((HD.out.block (g := w.heap.size) (by simp) (by omega)).trans (heap_at rfl)), HD.out.cut.alloc _⟩
    case round =>
      clear f0 f1 f2 f3 f4 f5 f6
      obtain ⟨i, c4, c5, A4, A5, K, V, hi4, rfl, hB, hO, hM, hZ, hdr⟩ := hrel
      have HB := Lib.hid hB
      have HO := Lib.hid hO
      have HM := Lib.hid hM
      have HZ := Lib.hid hZ
      have HR := Lib.hid hdr
      have hcr := hdr.cur
      have hbl := row_lt hB
      clear hB hO hM hZ hdr hc1
      go_wp2_with fail
      refine (c_l01Below code p 5 _ hcr (by omega)).mono ?_
      rintro e w2 ⟨x, rfl, hx0, hx1, -, hd2⟩
      have hx2 := hx1 (by decide)
      have HC2 := Lib.hid hd2.cur
      have HB2 := Lib.hid ((hd2.block (g := w1.heap.size) hbl (by omega)).trans HB.out)
      have HZ2 := Lib.hid ((hd2.block (g := w.heap.size) (by omega) (by omega)).trans HZ.out)
      have HR2 := Lib.hid (HR.out.trans hd2)
      have hs2 := hd2.size
      have HO2 := Lib.hid (HO.out.carry (S' := fun q => w1.heap.size < q ∧ q < w2.heap.size) (fun b hb => hd2.block (g := b) hb.2 (by have := hb.1; omega)) (fun b hb => ⟨hb.1, by have := hb.2; omega⟩))
      clear hd2 hx1 hcr
      obtain ⟨x0, x1, x2', x3, x4, x5, xf⟩ := row6 HB2.out
      have xl := row_lt HB2.out
      by_cases hlt : (i : Int) < x
      · have dlt : decide ((i : Int) < x) = true := decide_eq_true hlt
        have hxp : w1.heap.size ≠ p := by omega
        have hDw := hEw.out
        have hz2b : sizeT (k + 2) (tMap K V) ≤ 1073741824 ∧ nTree (k + 2) (tMap K V) ≤ 1048576 := by have h9 := (drawn_map (HM.out.more (m' := 4) (by omega))).fits (by omega); exact ⟨h9.2.1, h9.1⟩
        obtain ⟨hz2, hn2⟩ := hz2b
        go_wp2_with fail
        go_region_law (first | (go_simp; go_at_call 77; refine (c_l08Word code p _ (HC2.out.below bel)).mono ?_; rintro e wa ⟨s, rfl, hs, hda⟩; obtain ⟨p0, p1, p2, p3, p4, p5, pf⟩ := row6 ((hda.block (g := w1.heap.size) xl hxp).trans HB2.out); have pxl : w1.heap.size < wa.heap.size := Nat.lt_of_lt_of_le xl hda.size) | (go_simp; go_at_call 43; refine (ih code p _ (hda.cur.below bel)).mono ?_; rintro e wb ⟨t, es, rfl, hT, hOt, hdb⟩; obtain ⟨tA4, tc4, tA5, tc5, rfl, -⟩ := hOt.flat; obtain ⟨r0, r1, r2, r3, r4, r5, rf⟩ := row6 ((hdb.block (g := w1.heap.size) pxl hxp).trans ((hda.block (g := w1.heap.size) xl hxp).trans HB2.out)); have rxl : w1.heap.size < wb.heap.size := Nat.lt_of_lt_of_le pxl hdb.size) | (go_simp; go_at_call 79; refine (c_PutKid (k + 1) (tMap K V) t _ _ s _ 0 (((HO2.out.carry (S' := fun q => q < wb.heap.size) (fun b hb => (hdb.block (g := b) (Nat.lt_of_lt_of_le hb.2 hda.size) (by have := hb.1; omega)).trans (hda.block (g := b) hb.2 (by have := hb.1; omega))) (fun b hb => Nat.lt_of_lt_of_le hb.2 (Nat.le_trans hda.size hdb.size))).toC (lo := 0) (hi := wb.heap.size) (fun b hb => ⟨Nat.zero_le _, hb⟩)).now bel) ((hOt.toC (lo := 0) (hi := wb.heap.size) (fun b hb => ⟨Nat.zero_le _, hb.2⟩)).now bel) (Nat.le_trans hs.2 (by decide)) hz2 (hT.le (by omega)) hn2 (hT.fits (by omega)).1).mono ?_; rintro e wd ⟨cs3, rfl, hO3, hbd⟩; obtain ⟨K3, V3, hput, hM3⟩ := HM.out.put (n := k + 2) hs hT; rw [hput] at hO3; obtain ⟨B4, b4, B5, b5, rfl, -⟩ := hO3.flat; obtain ⟨v0, v1, v2, v3, v4, v5, vf⟩ := row6 ((hbd.block w1.heap.size rxl).trans ((hdb.block (g := w1.heap.size) pxl hxp).trans ((hda.block (g := w1.heap.size) xl hxp).trans HB2.out))); have vxl : w1.heap.size < wd.heap.size := Nat.lt_of_lt_of_le rxl hbd.size))
        all_goals
          have q1 := hda.size
          have q2 := hdb.size
          have q3 := hbd.size
          have HDa := (HR2.out.step (bel : Below w2.heap.size w2 _)).trans hda
          have HDb := (HDa.step (bel : Below wa.heap.size wa _)).trans hdb
          have HDd := Lib.hid (HDb.step hbd)
          have HZd := Lib.hid ((hbd.block w.heap.size (by omega)).trans ((hdb.block (g := w.heap.size) (by (try simp); omega) (by omega)).trans ((hda.block (g := w.heap.size) (by (try simp); omega) (by omega)).trans HZ2.out)))
          have HBd := Lib.hid ((hbd.block w1.heap.size rxl).trans ((hdb.block (g := w1.heap.size) pxl hxp).trans ((hda.block (g := w1.heap.size) xl hxp).trans HB2.out)))
          have HO3 := Lib.hid hO3
          have HM3 := Lib.hid hM3
          clear HDa HDb hbd hdb hda hO3 hM3 hput hT hOt hs
          go_wp2_with fail
          go_roundw
          case rel => exact ⟨i + 1, b4, b5, B4, B5, K3, V3, by omega, by go_num, set6_all HBd.out, HO3.out.carry (fun b hb => Aside.block (S := fun b => b = w1.heap.size) (w := wd) (by repeat (first | (with_reducible exact Aside.refl _ _) | ((with_reducible refine aside_set ?_ ?_); (focus (simp; done))) | (with_reducible refine aside_alloc ?_))) b hb.2 (by have q5 := hb.1; (try simp at q5); omega)) (fun b hb => by have q5 := hb.1; have q6 := hb.2; (try simp at q5); (try simp); omega), HM3.out, Eq.trans (Aside.block (S := fun b => b = w1.heap.size) (w := wd) (by repeat (first | (with_reducible exact Aside.refl _ _) | ((with_reducible refine aside_set ?_ ?_); (focus (simp; done))) | (with_reducible refine aside_alloc ?_))) w.heap.size (by omega) (by omega)) HZd.out, HDd.out.fin (H := w1.heap.size) (by repeat (first | (with_reducible exact Aside.refl _ _) | ((with_reducible refine aside_set ?_ ?_); (focus (simp; done))) | (with_reducible refine aside_alloc ?_))) (by omega) hpl⟩
          case measure => first | omega | (simp [Lib.intOf]; omega) | (simp [intOf]; omega)
      · have dlt : decide ((i : Int) < x) = false := decide_eq_false hlt
        obtain ⟨z0, z1, z2, z3, z4, z5, zf⟩ := row6 HZ2.out
        have zl := row_lt HZ2.out
        have HDr := Lib.hid (drawn_map (HM.out.more (m' := 4) (by omega)))
        go_wp2_with fail
        refine bodyPost_ret (v := .agg #[.int .i64 6, .bool false, .int .i64 0, .string ⟨#[]⟩, .slice A4 K.length c4, .slice A5 V.length c5]) (by simp only [results, Tryz.results43]; go_simp) rfl ⟨tMap K V, _, rfl, HDr.out, HO2.out.carry (fun b hb => Aside.block (S := fun b => b = w.heap.size) (w := w2) (by repeat (first | (with_reducible exact Aside.refl _ _) | ((with_reducible refine aside_set ?_ ?_); (focus (simp; done))) | (with_reducible refine aside_alloc ?_))) b hb.2 (by have := hb.1; omega)) (fun b hb => by have q1 := hb.1; have q2 := hb.2; (try simp); omega), HR2.out.fin (H := w.heap.size) (by repeat (first | (with_reducible exact Aside.refl _ _) | ((with_reducible refine aside_set ?_ ?_); (focus (simp; done))) | (with_reducible refine aside_alloc ?_))) (Nat.le_refl _) hpl⟩
theorem all_tree : ∀ k, k ≤ 3 → ∀ (code : List UInt8) (p : Nat) (w : World), CurAt code p w → Calls Tryz.prog 43 #[.pointer (some ⟨p, 0, none⟩), .int .i64 ((k + 1 : Nat) : Int)] w (DrT (k + 1) code p w)
  | 0, _, code, p, w, h => c_tree_one code p w h
  | k + 1, hk, code, p, w, h => c_tree_more k (by omega) (all_tree k (by omega)) code p w h
set_option maxHeartbeats 2000000 in
theorem c_DrawTree (code : List UInt8) (v : Value) (lo : Nat) (w : World) (hs : SlOf C_Byte 1 lo w.heap.size w code v) (hn : code.length ≤ 1048576) :
    Calls Tryz.prog 23 #[v] w fun e w' => ∃ d cs, e = .returned (.agg cs.toArray) ∧ Drawn 4 d ∧ OwnT 4 (fun q => w.heap.size ≤ q ∧ q < w'.heap.size) w' d cs ∧ Below w.heap.size w w' := by
  have Hs := Lib.hid hs
  obtain ⟨A, c, rfl, -⟩ := hs
  have h4 := all_tree 3 (by decide)
  rw [show ((3 + 1 : Nat) : Int) = 4 from rfl] at h4
  have H4 := Lib.hid h4
  clear h4
  go_enter Tryz.func23, Tryz.ntmps23
  go_wp2_with fail
  refine (c_l01New code _ lo _ (SlOf.now Hs.out bel) hn).mono ?_
  rintro e w1 ⟨p, rfl, hp, hc, hb⟩
  have HB := Lib.hid hb
  have hb1 := hb.size
  simp at hb1
  clear hb
  go_wp2_with fail
  refine (H4.out code p _ hc).mono ?_
  rintro e w2 ⟨d, cs, rfl, hD, hO, hd⟩
  obtain ⟨C4, d4, C5, d5, rfl, -⟩ := hO.flat
  have HD := Lib.hid hD
  have HO := Lib.hid hO
  have hs2 := hd.size
  simp at hp
  have Hb2 := Lib.hid (Below.trans (bel : Below w.heap.size w (w.alloc (.cells #[.int .i64 0, .bool false, .int .i64 0, .string ⟨#[]⟩, .slice none 0 0, .slice none 0 0] 27))) ((HB.out.mono (by simp)).trans (hd.below (B := w.heap.size) (by omega) (by omega))))
  have hZ := (hd.block (g := w.heap.size) (by omega) (by omega)).trans ((HB.out.block w.heap.size (by simp)).trans (heap_at rfl))
  obtain ⟨z0, z1, z2, z3, z4, z5, zf⟩ := row6 hZ
  have zl := row_lt hZ
  clear hO hD hd hc hZ
  go_wp2_with fail
  refine bodyPost_ret (v := .agg #[.int .i64 d.kind, .bool d.flag, .int .i64 d.num, .string d.text, .slice C4 d.keys.length d4, .slice C5 d.kids.length d5]) (by simp only [results, Tryz.results23]; go_simp) rfl ⟨d, _, rfl, HD.out, HO.out.carry (fun b hb => Aside.block (S := fun b => b = w.heap.size) (w := w2) (by repeat (first | (with_reducible exact Aside.refl _ _) | ((with_reducible refine aside_set ?_ ?_); (focus (simp; done))) | (with_reducible refine aside_alloc ?_))) b hb.2 (by have := hb.1; omega)) (fun b hb => by have q1 := hb.1; have q2 := hb.2; (try simp); omega), Hb2.out.trans (Aside.below (S := fun b => b = w.heap.size) (by repeat (first | (with_reducible exact Aside.refl _ _) | ((with_reducible refine aside_set ?_ ?_); (focus (simp; done))) | (with_reducible refine aside_alloc ?_))) Hb2.out.size (fun i hi => by omega))⟩
end Go.Proofs.YtffelpdefjkeaaaGreatDoor
namespace Go.Proofs.YtffelpdefjkeaaaGreatDoor
open Go.RowKit Go.Lib
theorem bb {a b c : World} (h : Below a.heap.size a b) (k : Below b.heap.size b c) : Below a.heap.size a c := h.trans (k.mono h.size)
structure Four (w : World) : Prop where
  pow : Pow w
  err : ErrR w
  tab : Tabs w
  cas : CTab w
theorem Four.below {w w' : World} (h : Four w) (hb : Below w.heap.size w w') : Four w' := ⟨h.pow.below hb, h.err.below hb, h.tab.below hb, h.cas.below hb⟩
theorem Ten.callR {d : TreeD} (h : Ten d) {w : World} (hC : Four w) (W : World) (hb : Below w.heap.size w W) : Calls Tryz.prog 15 #[.string (txt d)] W (ReadE (flt0, d) W) := by
  have hC := hC.below hb
  have := c_impl_ReadBraced (txt d) W (by rw [txt_size]; have := h.say; omega) hC.cas hC.tab hC.err
  rw [h.read] at this
  exact this
theorem Ten.callK {d : TreeD} (h : Ten d) {w : World} (hC : Four w) (W : World) (hb : Below w.heap.size w W) : Calls Tryz.prog 15 #[.string (txt d ++ ⟨#[93]⟩)] W (ReadE (⟨4, ((txt d).size : Nat), ⟨#[]⟩⟩, treeZ) W) := by
  have hC := hC.below hb
  have := c_impl_ReadBraced (txt d ++ ⟨#[93]⟩) W (by rw [ByteArray.size_append, txt_size]; have := h.say; show _ + 1 ≤ _; omega) hC.cas hC.tab hC.err
  rw [h.close] at this
  exact this
theorem callZ {w : World} (hC : Four w) (W : World) (hb : Below w.heap.size w W) : Calls Tryz.prog 15 #[.string ⟨#[]⟩] W (ReadE (⟨4, 0, ⟨#[]⟩⟩, treeZ) W) := by
  have hC := hC.below hb
  have := c_impl_ReadBraced ⟨#[]⟩ W (by decide) hC.cas hC.tab hC.err
  rw [readB_none] at this
  exact this
theorem Ten.callN {d : TreeD} (h : Ten d) {w : World} (hC : Four w) (W : World) (hb : Below w.heap.size w W) : Calls Tryz.prog 21 #[.string (⟨#[32]⟩ ++ txt d ++ ⟨#[10]⟩)] W fun e w' => e = .returned (.tuple #[.string (txt d), .agg (fltC flt0)]) ∧ Below W.heap.size W w' := by
  have hC := hC.below hb
  have := c_impl_BracedNormal (⟨#[32]⟩ ++ txt d ++ ⟨#[10]⟩) W (by rw [ByteArray.size_append, ByteArray.size_append, txt_size]; have := h.say; show 1 + _ + 1 ≤ _; omega) hC.pow hC.err hC.tab hC.cas
  rw [h.norm] at this
  exact this
theorem Ten.callB {d : TreeD} (h : Ten d) {w : World} (hC : Four w) (W : World) (hb : Below w.heap.size w W) : Calls Tryz.prog 11 #[.string (txt d)] W fun e w' => e = .returned (.bool true) ∧ Below W.heap.size W w' := by
  have hC := hC.below hb
  have := c_impl_BracedOk (txt d) W (by rw [txt_size]; have := h.say; omega) hC.cas hC.tab hC.err
  rw [h.okB] at this
  exact this
theorem Ten.callT {d : TreeD} (h : Ten d) {w : World} (hC : Four w) (cs : List Value) (W : World) (hb : Below w.heap.size w W) (hd : C_Tree 10 0 W.heap.size W d cs) : Calls Tryz.prog 24 #[.agg cs.toArray] W fun e w' => e = .returned (.string (txt d)) ∧ Below W.heap.size W w' := by
  have hC := hC.below hb
  have := c_impl_BracedText 10 d cs W 0 hd (Nat.le_trans h.size (by decide)) hC.tab hC.pow
  rw [h.braced] at this
  exact this
set_option maxHeartbeats 8000000 in
set_option maxRecDepth 20000 in
theorem w_FnBraced (d0 : List UInt8) (v0 : Value) (w : World) (h0 : R_bytes w d0 v0) (hP : Pow w) (hE : ErrR w) (hT : Tabs w) (hV : CTab w) :
    Calls Tryz.prog 7 #[v0] w fun e w' => e = .returned (.bool true) ∧ Below w.heap.size w w' := by
  have H0 := Lib.hid h0
  obtain ⟨A, c, rfl, -⟩ := h0
  have HC := Lib.hid (Four.mk hP hE hT hV)
  clear hP hE hT hV
  by_cases hq : d0.length ≤ 1048576
  · go_enter Tryz.func7, Tryz.ntmps7
    go_wp2_with (go_at_call 22; refine (c_laws_big_no d0 A c _ hq).mono ?_; rintro e w' ⟨rfl, rfl⟩)
    refine (c_DrawTree d0 _ 0 _ H0.out hq).mono ?_
    rintro e w1 ⟨d, cs, rfl, hD, hO, hb1⟩
    have hten := hD.ten
    have hO10 := hO.up (m := 10) (by decide)
    obtain ⟨C4, e4, C5, e5, rfl, -⟩ := hO10.flat
    have HR := Lib.hid (hten.callR HC.out)
    have HK := Lib.hid (hten.callK HC.out)
    have HZ := Lib.hid (callZ HC.out)
    have HN := Lib.hid (hten.callN HC.out)
    have HB := Lib.hid (hten.callB HC.out)
    have HCd := Lib.hid (fun (W : World) (h : Below w1.heap.size w1 W) => (hO10.toC (lo := 0) (hi := w1.heap.size) (fun b hb => ⟨Nat.zero_le _, hb.2⟩)).now h)
    have HT := Lib.hid (hten.callT HC.out)
    have HE := Lib.hid (eqTr_refl 10 d hten.shape)
    have hpos := hten.pos
    have hmax : (txt d).size ≤ 1048576 := by rw [txt_size]; have := hten.say; omega
    obtain ⟨s, hs⟩ : ∃ s, s = txt d := ⟨_, rfl⟩
    rw [← hs] at HR HK HN HB HT hpos hmax
    have hpos1 : (0 : Int) < s.size := by omega
    have e0 : fltC flt0 = #[.int .i64 0, .int .i64 0, .string ⟨#[]⟩] := rfl
    have e1 : fltC (⟨4, (s.size : Nat), ⟨#[]⟩⟩ : Flt) = #[.int .i64 4, .int .i64 (s.size : Nat), .string ⟨#[]⟩] := rfl
    have e2 : fltC (⟨4, 0, ⟨#[]⟩⟩ : Flt) = #[.int .i64 4, .int .i64 0, .string ⟨#[]⟩] := rfl
    have HF := Lib.hid (And.intro e0 (And.intro e1 e2))
    have B1 := Lib.hid hb1
    clear hs hten hD hO hO10 hb1 e0 e1 e2
    go_wp2_with fail
    obtain ⟨w2, hw2⟩ : ∃ W, W = w1.alloc (.cells #[.int .i64 d.kind, .bool d.flag, .int .i64 d.num, .string d.text, .slice C4 d.keys.length e4, .slice C5 d.kids.length e5] 27) := ⟨_, rfl⟩
    have B2 : Hid (Below w1.heap.size w1 w2) := Lib.hid (by rw [hw2]; exact bel)
    have X3 : Hid (w2.heap[w1.heap.size]? = some (.cells #[.int .i64 d.kind, .bool d.flag, .int .i64 d.num, .string d.text, .slice C4 d.keys.length e4, .slice C5 d.kids.length e5] 27 (0, 0))) := Lib.hid (by rw [hw2]; exact heap_at rfl)
    rw [← hw2]
    clear hw2
    have H2 := Lib.hid (bb B1.out B2.out)
    refine (HT.out _ w2 H2.out (HCd.out w2 B2.out)).mono ?_
    rintro e w3 ⟨rfl, hb3⟩
    have B3 := Lib.hid hb3
    have H3 := Lib.hid (bb H2.out hb3)
    clear hb3
    go_wp2_with fail
    refine (HR.out w3 H3.out).mono ?_
    rintro e w4 ⟨cs4, rfl, hO4, hb4⟩
    obtain ⟨D4, f4, D5, f5, rfl, -⟩ := hO4.flat
    have HCb := Lib.hid (fun (W : World) (h : Below w4.heap.size w4 W) => (hO4.toC (lo := 0) (hi := w4.heap.size) (fun b hb => ⟨Nat.zero_le _, hb.2⟩)).now h)
    simp only [HF.out.1]
    have B4 := Lib.hid hb4
    have H4 := Lib.hid (bb H3.out hb4)
    clear hb4 hO4
    go_wp2_with fail
    obtain ⟨w5, hw5⟩ : ∃ W, W = (w4.alloc (.cells #[.int .i64 d.kind, .bool d.flag, .int .i64 d.num, .string d.text, .slice D4 d.keys.length f4, .slice D5 d.kids.length f5] 27)).alloc (.cells #[.int .i64 0, .int .i64 0, .string ⟨#[]⟩] 29) := ⟨_, rfl⟩
    have B5 : Hid (Below w4.heap.size w4 w5) := Lib.hid (by rw [hw5]; exact bel)
    have X5 : Hid (w5.heap[w4.heap.size]? = some (.cells #[.int .i64 d.kind, .bool d.flag, .int .i64 d.num, .string d.text, .slice D4 d.keys.length f4, .slice D5 d.kids.length f5] 27 (0, 0))) := Lib.hid (by rw [hw5]; exact (Below.heap_alloc _ _ _ (by simp)).trans (heap_at rfl))
    have X6 : Hid (w5.heap[w4.heap.size + 1]? = some (.cells #[.int .i64 0, .int .i64 0, .string ⟨#[]⟩] 29 (0, 0))) := Lib.hid (by rw [hw5]; exact heap_at (by simp))
    rw [← hw5]
    clear hw5
    have H5 := Lib.hid (bb H4.out B5.out)
    refine (HN.out w5 H5.out).mono ?_
    rintro e w6 ⟨rfl, hb6⟩
    simp only [HF.out.1]
    have B6 := Lib.hid hb6
    have H6 := Lib.hid (bb H5.out hb6)
    clear hb6
    go_wp2_with fail
    obtain ⟨w7, hw7⟩ : ∃ W, W = w6.alloc (.cells #[.int .i64 0, .int .i64 0, .string ⟨#[]⟩] 29) := ⟨_, rfl⟩
    have B7 : Hid (Below w6.heap.size w6 w7) := Lib.hid (by rw [hw7]; exact bel)
    have X8 : Hid (w7.heap[w6.heap.size]? = some (.cells #[.int .i64 0, .int .i64 0, .string ⟨#[]⟩] 29 (0, 0))) := Lib.hid (by rw [hw7]; exact heap_at (by simp))
    rw [← hw7]
    clear hw7
    have H7 := Lib.hid (bb H6.out B7.out)
    refine (HK.out w7 H7.out).mono ?_
    rintro e w8 ⟨cs8, rfl, hO8, hb8⟩
    obtain ⟨G4, g4, G5, g5, rfl, -⟩ := hO8.flat
    simp only [HF.out.2.1]
    have B8 := Lib.hid hb8
    have H8 := Lib.hid (bb H7.out hb8)
    clear hb8 hO8
    go_wp2_with fail
    obtain ⟨w9, hw9⟩ : ∃ W, W = (w8.alloc (.cells #[.int .i64 treeZ.kind, .bool treeZ.flag, .int .i64 treeZ.num, .string treeZ.text, .slice G4 treeZ.keys.length g4, .slice G5 treeZ.kids.length g5] 27)).alloc (.cells #[.int .i64 4, .int .i64 (s.size : Nat), .string ⟨#[]⟩] 29) := ⟨_, rfl⟩
    have B9 : Hid (Below w8.heap.size w8 w9) := Lib.hid (by rw [hw9]; exact bel)
    have X10 : Hid (w9.heap[w8.heap.size + 1]? = some (.cells #[.int .i64 4, .int .i64 (s.size : Nat), .string ⟨#[]⟩] 29 (0, 0))) := Lib.hid (by rw [hw9]; exact heap_at (by simp))
    rw [← hw9]
    clear hw9
    have H9 := Lib.hid (bb H8.out B9.out)
    refine (HZ.out w9 H9.out).mono ?_
    rintro e wa ⟨csa, rfl, hOa, hba⟩
    obtain ⟨I4, k4, I5, k5, rfl, -⟩ := hOa.flat
    simp only [HF.out.2.2]
    have Ba := Lib.hid hba
    have Ha := Lib.hid (bb H9.out hba)
    clear hba hOa
    go_upto_region 9 with fail
    obtain ⟨wb, hwb⟩ : ∃ W, W = (wa.alloc (.cells #[.int .i64 treeZ.kind, .bool treeZ.flag, .int .i64 treeZ.num, .string treeZ.text, .slice I4 treeZ.keys.length k4, .slice I5 treeZ.kids.length k5] 27)).alloc (.cells #[.int .i64 4, .int .i64 0, .string ⟨#[]⟩] 29) := ⟨_, rfl⟩
    have Bb : Hid (Below wa.heap.size wa wb) := Lib.hid (by rw [hwb]; exact bel)
    have X12 : Hid (wb.heap[wa.heap.size + 1]? = some (.cells #[.int .i64 4, .int .i64 0, .string ⟨#[]⟩] 29 (0, 0))) := Lib.hid (by rw [hwb]; exact heap_at (by simp))
    rw [← hwb]
    clear hwb
    have Hb := Lib.hid (bb Ha.out Bb.out)
    have F9 := Lib.hid (bb Ba.out Bb.out)
    have F7 := Lib.hid (bb (bb B8.out B9.out) F9.out)
    have F5 := Lib.hid (bb (bb B6.out B7.out) F7.out)
    have F4 := Lib.hid (bb B5.out F5.out)
    have F2 := Lib.hid (bb (bb (bb B3.out B4.out) B5.out) F5.out)
    have F1 := Lib.hid (bb B2.out F2.out)
    have R3 := Lib.hid ((F2.out.block _ (row_lt X3.out)).trans X3.out)
    have R5 := Lib.hid ((F5.out.block _ (row_lt X5.out)).trans X5.out)
    have R6 := Lib.hid ((F5.out.block _ (row_lt X6.out)).trans X6.out)
    have R8 := Lib.hid ((F7.out.block _ (row_lt X8.out)).trans X8.out)
    have R10 := Lib.hid ((F9.out.block _ (row_lt X10.out)).trans X10.out)
    obtain ⟨a0, a1, a2, a3, a4, a5, af⟩ := row6 R3.out
    obtain ⟨b0, b1, b2, b3, b4, b5, bf⟩ := row6 R5.out
    obtain ⟨c0, c1, c2, cf⟩ := row3 R6.out
    have la := row_lt R3.out
    have lb := row_lt R5.out
    have lc := row_lt R6.out
    go_wp2_with fail
    refine (all_sameS 10 d d _ _ wb 0 0 (HCb.out wb F4.out) (HCd.out wb F1.out)).mono ?_
    rintro e wc ⟨rfl, hbc⟩
    rw [HE.out]
    have R8c := Lib.hid ((hbc.block _ (row_lt R8.out)).trans R8.out)
    have R10c := Lib.hid ((hbc.block _ (row_lt R10.out)).trans R10.out)
    have R12c := Lib.hid ((hbc.block _ (row_lt X12.out)).trans X12.out)
    have Hc := Lib.hid (bb Hb.out hbc)
    clear hbc a0 a1 a2 a3 a4 a5 af b0 b1 b2 b3 b4 b5 bf c0 c1 c2 cf la lb lc
    obtain ⟨a0, a1, a2, af⟩ := row3 R8c.out
    obtain ⟨b0, b1, b2, bf⟩ := row3 R10c.out
    obtain ⟨c0, c1, c2, cf⟩ := row3 R12c.out
    have la := row_lt R8c.out
    have lb := row_lt R10c.out
    have lc := row_lt R12c.out
    go_wp2_with fail
    refine (HB.out wc Hc.out).mono ?_
    rintro e wd ⟨rfl, hbd⟩
    have Hd := Lib.hid (bb Hc.out hbd)
    clear hbd
    go_wp2_with fail
    go_ret
    exact ⟨rfl, Hd.out⟩
  · go_enter Tryz.func7, Tryz.ntmps7
    go_wp2_with (go_at_call 22; refine (c_laws_big_yes d0 A c _ hq).mono ?_; rintro e w' ⟨rfl, rfl⟩)
    go_ret
    exact ⟨rfl, Below.refl _ _⟩
end Go.Proofs.YtffelpdefjkeaaaGreatDoor
