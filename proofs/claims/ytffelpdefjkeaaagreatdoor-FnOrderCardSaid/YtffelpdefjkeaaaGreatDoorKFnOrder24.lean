/- Written by wip/tools/pack.py: the texts that FnOrder needs, without what it does not need. No conditions. -/
import Derived.Test.YtffelpdefjkeaaaGreatDoorKFnOrder22
import Derived.Test.YtffelpdefjkeaaaGreatDoorKFnOrder23
import Derived.Test.YtffelpdefjkeaaaGreatDoorKFnOrder19
import Derived.Test.YtffelpdefjkeaaaGreatDoorKFnOrder20
import Derived.Test.YtffelpdefjkeaaaGreatDoorKFnOrder11
import Derived.Test.YtffelpdefjkeaaaGreatDoorKFnOrder13
import Derived.Test.YtffelpdefjkeaaaGreatDoorKFnOrder9
import Derived.Test.YtffelpdefjkeaaaGreatDoorKFnOrder8
import Derived.Deep.RegionLaw
import Derived.Test.YtffelpdefjkeaaaGreatDoorKFnOrder4
import Derived.Test.YtffelpdefjkeaaaGreatDoorKFnOrder12
import Derived.Test.YtffelpdefjkeaaaGreatDoorKFnOrder18
import Derived.Lib.LazyBuf
namespace Go.Proofs.YtffelpdefjkeaaaGreatDoor
open Go.RowKit Go.Lib
def DrT (k : Nat) (code : List UInt8) (p : Nat) (w : World) (e : Ending) (w' : World) : Prop :=
  ∃ d cs, e = .returned (.agg cs.toArray) ∧ Drawn k d ∧ OwnT k (fun q => w.heap.size ≤ q ∧ q < w'.heap.size) w' d cs ∧ Dr code p w w'
theorem Dr.fin {code : List UInt8} {p H : Nat} {w w1 wF : World} (h : Dr code p w w1) (hA : Aside (fun b => b = H) w1 wF) (hH : w.heap.size ≤ H) (hp : p < w.heap.size) : Dr code p w wF :=
  ⟨⟨hA.os.trans h.aside.os, hA.tape.trans h.aside.tape, hA.output.trans h.aside.output, Nat.le_trans h.size hA.size, fun b hb hn => (hA.block b (Nat.lt_of_lt_of_le hb h.size) (by omega)).trans (h.aside.block b hb hn)⟩,
    h.cur.keep (fun b hb => hA.block b (by have := h.cur.lt; omega) (by omega))⟩
theorem Drawn.le {k : Nat} {d : TreeD} (h : Drawn k d) (hk : k ≤ 4) : sizeT k d ≤ 1048576 := by
  have h2 := h.size
  rcases (show k = 0 ∨ k = 1 ∨ k = 2 ∨ k = 3 ∨ k = 4 by omega) with rfl | rfl | rfl | rfl | rfl
  all_goals exact Nat.le_trans h2 (by decide)
theorem i64_0 : I64 0 := by unfold I64; decide
theorem drawn_null {k : Nat} : Drawn (k + 1) ⟨1, false, 0, ⟨#[]⟩, [], []⟩ := drawn_leaf (by unfold badH inB; simp) word_none rfl rfl rfl i64_0 (by rw [sayL_succ, if_pos rfl]; decide)
theorem drawn_flag {k : Nat} (x : Bool) : Drawn (k + 1) ⟨2, x, 0, ⟨#[]⟩, [], []⟩ := drawn_leaf (by unfold badH inB; simp) word_none rfl rfl rfl i64_0 (by rw [sayL_succ, if_neg (show ¬ (2 : Int) = 1 by decide), if_pos rfl]; cases x <;> decide)
theorem drawn_int {k : Nat} {n : Int} (h : I64 n) : Drawn (k + 1) ⟨3, false, n, ⟨#[]⟩, [], []⟩ := drawn_leaf (by unfold badH inB; simp) word_none rfl rfl rfl h (by rw [sayL_succ, if_neg (show ¬ (3 : Int) = 1 by decide), if_neg (show ¬ (3 : Int) = 2 by decide), if_pos rfl]; exact Nat.le_trans (Nat.le_of_eq Array.length_toList) (Nat.le_trans (decS_size n h) (by decide)))
theorem drawn_text {k : Nat} {s : ByteArray} (h : WordOk s) : Drawn (k + 1) ⟨4, false, 0, s, [], []⟩ := drawn_leaf (by unfold badH inB; simp) h rfl rfl rfl i64_0 (by rw [sayL_succ, if_neg (show ¬ (4 : Int) = 1 by decide), if_neg (show ¬ (4 : Int) = 2 by decide), if_neg (show ¬ (4 : Int) = 3 by decide), if_pos rfl]; exact h.quote)
theorem nums_ok {z : Int} (h : I64 z) : ∀ x ∈ ([0, 1, -1, 42, 9223372036854775807, -9223372036854775808, z] : List Int), I64 x := by
  intro x hx
  simp only [List.mem_cons, List.mem_nil_iff, or_false] at hx
  rcases hx with rfl | rfl | rfl | rfl | rfl | rfl | rfl
  all_goals first | exact h | (unfold I64; decide)
set_option maxHeartbeats 8000000 in
set_option maxRecDepth 20000 in
theorem c_tree_one (code : List UInt8) (p : Nat) (w : World) (h : CurAt code p w) : Calls Tryz.prog 43 #[.pointer (some ⟨p, 0, none⟩), .int .i64 1] w (DrT 1 code p w) := by
  have hpl := h.lt
  have hc := h.below (ext_alloc (o := (.cells #[.int .i64 0, .bool false, .int .i64 0, .string ⟨#[]⟩, .slice none 0 0, .slice none 0 0] 27)) (Below.refl w.heap.size w))
  go_enter Tryz.func43, Tryz.ntmps43
  go_wp2_with fail
  refine (c_l01Below code p 9 _ hc (by omega)).mono ?_
  rintro e w1 ⟨x, rfl, hx0, hx1, -, hd⟩
  have hx2 := hx1 (by decide)
  have hc1 := hd.cur
  have HD := Lib.hid hd
  clear hd hx1 hc
  have hx : x = 0 ∨ x = 1 ∨ x = 2 ∨ x = 3 ∨ x = 4 ∨ x = 5 ∨ x = 6 ∨ x = 7 ∨ x = 8 := by omega
  clear hx0 hx2
  rcases hx with q0 | q1 | q2 | q3 | q4 | q5 | q6 | q7 | q8
  · subst q0
    have hZ := (HD.out.block (g := w.heap.size) (by simp) (by omega)).trans (heap_at (w := w) (o := (.cells #[.int .i64 0, .bool false, .int .i64 0, .string ⟨#[]⟩, .slice none 0 0, .slice none 0 0] 27)) rfl)
    obtain ⟨z0, z1, z2, z3, z4, z5, zf⟩ := row6 hZ
    have zl := row_lt hZ
    go_wp2_with fail
    refine bodyPost_ret (v := .agg #[.int .i64 1, .bool false, .int .i64 0, .string ⟨#[]⟩, .slice none 0 0, .slice none 0 0]) (by simp only [results, Tryz.results43]; go_simp) rfl ⟨⟨1, false, 0, ⟨#[]⟩, [], []⟩, _, rfl, drawn_null, own_leaf (by unfold I64; decide) i64_0 (by decide), HD.out.cut.fin (H := w.heap.size) (by repeat (first | (with_reducible exact Aside.refl _ _) | ((with_reducible refine aside_set ?_ ?_); (focus (simp; done))) | (with_reducible refine aside_alloc ?_))) (Nat.le_refl _) hpl⟩
  · subst q1
    go_wp2_with fail
    refine (c_l01Once code p 2 _ hc1 (by omega)).mono ?_
    rintro e w2 ⟨x, rfl, hd2⟩
    have hd3 := HD.out.trans hd2
    have hZ := (hd3.block (g := w.heap.size) (by simp) (by omega)).trans (heap_at (w := w) (o := (.cells #[.int .i64 0, .bool false, .int .i64 0, .string ⟨#[]⟩, .slice none 0 0, .slice none 0 0] 27)) rfl)
    obtain ⟨z0, z1, z2, z3, z4, z5, zf⟩ := row6 hZ
    have zl := row_lt hZ
    have HD2 := Lib.hid hd3.cut
    clear hd2 hd3
    go_wp2_with fail
    refine bodyPost_ret (v := .agg #[.int .i64 2, .bool x, .int .i64 0, .string ⟨#[]⟩, .slice none 0 0, .slice none 0 0]) (by simp only [results, Tryz.results43]; go_simp) rfl ⟨⟨2, x, 0, ⟨#[]⟩, [], []⟩, _, rfl, drawn_flag x, own_leaf (by unfold I64; decide) i64_0 (by decide), HD2.out.fin (H := w.heap.size) (by repeat (first | (with_reducible exact Aside.refl _ _) | ((with_reducible refine aside_set ?_ ?_); (focus (simp; done))) | (with_reducible refine aside_alloc ?_))) (Nat.le_refl _) hpl⟩
  · subst q2
    go_wp2_with fail
    refine (c_l02Num code p _ hc1).mono ?_
    rintro e w2 ⟨z, rfl, hz, hd2⟩
    have hall : ∀ x ∈ ([0, 1, -1, 42, 9223372036854775807, -9223372036854775808, z] : List Int), I64 x := nums_ok hz
    have Hall := Lib.hid hall
    have hd3 := HD.out.trans hd2
    have HD2 := Lib.hid hd3
    have hc2 := hd2.cur
    have hpl2 := hc2.lt
    clear hd2 hd3 hz hall
    go_wp2_with fail
    refine (c_l01PickInt code p ([0, 1, -1, 42, 9223372036854775807, -9223372036854775808, z] : List Int) _ w2.heap.size (w2.alloc (.cells #[.int .i64 0, .int .i64 1, .int .i64 (-1), .int .i64 42, .int .i64 9223372036854775807, .int .i64 (-9223372036854775808), .int .i64 z] 3)) (hc2.below (ext_alloc (Below.refl _ _))) (sl_ints w2 ([0, 1, -1, 42, 9223372036854775807, -9223372036854775808, z] : List Int) (by simp) 3 _ rfl) hpl2 (by simp) (by simp)).mono ?_
    rintro e w3 ⟨y, rfl, hy, hd4⟩
    have hd5 := HD2.out.trans (Dr.cut hd4)
    have HY := Lib.hid (Hall.out y hy)
    have HD3 := Lib.hid hd5
    clear hd4 hd5 hy hc2
    go_wp2_with fail
    refine (c_rs_IntTree y _).mono ?_
    rintro e w4 ⟨rfl, hb4⟩
    have hd6 := HD3.out.step hb4
    have hZ := (hd6.block (g := w.heap.size) (by simp) (by omega)).trans (heap_at (w := w) (o := (.cells #[.int .i64 0, .bool false, .int .i64 0, .string ⟨#[]⟩, .slice none 0 0, .slice none 0 0] 27)) rfl)
    obtain ⟨z0, z1, z2, z3, z4, z5, zf⟩ := row6 hZ
    have zl := row_lt hZ
    have HD4 := Lib.hid hd6.cut
    clear hb4 hd6
    go_wp2_with fail
    refine bodyPost_ret (v := .agg #[.int .i64 3, .bool false, .int .i64 y, .string ⟨#[]⟩, .slice none 0 0, .slice none 0 0]) (by simp only [results, Tryz.results43]; go_simp) rfl ⟨⟨3, false, y, ⟨#[]⟩, [], []⟩, _, rfl, drawn_int HY.out, own_leaf (by unfold I64; decide) HY.out (by decide), HD4.out.fin (H := w.heap.size) (by repeat (first | (with_reducible exact Aside.refl _ _) | ((with_reducible refine aside_set ?_ ?_); (focus (simp; done))) | (with_reducible refine aside_alloc ?_))) (Nat.le_refl _) hpl⟩
  · subst q3
    go_wp2_with fail
    refine (c_l02Num code p _ hc1).mono ?_
    rintro e w2 ⟨z, rfl, hz, hd2⟩
    have hall : ∀ x ∈ ([0, 1, -1, 42, 9223372036854775807, -9223372036854775808, z] : List Int), I64 x := nums_ok hz
    have Hall := Lib.hid hall
    have hd3 := HD.out.trans hd2
    have HD2 := Lib.hid hd3
    have hc2 := hd2.cur
    have hpl2 := hc2.lt
    clear hd2 hd3 hz hall
    go_wp2_with fail
    refine (c_l01PickInt code p ([0, 1, -1, 42, 9223372036854775807, -9223372036854775808, z] : List Int) _ w2.heap.size (w2.alloc (.cells #[.int .i64 0, .int .i64 1, .int .i64 (-1), .int .i64 42, .int .i64 9223372036854775807, .int .i64 (-9223372036854775808), .int .i64 z] 3)) (hc2.below (ext_alloc (Below.refl _ _))) (sl_ints w2 ([0, 1, -1, 42, 9223372036854775807, -9223372036854775808, z] : List Int) (by simp) 3 _ rfl) hpl2 (by simp) (by simp)).mono ?_
    rintro e w3 ⟨y, rfl, hy, hd4⟩
    have hd5 := HD2.out.trans (Dr.cut hd4)
    have HY := Lib.hid (Hall.out y hy)
    have HD3 := Lib.hid hd5
    clear hd4 hd5 hy hc2
    go_wp2_with fail
    refine (c_rs_IntTree y _).mono ?_
    rintro e w4 ⟨rfl, hb4⟩
    have hd6 := HD3.out.step hb4
    have hZ := (hd6.block (g := w.heap.size) (by simp) (by omega)).trans (heap_at (w := w) (o := (.cells #[.int .i64 0, .bool false, .int .i64 0, .string ⟨#[]⟩, .slice none 0 0, .slice none 0 0] 27)) rfl)
    obtain ⟨z0, z1, z2, z3, z4, z5, zf⟩ := row6 hZ
    have zl := row_lt hZ
    have HD4 := Lib.hid hd6.cut
    clear hb4 hd6
    go_wp2_with fail
    refine bodyPost_ret (v := .agg #[.int .i64 3, .bool false, .int .i64 y, .string ⟨#[]⟩, .slice none 0 0, .slice none 0 0]) (by simp only [results, Tryz.results43]; go_simp) rfl ⟨⟨3, false, y, ⟨#[]⟩, [], []⟩, _, rfl, drawn_int HY.out, own_leaf (by unfold I64; decide) HY.out (by decide), HD4.out.fin (H := w.heap.size) (by repeat (first | (with_reducible exact Aside.refl _ _) | ((with_reducible refine aside_set ?_ ?_); (focus (simp; done))) | (with_reducible refine aside_alloc ?_))) (Nat.le_refl _) hpl⟩
  · subst q4
    go_wp2_with fail
    refine (c_l08Word code p _ hc1).mono ?_
    rintro e w2 ⟨s, rfl, hs, hd2⟩
    have hd3 := HD.out.trans hd2
    have HW := Lib.hid hs
    have HD2 := Lib.hid hd3
    clear hd2 hd3 hs
    go_wp2_with fail
    refine (c_rs_TextTree s _).mono ?_
    rintro e w4 ⟨rfl, hb4⟩
    have hd6 := HD2.out.step hb4
    have hZ := (hd6.block (g := w.heap.size) (by simp) (by omega)).trans (heap_at (w := w) (o := (.cells #[.int .i64 0, .bool false, .int .i64 0, .string ⟨#[]⟩, .slice none 0 0, .slice none 0 0] 27)) rfl)
    obtain ⟨z0, z1, z2, z3, z4, z5, zf⟩ := row6 hZ
    have zl := row_lt hZ
    have HD4 := Lib.hid hd6.cut
    clear hb4 hd6
    go_wp2_with fail
    refine bodyPost_ret (v := .agg #[.int .i64 4, .bool false, .int .i64 0, .string s, .slice none 0 0, .slice none 0 0]) (by simp only [results, Tryz.results43]; go_simp) rfl ⟨⟨4, false, 0, s, [], []⟩, _, rfl, drawn_text HW.out, own_leaf (by unfold I64; decide) i64_0 (Nat.le_trans HW.out.2 (by decide)), HD4.out.fin (H := w.heap.size) (by repeat (first | (with_reducible exact Aside.refl _ _) | ((with_reducible refine aside_set ?_ ?_); (focus (simp; done))) | (with_reducible refine aside_alloc ?_))) (Nat.le_refl _) hpl⟩
  · subst q5
    go_wp2_with fail
    refine (c_l08Word code p _ hc1).mono ?_
    rintro e w2 ⟨s, rfl, hs, hd2⟩
    have hd3 := HD.out.trans hd2
    have HW := Lib.hid hs
    have HD2 := Lib.hid hd3
    clear hd2 hd3 hs
    go_wp2_with fail
    refine (c_rs_TextTree s _).mono ?_
    rintro e w4 ⟨rfl, hb4⟩
    have hd6 := HD2.out.step hb4
    have hZ := (hd6.block (g := w.heap.size) (by simp) (by omega)).trans (heap_at (w := w) (o := (.cells #[.int .i64 0, .bool false, .int .i64 0, .string ⟨#[]⟩, .slice none 0 0, .slice none 0 0] 27)) rfl)
    obtain ⟨z0, z1, z2, z3, z4, z5, zf⟩ := row6 hZ
    have zl := row_lt hZ
    have HD4 := Lib.hid hd6.cut
    clear hb4 hd6
    go_wp2_with fail
    refine bodyPost_ret (v := .agg #[.int .i64 4, .bool false, .int .i64 0, .string s, .slice none 0 0, .slice none 0 0]) (by simp only [results, Tryz.results43]; go_simp) rfl ⟨⟨4, false, 0, s, [], []⟩, _, rfl, drawn_text HW.out, own_leaf (by unfold I64; decide) i64_0 (Nat.le_trans HW.out.2 (by decide)), HD4.out.fin (H := w.heap.size) (by repeat (first | (with_reducible exact Aside.refl _ _) | ((with_reducible refine aside_set ?_ ?_); (focus (simp; done))) | (with_reducible refine aside_alloc ?_))) (Nat.le_refl _) hpl⟩
  · subst q6
    have hZ := (HD.out.block (g := w.heap.size) (by simp) (by omega)).trans (heap_at (w := w) (o := (.cells #[.int .i64 0, .bool false, .int .i64 0, .string ⟨#[]⟩, .slice none 0 0, .slice none 0 0] 27)) rfl)
    obtain ⟨z0, z1, z2, z3, z4, z5, zf⟩ := row6 hZ
    have zl := row_lt hZ
    go_wp2_with fail
    refine bodyPost_ret (v := .agg #[.int .i64 1, .bool false, .int .i64 0, .string ⟨#[]⟩, .slice none 0 0, .slice none 0 0]) (by simp only [results, Tryz.results43]; go_simp) rfl ⟨⟨1, false, 0, ⟨#[]⟩, [], []⟩, _, rfl, drawn_null, own_leaf (by unfold I64; decide) i64_0 (by decide), HD.out.cut.fin (H := w.heap.size) (by repeat (first | (with_reducible exact Aside.refl _ _) | ((with_reducible refine aside_set ?_ ?_); (focus (simp; done))) | (with_reducible refine aside_alloc ?_))) (Nat.le_refl _) hpl⟩
  · subst q7
    go_wp2_with fail
    refine (c_l01Once code p 2 _ hc1 (by omega)).mono ?_
    rintro e w2 ⟨x, rfl, hd2⟩
    have hd3 := HD.out.trans hd2
    have hZ := (hd3.block (g := w.heap.size) (by simp) (by omega)).trans (heap_at (w := w) (o := (.cells #[.int .i64 0, .bool false, .int .i64 0, .string ⟨#[]⟩, .slice none 0 0, .slice none 0 0] 27)) rfl)
    obtain ⟨z0, z1, z2, z3, z4, z5, zf⟩ := row6 hZ
    have zl := row_lt hZ
    have HD2 := Lib.hid hd3.cut
    clear hd2 hd3
    go_wp2_with fail
    refine bodyPost_ret (v := .agg #[.int .i64 2, .bool x, .int .i64 0, .string ⟨#[]⟩, .slice none 0 0, .slice none 0 0]) (by simp only [results, Tryz.results43]; go_simp) rfl ⟨⟨2, x, 0, ⟨#[]⟩, [], []⟩, _, rfl, drawn_flag x, own_leaf (by unfold I64; decide) i64_0 (by decide), HD2.out.fin (H := w.heap.size) (by repeat (first | (with_reducible exact Aside.refl _ _) | ((with_reducible refine aside_set ?_ ?_); (focus (simp; done))) | (with_reducible refine aside_alloc ?_))) (Nat.le_refl _) hpl⟩
  · subst q8
    go_wp2_with fail
    refine (c_l02Num code p _ hc1).mono ?_
    rintro e w2 ⟨z, rfl, hz, hd2⟩
    have hall : ∀ x ∈ ([0, 1, -1, 42, 9223372036854775807, -9223372036854775808, z] : List Int), I64 x := nums_ok hz
    have Hall := Lib.hid hall
    have hd3 := HD.out.trans hd2
    have HD2 := Lib.hid hd3
    have hc2 := hd2.cur
    have hpl2 := hc2.lt
    clear hd2 hd3 hz hall
    go_wp2_with fail
    refine (c_l01PickInt code p ([0, 1, -1, 42, 9223372036854775807, -9223372036854775808, z] : List Int) _ w2.heap.size (w2.alloc (.cells #[.int .i64 0, .int .i64 1, .int .i64 (-1), .int .i64 42, .int .i64 9223372036854775807, .int .i64 (-9223372036854775808), .int .i64 z] 3)) (hc2.below (ext_alloc (Below.refl _ _))) (sl_ints w2 ([0, 1, -1, 42, 9223372036854775807, -9223372036854775808, z] : List Int) (by simp) 3 _ rfl) hpl2 (by simp) (by simp)).mono ?_
    rintro e w3 ⟨y, rfl, hy, hd4⟩
    have hd5 := HD2.out.trans (Dr.cut hd4)
    have HY := Lib.hid (Hall.out y hy)
    have HD3 := Lib.hid hd5
    clear hd4 hd5 hy hc2
    go_wp2_with fail
    refine (c_rs_IntTree y _).mono ?_
    rintro e w4 ⟨rfl, hb4⟩
    have hd6 := HD3.out.step hb4
    have hZ := (hd6.block (g := w.heap.size) (by simp) (by omega)).trans (heap_at (w := w) (o := (.cells #[.int .i64 0, .bool false, .int .i64 0, .string ⟨#[]⟩, .slice none 0 0, .slice none 0 0] 27)) rfl)
    obtain ⟨z0, z1, z2, z3, z4, z5, zf⟩ := row6 hZ
    have zl := row_lt hZ
    have HD4 := Lib.hid hd6.cut
    clear hb4 hd6
    go_wp2_with fail
    refine bodyPost_ret (v := .agg #[.int .i64 3, .bool false, .int .i64 y, .string ⟨#[]⟩, .slice none 0 0, .slice none 0 0]) (by simp only [results, Tryz.results43]; go_simp) rfl ⟨⟨3, false, y, ⟨#[]⟩, [], []⟩, _, rfl, drawn_int HY.out, own_leaf (by unfold I64; decide) HY.out (by decide), HD4.out.fin (H := w.heap.size) (by repeat (first | (with_reducible exact Aside.refl _ _) | ((with_reducible refine aside_set ?_ ?_); (focus (simp; done))) | (with_reducible refine aside_alloc ?_))) (Nat.le_refl _) hpl⟩
theorem own_tlist {n base hi : Nat} {w wF : World} {l : List TreeD} {v : Value} {S : Nat → Prop} (h : GrowK n base hi w l v) (hF : ∀ q, base ≤ q → q < hi → wF.heap[q]? = w.heap[q]?) (hS : ∀ b, base ≤ b → b < hi → S b) :
    OwnT (n + 1) S wF (tList l) [.int .i64 5, .bool false, .int .i64 0, .string ⟨#[]⟩, .slice none 0 0, v] :=
  OwnT.into ⟨_, _, fun _ => False, fun b => base ≤ b ∧ b < hi, rfl, (show I64 5 from by unfold I64; decide), (show I64 0 from by unfold I64; decide), (show ByteArray.size ⟨#[]⟩ ≤ 9223372036854775807 from by decide), fun _ h => h.elim, fun b hb => hS b hb.1 hb.2,
    ⟨none, 0, rfl, Nat.le_refl _, by decide, fun h => by simp [tList] at h⟩, h.own.keep (fun b hb => hF b hb.1 hb.2) (fun _ h => h)⟩
theorem GrowK.carryD {code : List UInt8} {p n base hi : Nat} {w w' : World} {l : List TreeD} {v : Value} (h : GrowK n base hi w l v) (hd : Dr code p w w') (hp : p < base) (hh : hi ≤ w.heap.size) : GrowK n base hi w' l v := h.carry (Nat.le_refl _) (fun g h1 h2 => hd.block (g := g) (by omega) (by omega))
theorem set6_all {w : World} {b : Nat} {a0 a1 a2 a3 a4 a5 v0 v1 v2 v3 v4 v5 : Value} {e : TypeId} (h : w.heap[b]? = some (.cells #[a0, a1, a2, a3, a4, a5] e (0, 0))) :
    ((((((w.setCell ⟨b, 0, none⟩ v0).setCell ⟨b, 1, none⟩ v1).setCell ⟨b, 2, none⟩ v2).setCell ⟨b, 3, none⟩ v3).setCell ⟨b, 4, none⟩ v4).setCell ⟨b, 5, none⟩ v5).heap[b]? = some (.cells #[v0, v1, v2, v3, v4, v5] e (0, 0)) :=
  heap_setCell_same _ b 5 _ _ _ (heap_setCell_same _ b 4 _ _ _ (heap_setCell_same _ b 3 _ _ _ (heap_setCell_same _ b 2 _ _ _ (heap_setCell_same _ b 1 _ _ _ (heap_setCell_same w b 0 _ _ _ h)))))
set_option maxHeartbeats 16000000 in
set_option maxRecDepth 20000 in
theorem c_tree_more (k : Nat) (hk : k ≤ 2) (ih : ∀ (code : List UInt8) (p : Nat) (w : World), CurAt code p w → Calls Tryz.prog 43 #[.pointer (some ⟨p, 0, none⟩), .int .i64 ((k + 1 : Nat) : Int)] w (DrT (k + 1) code p w))
    (code : List UInt8) (p : Nat) (w : World) (h : CurAt code p w) : Calls Tryz.prog 43 #[.pointer (some ⟨p, 0, none⟩), .int .i64 ((k + 2 : Nat) : Int)] w (DrT (k + 2) code p w) := by
  obtain ⟨i0, hi, hz0, hz1, hz2⟩ := info_parts (show (Tryz.prog.info? 27).map (fun i => (i.zero, i.size, i.bytes)) = some (some (.agg #[.int .i64 0, .bool false, .int .i64 0, .string ⟨#[]⟩, .slice none 0 0, .slice none 0 0]), 6, 88) from by kernel_rfl)
  have hpl := h.lt
  have hc := h.below (ext_alloc (o := (.cells #[.int .i64 0, .bool false, .int .i64 0, .string ⟨#[]⟩, .slice none 0 0, .slice none 0 0] 27)) (Below.refl w.heap.size w))
  obtain ⟨D, hD⟩ : ∃ D : Int, D = ((k + 2 : Nat) : Int) := ⟨_, rfl⟩
  have hD1 : 2 ≤ D := by omega
  have hD4 : D ≤ 4 := by omega
  obtain ⟨E, hE⟩ : ∃ E : Int, E = ((k + 1 : Nat) : Int) := ⟨_, rfl⟩
  have hDs : Hid (D - 1 = E) := Lib.hid (by omega)
  have hEw : Hid (IntKind.i64.wrap (D - 1) = E) := Lib.hid (by rw [IntWalk.i64_in _ (by omega)]; omega)
  rw [← hE] at ih
  rw [← hD]
  clear hD hE
  have dD : decide (D ≤ 1) = false := decide_eq_false (by omega)
  go_enter Tryz.func43, Tryz.ntmps43
  go_wp2_with fail
  refine (c_l01Below code p 9 _ hc (by omega)).mono ?_
  rintro e w1 ⟨y, rfl, hy0, hy1, -, hd⟩
  have hy2 := hy1 (by decide)
  have hc1 := hd.cur
  have HD := Lib.hid hd
  have hz1' := hd.size
  simp at hz1'
  clear hd hy1 hc
  have hy : y = 0 ∨ y = 1 ∨ y = 2 ∨ y = 3 ∨ y = 4 ∨ y = 5 ∨ y = 6 ∨ 7 ≤ y := by omega
  rcases hy with q0 | q1 | q2 | q3 | q4 | q5 | q6 | q7
  · subst q0
    have hZ := (HD.out.block (g := w.heap.size) (by simp) (by omega)).trans (heap_at (w := w) (o := (.cells #[.int .i64 0, .bool false, .int .i64 0, .string ⟨#[]⟩, .slice none 0 0, .slice none 0 0] 27)) rfl)
    obtain ⟨z0, z1, z2, z3, z4, z5, zf⟩ := row6 hZ
    have zl := row_lt hZ
    go_wp2_with fail
    refine bodyPost_ret (v := .agg #[.int .i64 1, .bool false, .int .i64 0, .string ⟨#[]⟩, .slice none 0 0, .slice none 0 0]) (by simp only [results, Tryz.results43]; go_simp) rfl ⟨⟨1, false, 0, ⟨#[]⟩, [], []⟩, _, rfl, drawn_null, own_leaf (by unfold I64; decide) i64_0 (by decide), HD.out.cut.fin (H := w.heap.size) (by repeat (first | (with_reducible exact Aside.refl _ _) | ((with_reducible refine aside_set ?_ ?_); (focus (simp; done))) | (with_reducible refine aside_alloc ?_))) (Nat.le_refl _) hpl⟩
  · subst q1
    go_wp2_with fail
    refine (c_l01Once code p 2 _ hc1 (by omega)).mono ?_
    rintro e w2 ⟨x, rfl, hd2⟩
    have hd3 := HD.out.trans hd2
    have hZ := (hd3.block (g := w.heap.size) (by simp) (by omega)).trans (heap_at (w := w) (o := (.cells #[.int .i64 0, .bool false, .int .i64 0, .string ⟨#[]⟩, .slice none 0 0, .slice none 0 0] 27)) rfl)
    obtain ⟨z0, z1, z2, z3, z4, z5, zf⟩ := row6 hZ
    have zl := row_lt hZ
    have HD2 := Lib.hid hd3.cut
    clear hd2 hd3
    go_wp2_with fail
    refine bodyPost_ret (v := .agg #[.int .i64 2, .bool x, .int .i64 0, .string ⟨#[]⟩, .slice none 0 0, .slice none 0 0]) (by simp only [results, Tryz.results43]; go_simp) rfl ⟨⟨2, x, 0, ⟨#[]⟩, [], []⟩, _, rfl, drawn_flag x, own_leaf (by unfold I64; decide) i64_0 (by decide), HD2.out.fin (H := w.heap.size) (by repeat (first | (with_reducible exact Aside.refl _ _) | ((with_reducible refine aside_set ?_ ?_); (focus (simp; done))) | (with_reducible refine aside_alloc ?_))) (Nat.le_refl _) hpl⟩
  · subst q2
    go_wp2_with fail
    refine (c_l02Num code p _ hc1).mono ?_
    rintro e w2 ⟨z, rfl, hz, hd2⟩
    have hall : ∀ x ∈ ([0, 1, -1, 42, 9223372036854775807, -9223372036854775808, z] : List Int), I64 x := nums_ok hz
    have Hall := Lib.hid hall
    have hd3 := HD.out.trans hd2
    have HD2 := Lib.hid hd3
    have hc2 := hd2.cur
    have hpl2 := hc2.lt
    clear hd2 hd3 hz hall
    go_wp2_with fail
    refine (c_l01PickInt code p ([0, 1, -1, 42, 9223372036854775807, -9223372036854775808, z] : List Int) _ w2.heap.size (w2.alloc (.cells #[.int .i64 0, .int .i64 1, .int .i64 (-1), .int .i64 42, .int .i64 9223372036854775807, .int .i64 (-9223372036854775808), .int .i64 z] 3)) (hc2.below (ext_alloc (Below.refl _ _))) (sl_ints w2 ([0, 1, -1, 42, 9223372036854775807, -9223372036854775808, z] : List Int) (by simp) 3 _ rfl) hpl2 (by simp) (by simp)).mono ?_
    rintro e w3 ⟨y, rfl, hy, hd4⟩
    have hd5 := HD2.out.trans (Dr.cut hd4)
    have HY := Lib.hid (Hall.out y hy)
    have HD3 := Lib.hid hd5
    clear hd4 hd5 hy hc2
    go_wp2_with fail
    refine (c_rs_IntTree y _).mono ?_
    rintro e w4 ⟨rfl, hb4⟩
    have hd6 := HD3.out.step hb4
    have hZ := (hd6.block (g := w.heap.size) (by simp) (by omega)).trans (heap_at (w := w) (o := (.cells #[.int .i64 0, .bool false, .int .i64 0, .string ⟨#[]⟩, .slice none 0 0, .slice none 0 0] 27)) rfl)
    obtain ⟨z0, z1, z2, z3, z4, z5, zf⟩ := row6 hZ
    have zl := row_lt hZ
    have HD4 := Lib.hid hd6.cut
    clear hb4 hd6
    go_wp2_with fail
    refine bodyPost_ret (v := .agg #[.int .i64 3, .bool false, .int .i64 y, .string ⟨#[]⟩, .slice none 0 0, .slice none 0 0]) (by simp only [results, Tryz.results43]; go_simp) rfl ⟨⟨3, false, y, ⟨#[]⟩, [], []⟩, _, rfl, drawn_int HY.out, own_leaf (by unfold I64; decide) HY.out (by decide), HD4.out.fin (H := w.heap.size) (by repeat (first | (with_reducible exact Aside.refl _ _) | ((with_reducible refine aside_set ?_ ?_); (focus (simp; done))) | (with_reducible refine aside_alloc ?_))) (Nat.le_refl _) hpl⟩
  · subst q3
    go_wp2_with fail
    refine (c_l02Num code p _ hc1).mono ?_
    rintro e w2 ⟨z, rfl, hz, hd2⟩
    have hall : ∀ x ∈ ([0, 1, -1, 42, 9223372036854775807, -9223372036854775808, z] : List Int), I64 x := nums_ok hz
    have Hall := Lib.hid hall
    have hd3 := HD.out.trans hd2
    have HD2 := Lib.hid hd3
    have hc2 := hd2.cur
    have hpl2 := hc2.lt
    clear hd2 hd3 hz hall
    go_wp2_with fail
    refine (c_l01PickInt code p ([0, 1, -1, 42, 9223372036854775807, -9223372036854775808, z] : List Int) _ w2.heap.size (w2.alloc (.cells #[.int .i64 0, .int .i64 1, .int .i64 (-1), .int .i64 42, .int .i64 9223372036854775807, .int .i64 (-9223372036854775808), .int .i64 z] 3)) (hc2.below (ext_alloc (Below.refl _ _))) (sl_ints w2 ([0, 1, -1, 42, 9223372036854775807, -9223372036854775808, z] : List Int) (by simp) 3 _ rfl) hpl2 (by simp) (by simp)).mono ?_
    rintro e w3 ⟨y, rfl, hy, hd4⟩
    have hd5 := HD2.out.trans (Dr.cut hd4)
    have HY := Lib.hid (Hall.out y hy)
    have HD3 := Lib.hid hd5
    clear hd4 hd5 hy hc2
    go_wp2_with fail
    refine (c_rs_IntTree y _).mono ?_
    rintro e w4 ⟨rfl, hb4⟩
    have hd6 := HD3.out.step hb4
    have hZ := (hd6.block (g := w.heap.size) (by simp) (by omega)).trans (heap_at (w := w) (o := (.cells #[.int .i64 0, .bool false, .int .i64 0, .string ⟨#[]⟩, .slice none 0 0, .slice none 0 0] 27)) rfl)
    obtain ⟨z0, z1, z2, z3, z4, z5, zf⟩ := row6 hZ
    have zl := row_lt hZ
    have HD4 := Lib.hid hd6.cut
    clear hb4 hd6
    go_wp2_with fail
    refine bodyPost_ret (v := .agg #[.int .i64 3, .bool false, .int .i64 y, .string ⟨#[]⟩, .slice none 0 0, .slice none 0 0]) (by simp only [results, Tryz.results43]; go_simp) rfl ⟨⟨3, false, y, ⟨#[]⟩, [], []⟩, _, rfl, drawn_int HY.out, own_leaf (by unfold I64; decide) HY.out (by decide), HD4.out.fin (H := w.heap.size) (by repeat (first | (with_reducible exact Aside.refl _ _) | ((with_reducible refine aside_set ?_ ?_); (focus (simp; done))) | (with_reducible refine aside_alloc ?_))) (Nat.le_refl _) hpl⟩
  · subst q4
    go_wp2_with fail
    refine (c_l08Word code p _ hc1).mono ?_
    rintro e w2 ⟨s, rfl, hs, hd2⟩
    have hd3 := HD.out.trans hd2
    have HW := Lib.hid hs
    have HD2 := Lib.hid hd3
    clear hd2 hd3 hs
    go_wp2_with fail
    refine (c_rs_TextTree s _).mono ?_
    rintro e w4 ⟨rfl, hb4⟩
    have hd6 := HD2.out.step hb4
    have hZ := (hd6.block (g := w.heap.size) (by simp) (by omega)).trans (heap_at (w := w) (o := (.cells #[.int .i64 0, .bool false, .int .i64 0, .string ⟨#[]⟩, .slice none 0 0, .slice none 0 0] 27)) rfl)
    obtain ⟨z0, z1, z2, z3, z4, z5, zf⟩ := row6 hZ
    have zl := row_lt hZ
    have HD4 := Lib.hid hd6.cut
    clear hb4 hd6
    go_wp2_with fail
    refine bodyPost_ret (v := .agg #[.int .i64 4, .bool false, .int .i64 0, .string s, .slice none 0 0, .slice none 0 0]) (by simp only [results, Tryz.results43]; go_simp) rfl ⟨⟨4, false, 0, s, [], []⟩, _, rfl, drawn_text HW.out, own_leaf (by unfold I64; decide) i64_0 (Nat.le_trans HW.out.2 (by decide)), HD4.out.fin (H := w.heap.size) (by repeat (first | (with_reducible exact Aside.refl _ _) | ((with_reducible refine aside_set ?_ ?_); (focus (simp; done))) | (with_reducible refine aside_alloc ?_))) (Nat.le_refl _) hpl⟩
  · subst q5
    go_wp2_with fail
    refine (c_l08Word code p _ hc1).mono ?_
    rintro e w2 ⟨s, rfl, hs, hd2⟩
    have hd3 := HD.out.trans hd2
    have HW := Lib.hid hs
    have HD2 := Lib.hid hd3
    clear hd2 hd3 hs
    go_wp2_with fail
    refine (c_rs_TextTree s _).mono ?_
    rintro e w4 ⟨rfl, hb4⟩
    have hd6 := HD2.out.step hb4
    have hZ := (hd6.block (g := w.heap.size) (by simp) (by omega)).trans (heap_at (w := w) (o := (.cells #[.int .i64 0, .bool false, .int .i64 0, .string ⟨#[]⟩, .slice none 0 0, .slice none 0 0] 27)) rfl)
    obtain ⟨z0, z1, z2, z3, z4, z5, zf⟩ := row6 hZ
    have zl := row_lt hZ
    have HD4 := Lib.hid hd6.cut
    clear hb4 hd6
    go_wp2_with fail
    refine bodyPost_ret (v := .agg #[.int .i64 4, .bool false, .int .i64 0, .string s, .slice none 0 0, .slice none 0 0]) (by simp only [results, Tryz.results43]; go_simp) rfl ⟨⟨4, false, 0, s, [], []⟩, _, rfl, drawn_text HW.out, own_leaf (by unfold I64; decide) i64_0 (Nat.le_trans HW.out.2 (by decide)), HD4.out.fin (H := w.heap.size) (by repeat (first | (with_reducible exact Aside.refl _ _) | ((with_reducible refine aside_set ?_ ?_); (focus (simp; done))) | (with_reducible refine aside_alloc ?_))) (Nat.le_refl _) hpl⟩
  · subst q6
    clear hy0 hy2
    go_wp2_with fail
    go_loopw [6, 7] (fun s6 s7 wr => ∃ (i c : Nat) (A : Option Addr) (l : List TreeD), i ≤ 3 ∧ s7 = .int .i64 i ∧ s6 = .slice A i c ∧ l.length = i ∧ GrowK (k + 1) w1.heap.size wr.heap.size wr l (.slice A i c) ∧ (∀ t ∈ l, Drawn (k + 1) t) ∧ wr.heap[w.heap.size]? = some (.cells #[.int .i64 0, .bool false, .int .i64 0, .string ⟨#[]⟩, .slice none 0 0, .slice none 0 0] 27 (0, 0)) ∧ Dr code p w wr ∧ w1.heap.size ≤ wr.heap.size) (fun _ s7 _ => 4 - (intOf s7).toNat)
    case atStart =>
      exact ⟨0, 0, _, [], Nat.zero_le _, rfl, rfl, rfl, GrowK.empty rfl (Nat.le_refl _), fun t ht => (by cases ht), (Below.heap_alloc _ _ _ (by omega)).trans ((HD.out.block (g := w.heap.size) (by simp) (by omega)).trans (heap_at rfl)), HD.out.cut.alloc _, by simp⟩
    case round =>
      obtain ⟨i, c, A, l, hi3, rfl, rfl, hl, hG, hall, hZ, hdr, hws⟩ := hrel
      have HG := Lib.hid hG
      have HA := Lib.hid hall
      have HZ := Lib.hid hZ
      have HR := Lib.hid hdr
      have HL := Lib.hid hl
      have hcr := hdr.cur
      clear hG hall hZ hdr hl hc1
      go_wp2_with fail
      refine (c_l01Below code p 4 _ hcr (by omega)).mono ?_
      rintro e w2 ⟨x, rfl, hx0, hx1, -, hd2⟩
      have hx2 := hx1 (by decide)
      have hc2 := hd2.cur
      have HG2 := Lib.hid (HG.out.carryD hd2 (by omega) (Nat.le_refl _))
      have HZ2 := Lib.hid ((hd2.block (g := w.heap.size) (by omega) (by omega)).trans HZ.out)
      have HR2 := Lib.hid (HR.out.trans hd2)
      have hs2 := hd2.size
      clear hd2 hx1 hcr
      by_cases hlt : (i : Int) < x
      · have dlt : decide ((i : Int) < x) = true := decide_eq_true hlt
        go_wp2_with fail
        rw [hDs.out]
        refine (ih code p _ hc2).mono ?_
        rintro e w9 ⟨t, es, rfl, hT, hO, hd9⟩
        obtain ⟨fA4, fc4, fA5, fc5, rfl, -⟩ := hO.flat
        have HT := Lib.hid hT
        have HO := Lib.hid hO
        have hs9 := hd9.size
        have HG9 := HG2.out.carryD hd9 (by omega) hs2
        have HZ9 := Lib.hid ((hd9.block (g := w.heap.size) (by omega) (by omega)).trans HZ2.out)
        have HR9 := Lib.hid (HR2.out.trans hd9)
        have hcl := hd9.cur.lt
        obtain ⟨ess, F, e1, e2, e3, e4, e5, e6, e7⟩ := HG9
        rw [HL.out] at e3
        have E := Lib.hid (And.intro e1 (And.intro e2 (And.intro e3 (And.intro e4 (And.intro e5 (And.intro e6 e7))))))
        have Hown := Lib.hid (fun q (hq : (Value.slice A i c).ownBlock = some q) => (e3.lt q hq).1)
        clear hT hO hd9 hc2 e1 e2 e3 e4 e5 e6 e7
        go_wp2_with (at_builtin; refine wpList_append_lies _ rfl (.tmp 53) (.tmp 58) 25 rfl w1.heap.size 27 i0 (.agg #[.int .i64 0, .bool false, .int .i64 0, .string ⟨#[]⟩, .slice none 0 0, .slice none 0 0]) 6 88 Tryz.underlying25 hi hz0 hz1 hz2 rfl (by decide) _ i ess.flatten rfl (E.out.2.2.1.alloc _) _ 1 1 [.int .i64 t.kind, .bool t.flag, .int .i64 t.num, .string t.text, .slice fA4 t.keys.length fc4, .slice fA5 t.kids.length fc5] rfl rfl (World.news_of_block (heap_at (by simp))) HO.out.one (by decide) (by unfold maxLen; omega) (by omega) (by simp; omega) _ rfl ?_)
        intro g cap w3 hown hgrow hat hlt3
        have hs3 := hgrow.size
        simp at hs3
        have hP := GrowK.push (n := k + 1) (base := w1.heap.size) (hi := wr.heap.size) (w := w9.alloc (.cells #[.int .i64 t.kind, .bool t.flag, .int .i64 t.num, .string t.text, .slice fA4 t.keys.length fc4, .slice fA5 t.kids.length fc5] 27)) (S := fun b => w2.heap.size ≤ b ∧ b < w9.heap.size) i HL.out (by simp; omega) (HO.out.carry (fun b hb => Below.heap_alloc _ _ b hb.2) (fun b hb => hb)) (fun b hb => by simp; omega) hws ess F E.out.1 E.out.2.1 E.out.2.2.2.1 E.out.2.2.2.2.1 E.out.2.2.2.2.2.1
          (fun j d' es' h1 h2 => (E.out.2.2.2.2.2.2 j d' es' h1 h2).carry (fun b hb => Below.heap_alloc _ _ b (by have := (E.out.2.2.2.2.1 j b hb).2.1; omega)) (fun _ h => h)) hown hgrow (hat.imp id (fun h => by (try simp at h); (try simp); omega)) hlt3
        have HP := Lib.hid hP
        have hno : ∀ q, q < w1.heap.size → (Value.slice A i c).ownBlock ≠ some q := fun q hq e => by have := Hown.out q e; omega
        have HZ3 := Lib.hid (((hgrow.block w.heap.size (by simp; omega) (fun e => hno _ (by omega) e.symm)).trans (Below.heap_alloc _ _ _ (by omega))).trans HZ9.out)
        have hb3 : Below w1.heap.size w9 w3 := Below.grown (B := w1.heap.size) ((Below.refl _ _).alloc (by omega) _) hgrow (by simp; omega) (fun q hq => Hown.out q hq)
        have HR3 := Lib.hid (HR9.out.low (hb3.mono (by omega)) hpl)
        clear hgrow hown hat hP hno
        go_wp2_with fail
        go_roundw
        case rel => exact ⟨i + 1, cap, _, l ++ [t], by omega, by go_num, rfl, by rw [List.length_append, HL.out]; rfl, HP.out, fun u hu => by rcases List.mem_append.1 hu with hu | hu; exact HA.out u hu; (simp at hu; rw [hu]; exact HT.out), HZ3.out, HR3.out, by omega⟩
        case measure => first | omega | (simp [Lib.intOf]; omega) | (simp [intOf]; omega)
      · have dlt : decide ((i : Int) < x) = false := decide_eq_false hlt
        have hl := HL.out
        subst hl
        have hfit := ((drawn_list (k := k) (by omega) HA.out).fits (by omega)).1
        have HC := Lib.hid ((own_tlist (S := fun q => w1.heap.size ≤ q ∧ q < wr.heap.size) HG2.out (wF := w2) (fun _ _ _ => rfl) (fun b h1 h2 => ⟨h1, h2⟩)).toC (lo := 0) (hi := w2.heap.size) (fun b hb => ⟨Nat.zero_le _, by omega⟩))
        go_wp2_with fail
        refine (c_ListTreeG (k + 1) l A c w2 0 HC.out hfit).mono ?_
        rintro e w5 ⟨cs5, rfl, hO5, hb5⟩
        obtain ⟨C4, d4, C5, d5, rfl, -⟩ := hO5.flat
        have HO5 := Lib.hid hO5
        have HD5 := Lib.hid (HR2.out.step hb5)
        have hZ5 := (hb5.block w.heap.size (by omega)).trans HZ2.out
        obtain ⟨z0, z1, z2, z3, z4, z5, zf⟩ := row6 hZ5
        have zl := row_lt hZ5
        have HDr := Lib.hid (drawn_list (k := k) (by omega) HA.out)
        clear hO5 hb5 hZ5 hfit
        go_wp2_with fail
        refine bodyPost_ret (v := .agg #[.int .i64 (tList l).kind, .bool (tList l).flag, .int .i64 (tList l).num, .string (tList l).text, .slice C4 (tList l).keys.length d4, .slice C5 (tList l).kids.length d5]) (by simp only [results, Tryz.results43]; go_simp) rfl ⟨tList l, _, rfl, HDr.out, HO5.out.carry (fun b hb => Aside.block (S := fun b => b = w.heap.size) (w := w5) (by repeat (first | (with_reducible exact Aside.refl _ _) | ((with_reducible refine aside_set ?_ ?_); (focus (simp; done))) | (with_reducible refine aside_alloc ?_))) b hb.2 (by have := hb.1; omega)) (fun b hb => by have q1 := hb.1; have q2 := hb.2; (try simp); omega), HD5.out.fin (H := w.heap.size) (by repeat (first | (with_reducible exact Aside.refl _ _) | ((with_reducible refine aside_set ?_ ?_); (focus (simp; done))) | (with_reducible refine aside_alloc ?_))) (Nat.le_refl _) hpl⟩
  · have f0 : (y == 0) = false := beq_eq_false_iff_ne.2 (by omega)
    have f1 : (y == 1) = false := beq_eq_false_iff_ne.2 (by omega)
    have f2 : (y == 2) = false := beq_eq_false_iff_ne.2 (by omega)
    have f3 : (y == 3) = false := beq_eq_false_iff_ne.2 (by omega)
    have f4 : (y == 4) = false := beq_eq_false_iff_ne.2 (by omega)
    have f5 : (y == 5) = false := beq_eq_false_iff_ne.2 (by omega)
    have f6 : (y == 6) = false := beq_eq_false_iff_ne.2 (by omega)
    clear hy0 hy2 q7
    go_wp2_with fail
    go_loopw [9] (fun s9 wr => ∃ (i c4 c5 : Nat) (A4 A5 : Option Addr) (K : List ByteArray) (V : List TreeD), i ≤ 4 ∧ s9 = .int .i64 i ∧ wr.heap[w1.heap.size]? = some (.cells #[.int .i64 6, .bool false, .int .i64 0, .string ⟨#[]⟩, .slice A4 K.length c4, .slice A5 V.length c5] 27 (0, 0)) ∧ OwnT (k + 2) (fun q => w1.heap.size < q ∧ q < wr.heap.size) wr (tMap K V) [.int .i64 6, .bool false, .int .i64 0, .string ⟨#[]⟩, .slice A4 K.length c4, .slice A5 V.length c5] ∧ MapD (k + 1) i K V ∧ wr.heap[w.heap.size]? = some (.cells #[.int .i64 0, .bool false, .int .i64 0, .string ⟨#[]⟩, .slice none 0 0, .slice none 0 0] 27 (0, 0)) ∧ Dr code p w wr) (fun s9 _ => 5 - (intOf s9).toNat)
    case atStart =>
      exact ⟨0, 0, 0, none, none, [], [], Nat.zero_le _, rfl, heap_at rfl, own_leaf (by unfold I64; decide) i64_0 (by decide), MapD.nil _, (Below.heap_alloc _ _ _ (by omega)).trans ((HD.out.block (g := w.heap.size) (by simp) (by omega)).trans (heap_at rfl)), HD.out.cut.alloc _⟩
    case round =>
      clear f0 f1 f2 f3 f4 f5 f6
      obtain ⟨i, c4, c5, A4, A5, K, V, hi4, rfl, hB, hO, hM, hZ, hdr⟩ := hrel
      have HB := Lib.hid hB
      have HO := Lib.hid hO
      have HM := Lib.hid hM
      have HZ := Lib.hid hZ
      have HR := Lib.hid hdr
      have hcr := hdr.cur
      have hbl := row_lt hB
      clear hB hO hM hZ hdr hc1
      go_wp2_with fail
      refine (c_l01Below code p 5 _ hcr (by omega)).mono ?_
      rintro e w2 ⟨x, rfl, hx0, hx1, -, hd2⟩
      have hx2 := hx1 (by decide)
      have HC2 := Lib.hid hd2.cur
      have HB2 := Lib.hid ((hd2.block (g := w1.heap.size) hbl (by omega)).trans HB.out)
      have HZ2 := Lib.hid ((hd2.block (g := w.heap.size) (by omega) (by omega)).trans HZ.out)
      have HR2 := Lib.hid (HR.out.trans hd2)
      have hs2 := hd2.size
      have HO2 := Lib.hid (HO.out.carry (S' := fun q => w1.heap.size < q ∧ q < w2.heap.size) (fun b hb => hd2.block (g := b) hb.2 (by have := hb.1; omega)) (fun b hb => ⟨hb.1, by have := hb.2; omega⟩))
      clear hd2 hx1 hcr
      obtain ⟨x0, x1, x2', x3, x4, x5, xf⟩ := row6 HB2.out
      have xl := row_lt HB2.out
      by_cases hlt : (i : Int) < x
      · have dlt : decide ((i : Int) < x) = true := decide_eq_true hlt
        have hxp : w1.heap.size ≠ p := by omega
        have hDw := hEw.out
        have hz2b : sizeT (k + 2) (tMap K V) ≤ 1073741824 ∧ nTree (k + 2) (tMap K V) ≤ 1048576 := by have h9 := (drawn_map (HM.out.more (m' := 4) (by omega))).fits (by omega); exact ⟨h9.2.1, h9.1⟩
        obtain ⟨hz2, hn2⟩ := hz2b
        go_wp2_with fail
        go_region_law (first | (go_simp; go_at_call 77; refine (c_l08Word code p _ (HC2.out.below bel)).mono ?_; rintro e wa ⟨s, rfl, hs, hda⟩; obtain ⟨p0, p1, p2, p3, p4, p5, pf⟩ := row6 ((hda.block (g := w1.heap.size) xl hxp).trans HB2.out); have pxl : w1.heap.size < wa.heap.size := Nat.lt_of_lt_of_le xl hda.size) | (go_simp; go_at_call 43; refine (ih code p _ (hda.cur.below bel)).mono ?_; rintro e wb ⟨t, es, rfl, hT, hOt, hdb⟩; obtain ⟨tA4, tc4, tA5, tc5, rfl, -⟩ := hOt.flat; obtain ⟨r0, r1, r2, r3, r4, r5, rf⟩ := row6 ((hdb.block (g := w1.heap.size) pxl hxp).trans ((hda.block (g := w1.heap.size) xl hxp).trans HB2.out)); have rxl : w1.heap.size < wb.heap.size := Nat.lt_of_lt_of_le pxl hdb.size) | (go_simp; go_at_call 79; refine (c_PutKid (k + 1) (tMap K V) t _ _ s _ 0 (((HO2.out.carry (S' := fun q => q < wb.heap.size) (fun b hb => (hdb.block (g := b) (Nat.lt_of_lt_of_le hb.2 hda.size) (by have := hb.1; omega)).trans (hda.block (g := b) hb.2 (by have := hb.1; omega))) (fun b hb => Nat.lt_of_lt_of_le hb.2 (Nat.le_trans hda.size hdb.size))).toC (lo := 0) (hi := wb.heap.size) (fun b hb => ⟨Nat.zero_le _, hb⟩)).now bel) ((hOt.toC (lo := 0) (hi := wb.heap.size) (fun b hb => ⟨Nat.zero_le _, hb.2⟩)).now bel) (Nat.le_trans hs.2 (by decide)) hz2 (hT.le (by omega)) hn2 (hT.fits (by omega)).1).mono ?_; rintro e wd ⟨cs3, rfl, hO3, hbd⟩; obtain ⟨K3, V3, hput, hM3⟩ := HM.out.put (n := k + 2) hs hT; rw [hput] at hO3; obtain ⟨B4, b4, B5, b5, rfl, -⟩ := hO3.flat; obtain ⟨v0, v1, v2, v3, v4, v5, vf⟩ := row6 ((hbd.block w1.heap.size rxl).trans ((hdb.block (g := w1.heap.size) pxl hxp).trans ((hda.block (g := w1.heap.size) xl hxp).trans HB2.out))); have vxl : w1.heap.size < wd.heap.size := Nat.lt_of_lt_of_le rxl hbd.size))
        all_goals
          have q1 := hda.size
          have q2 := hdb.size
          have q3 := hbd.size
          have HDa := (HR2.out.step (bel : Below w2.heap.size w2 _)).trans hda
          have HDb := (HDa.step (bel : Below wa.heap.size wa _)).trans hdb
          have HDd := Lib.hid (HDb.step hbd)
          have HZd := Lib.hid ((hbd.block w.heap.size (by omega)).trans ((hdb.block (g := w.heap.size) (by (try simp); omega) (by omega)).trans ((hda.block (g := w.heap.size) (by (try simp); omega) (by omega)).trans HZ2.out)))
          have HBd := Lib.hid ((hbd.block w1.heap.size rxl).trans ((hdb.block (g := w1.heap.size) pxl hxp).trans ((hda.block (g := w1.heap.size) xl hxp).trans HB2.out)))
          have HO3 := Lib.hid hO3
          have HM3 := Lib.hid hM3
          clear HDa HDb hbd hdb hda hO3 hM3 hput hT hOt hs
          go_wp2_with fail
          go_roundw
          case rel => exact ⟨i + 1, b4, b5, B4, B5, K3, V3, by omega, by go_num, set6_all HBd.out, HO3.out.carry (fun b hb => Aside.block (S := fun b => b = w1.heap.size) (w := wd) (by repeat (first | (with_reducible exact Aside.refl _ _) | ((with_reducible refine aside_set ?_ ?_); (focus (simp; done))) | (with_reducible refine aside_alloc ?_))) b hb.2 (by have q5 := hb.1; (try simp at q5); omega)) (fun b hb => by have q5 := hb.1; have q6 := hb.2; (try simp at q5); (try simp); omega), HM3.out, Eq.trans (Aside.block (S := fun b => b = w1.heap.size) (w := wd) (by repeat (first | (with_reducible exact Aside.refl _ _) | ((with_reducible refine aside_set ?_ ?_); (focus (simp; done))) | (with_reducible refine aside_alloc ?_))) w.heap.size (by omega) (by omega)) HZd.out, HDd.out.fin (H := w1.heap.size) (by repeat (first | (with_reducible exact Aside.refl _ _) | ((with_reducible refine aside_set ?_ ?_); (focus (simp; done))) | (with_reducible refine aside_alloc ?_))) (by omega) hpl⟩
          case measure => first | omega | (simp [Lib.intOf]; omega) | (simp [intOf]; omega)
      · have dlt : decide ((i : Int) < x) = false := decide_eq_false hlt
        obtain ⟨z0, z1, z2, z3, z4, z5, zf⟩ := row6 HZ2.out
        have zl := row_lt HZ2.out
        have HDr := Lib.hid (drawn_map (HM.out.more (m' := 4) (by omega)))
        go_wp2_with fail
        refine bodyPost_ret (v := .agg #[.int .i64 6, .bool false, .int .i64 0, .string ⟨#[]⟩, .slice A4 K.length c4, .slice A5 V.length c5]) (by simp only [results, Tryz.results43]; go_simp) rfl ⟨tMap K V, _, rfl, HDr.out, HO2.out.carry (fun b hb => Aside.block (S := fun b => b = w.heap.size) (w := w2) (by repeat (first | (with_reducible exact Aside.refl _ _) | ((with_reducible refine aside_set ?_ ?_); (focus (simp; done))) | (with_reducible refine aside_alloc ?_))) b hb.2 (by have := hb.1; omega)) (fun b hb => by have q1 := hb.1; have q2 := hb.2; (try simp); omega), HR2.out.fin (H := w.heap.size) (by repeat (first | (with_reducible exact Aside.refl _ _) | ((with_reducible refine aside_set ?_ ?_); (focus (simp; done))) | (with_reducible refine aside_alloc ?_))) (Nat.le_refl _) hpl⟩
theorem all_tree : ∀ k, k ≤ 3 → ∀ (code : List UInt8) (p : Nat) (w : World), CurAt code p w → Calls Tryz.prog 43 #[.pointer (some ⟨p, 0, none⟩), .int .i64 ((k + 1 : Nat) : Int)] w (DrT (k + 1) code p w)
  | 0, _, code, p, w, h => c_tree_one code p w h
  | k + 1, hk, code, p, w, h => c_tree_more k (by omega) (all_tree k (by omega)) code p w h
end Go.Proofs.YtffelpdefjkeaaaGreatDoor
namespace Go.Proofs.YtffelpdefjkeaaaGreatDoor
open Go.RowKit Go.Lib
theorem costX_num {x : SignD} (h : x.kind = 8) : costX x = (decS x.num).data.toList.length := by unfold costX; rw [if_neg (by omega), if_pos h]
theorem costX_text {x : SignD} (h : x.kind = 7) : costX x = (quoteB x.text).data.toList.length := by unfold costX; rw [if_pos h]
set_option maxHeartbeats 1000000 in
theorem readJ_ok (L : List SignD) (E : Int) (hG : ∀ x ∈ L, goodX x) : ∀ (n : Nat) (j : Job) (p m : Nat) (t : TreeD) (q m' : Nat), readJ L E n j p m = .good t q m' → m ≤ 300 → JobOk L j p m t q m'
  | 0, j, p, m, t, q, m', h, _ => by rw [readJ.eq_def] at h; cases j <;> cases h
  | n + 1, .value d, p, m, t, q, m', h, hm => by
    rw [readJ_value] at h
    by_cases c1 : ¬ (kindAt L p = 1 ∨ kindAt L p = 3 ∨ 7 ≤ kindAt L p)
    · rw [if_pos c1] at h; cases h
    rw [if_neg c1] at h
    by_cases c2 : 8 < d
    · rw [if_pos c2] at h; cases h
    rw [if_neg c2] at h
    by_cases c3 : 300 ≤ m
    · rw [if_pos c3] at h; cases h
    rw [if_neg c3] at h
    rcases hx : L[p]? with _ | x
    · rw [hx] at h; cases h
    rw [hx] at h
    simp only at h
    have hC := CL_succ hx
    have hg := hG x (List.mem_of_getElem? hx)
    intro N hN
    obtain ⟨N, rfl⟩ : ∃ M, N = M + 1 := ⟨N - 1, by omega⟩
    by_cases c4 : x.kind = 7
    · rw [if_pos c4] at h
      by_cases c5 : 400 < x.text.size
      · rw [if_pos c5] at h; cases h
      rw [if_neg c5] at h
      cases h
      have hst : strB x.text = true := by unfold strB; rw [hg.1 c4, decide_eq_true (by omega)]; rfl
      obtain ⟨h1, h2⟩ := leaf_ok (N := N) (d := d) (t := tText x.text) (by omega) (by unfold badH tText inB; simp) hst (by unfold lensOk tText; simp) rfl rfl i64_zero
      refine ⟨h1, by rw [h2], by omega, ?_⟩
      rw [hC, costX_text c4]
      exact Nat.le_refl _
    rw [if_neg c4] at h
    by_cases c6 : x.kind = 8
    · rw [if_pos c6] at h
      cases h
      obtain ⟨h1, h2⟩ := leaf_ok (N := N) (d := d) (t := tInt x.num) (by omega) (by unfold badH tInt inB; simp) strB_empty (by unfold lensOk tInt; simp) rfl rfl hg.2.1
      refine ⟨h1, by rw [h2], by omega, ?_⟩
      rw [hC, costX_num c6]
      exact Nat.le_refl _
    rw [if_neg c6] at h
    by_cases c7 : x.kind = 11
    · rw [if_pos c7] at h
      cases h
      obtain ⟨h1, h2⟩ := leaf_ok (N := N) (d := d) (t := tNull) (by omega) (by unfold badH tNull inB; simp) strB_empty (by unfold lensOk tNull; simp) rfl rfl i64_zero
      refine ⟨h1, by rw [h2], by omega, ?_⟩
      have hc : costX x = 4 := by unfold costX; rw [if_neg c4, if_neg c6, if_neg (by omega), if_pos (.inr c7)]
      rw [hC, hc]
      exact Nat.le_refl _
    rw [if_neg c7] at h
    by_cases c8 : x.kind = 3
    · rw [if_pos c8] at h
      have hk3 : kindAt L p = 3 := by unfold kindAt; rw [hx]; exact c8
      have hC3 := CL_mark hk3 (by omega)
      by_cases c9 : kindAt L (p + 1) = 4
      · rw [if_pos c9] at h
        cases h
        obtain ⟨h1, h2⟩ := leaf_ok (N := N) (d := d) (t := tList []) (by omega) (by unfold badH tList inB; simp) strB_empty (by unfold lensOk tList; simp) rfl rfl i64_zero
        refine ⟨h1, by rw [h2], by omega, ?_⟩
        have hC4 := CL_mark c9 (by omega)
        rw [show p + 2 = p + 1 + 1 from rfl, hC4, hC3]
        exact Nat.le_refl _
      · rw [if_neg c9] at h
        obtain ⟨more, g1, g2, g3, g4, g5, g6⟩ := readJ_ok L E hG n _ _ _ _ _ _ h (by omega) N (by omega)
        rw [List.nil_append] at g2
        subst g2
        refine ⟨list_ok (by omega) g3, ?_, g5, ?_⟩
        · rw [sizeT_succ]
          show m' = m + (1 + szL (sizeT N) more)
          omega
        · rw [list_len g1]
          omega
    rw [if_neg c8] at h
    by_cases c10 : x.kind = 1
    · rw [if_pos c10] at h
      have hk1 : kindAt L p = 1 := by unfold kindAt; rw [hx]; exact c10
      have hC1 := CL_mark hk1 (by omega)
      by_cases c9 : kindAt L (p + 1) = 2
      · rw [if_pos c9] at h
        cases h
        obtain ⟨h1, h2⟩ := leaf_ok (N := N) (d := d) (t := tMap [] []) (by omega) (by unfold badH tMap inB; simp) strB_empty (by unfold lensOk tMap; simp) rfl rfl i64_zero
        refine ⟨h1, by rw [h2], by omega, ?_⟩
        have hC4 := CL_mark c9 (by omega)
        rw [show p + 2 = p + 1 + 1 from rfl, hC4, hC1]
        exact Nat.le_refl _
      · rw [if_neg c9] at h
        obtain ⟨ks, l, g1, g2, g3, g4, g5, g6, g7, g8, g9⟩ := readJ_ok L E hG n _ _ _ _ _ _ h (by omega) N (by omega) rfl List.Pairwise.nil (fun k hk => by cases hk) (fun k hk => by cases hk)
        subst g1
        simp only [szL] at g7 g9
        refine ⟨map_ok (by omega) g2 g4 g5 g6, ?_, g8, ?_⟩
        · rw [sizeT_succ]
          show m' = m + (1 + szL (sizeT N) l)
          omega
        · rw [map_len g3 g2]
          omega
    rw [if_neg c10] at h
    cases h
    have hk : 7 ≤ x.kind := by
      have : kindAt L p = x.kind := by unfold kindAt; rw [hx]
      omega
    obtain ⟨h1, h2⟩ := leaf_ok (N := N) (d := d) (t := tFlag (x.kind == 9)) (by omega) (by unfold badH tFlag inB; simp) strB_empty (by unfold lensOk tFlag; simp) rfl rfl i64_zero
    refine ⟨h1, by rw [h2], by omega, ?_⟩
    have hk11 := hg.2.2
    by_cases c11 : x.kind = 9
    · have hc : costX x = 4 := by unfold costX; rw [if_neg c4, if_neg c6, if_neg (by omega), if_pos (.inl c11)]
      rw [hC, hc, c11]
      exact Nat.le_refl _
    · have c12 : x.kind = 10 := by omega
      have hc : costX x = 5 := by unfold costX; rw [if_neg c4, if_neg c6, if_pos c12]
      rw [hC, hc, c12]
      exact Nat.le_refl _
  | n + 1, .list d acc, p, m, t, q, m', h, hm => by
    rw [readJ_list] at h
    rcases hr : readJ L E n (.value (d + 1)) p m with f | ⟨u, q1, m1⟩
    · rw [hr] at h; cases h
    rw [hr] at h
    simp only at h
    have hv := readJ_ok L E hG n _ _ _ _ _ _ hr hm
    intro N hN
    obtain ⟨v1, v2, v3, v4⟩ := hv N (by omega)
    by_cases c1 : kindAt L q1 = 4
    · rw [if_pos c1] at h
      cases h
      have hC := CL_mark c1 (by omega)
      refine ⟨[u], by simp, rfl, fun x hx => by simp at hx; rw [hx]; exact v1, by simp [szL]; omega, v3, ?_⟩
      simp only [szL]
      omega
    · rw [if_neg c1] at h
      by_cases c2 : kindAt L q1 = 6
      · rw [if_pos c2] at h
        have hC := CL_mark c2 (by omega)
        obtain ⟨more, g1, g2, g3, g4, g5, g6⟩ := readJ_ok L E hG n _ _ _ _ _ _ h v3 N hN
        refine ⟨u :: more, by simp, by rw [g2, List.append_assoc]; rfl, fun x hx => ?_, ?_, g5, ?_⟩
        · rcases List.mem_cons.1 hx with rfl | hx
          · exact v1
          · exact g3 x hx
        · simp only [szL]; omega
        · simp only [szL]; omega
      · rw [if_neg c2] at h; cases h
  | n + 1, .pairs d ks acc, p, m, t, q, m', h, hm => by
    rw [readJ_pairs] at h
    rcases hx : L[p]? with _ | x
    · rw [hx] at h; cases h
    rw [hx] at h
    simp only at h
    by_cases c1 : x.kind ≠ 7
    · rw [if_pos c1] at h; cases h
    rw [if_neg c1] at h
    by_cases c2 : 400 < x.text.size
    · rw [if_pos c2] at h; cases h
    rw [if_neg c2] at h
    by_cases c3 : ks.contains x.text = true
    · rw [if_pos c3] at h; cases h
    rw [if_neg c3] at h
    by_cases c4 : kindAt L (p + 1) ≠ 5
    · rw [if_pos c4] at h; cases h
    rw [if_neg c4] at h
    rcases hr : readJ L E n (.value (d + 1)) (p + 2) m with f | ⟨u, q1, m1⟩
    · rw [hr] at h; cases h
    rw [hr] at h
    simp only at h
    have hv := readJ_ok L E hG n _ _ _ _ _ _ hr hm
    have c7 : x.kind = 7 := by omega
    have hg := hG x (List.mem_of_getElem? hx)
    have hst : strB x.text = true := by unfold strB; rw [hg.1 c7, decide_eq_true (by omega)]; rfl
    have hC1 := CL_succ hx
    rw [costX_text c7] at hC1
    have hC2 := CL_mark (p := p + 1) (L := L) (k := 5) (by omega) (by omega)
    have hql : qlen x.text = (quoteB x.text).data.toList.length + 1 := rfl
    have e2 : p + 2 = p + 1 + 1 := rfl
    intro N hN hlen hso hks hacc
    obtain ⟨v1, v2, v3, v4⟩ := hv N (by omega)
    rw [e2] at v4
    have hle := posK_le ks x.text
    have hno : hasS ks x.text = false := by rw [← contains_hasS]; simpa using c3
    have i1 : (insL ks (posK ks x.text) x.text).length = (insL acc (posK ks x.text) u).length := by rw [ins_len hle, ins_len (by omega), hlen]
    have i2 := ins_sorted hso hno
    have i3 : ∀ k ∈ insL ks (posK ks x.text) x.text, strB k = true := fun k hk => by
      unfold insL at hk
      rcases List.mem_append.1 hk with hk | hk
      · exact hks k (List.mem_of_mem_take hk)
      · rcases List.mem_cons.1 hk with rfl | hk
        · exact hst
        · exact hks k (List.mem_of_mem_drop hk)
    have i4 : ∀ y ∈ insL acc (posK ks x.text) u, VOk N (d + 1) y := fun y hy => by
      unfold insL at hy
      rcases List.mem_append.1 hy with hy | hy
      · exact hacc y (List.mem_of_mem_take hy)
      · rcases List.mem_cons.1 hy with rfl | hy
        · exact v1
        · exact hacc y (List.mem_of_mem_drop hy)
    have z1 := szL_ins qlen ks (posK ks x.text) x.text
    have z2 := szL_ins (sizeT N) acc (posK ks x.text) u
    have z3 := szL_ins (fun x => (sayL N x).length + 1) acc (posK ks x.text) u
    by_cases c5 : kindAt L q1 = 2
    · rw [if_pos c5] at h
      cases h
      have hC := CL_mark c5 (by omega)
      refine ⟨_, _, rfl, i1, ?_, i2, i3, i4, by omega, v3, by omega⟩
      intro e
      rw [ins_len (by omega : posK ks x.text ≤ acc.length)] at i1
      have := congrArg List.length e
      rw [ins_len (by omega : posK ks x.text ≤ acc.length)] at this
      simp at this
    · rw [if_neg c5] at h
      by_cases c6 : kindAt L q1 = 6
      · rw [if_pos c6] at h
        have hC := CL_mark c6 (by omega)
        obtain ⟨ks', l', g1, g2, g3, g4, g5, g6, g7, g8, g9⟩ := readJ_ok L E hG n _ _ _ _ _ _ h v3 N hN i1 i2 i3 i4
        exact ⟨ks', l', g1, g2, g3, g4, g5, g6, by omega, g8, by omega⟩
      · rw [if_neg c6] at h; cases h
/-- A text that is read tells a right tree, whose own text is no longer. -/
theorem readB_ok {s : ByteArray} (h : (readB s).1.code = 0) : okT 10 (readB s).2 = true ∧ numT 10 (readB s).2 ∧ (sayL 10 (readB s).2).length ≤ s.size ∧ s.size ≤ 20000 := by
  by_cases hf : (signsF s).2.code = 0
  · obtain ⟨hG, hc, hs⟩ := signsF_cost hf
    have h2 := readJ_good (signsF s).1 s.size (2 * (signsF s).1.length + 4) (.value 1) 0 0 (Nat.zero_le _) (Nat.zero_le _) (by unfold needJ; simp only; omega)
    rcases hq : readJ (signsF s).1 s.size (2 * (signsF s).1.length + 4) (.value 1) 0 0 with f | ⟨t, p, m⟩
    · rw [hq] at h2
      rw [readB_bad hf hq] at h
      exact absurd h h2
    · by_cases hp : p < (signsF s).1.length
      · rw [readB_more hf hq hp] at h
        exact absurd (show (4 : Int) = 0 from h) (by decide)
      · rw [readB_good hf hq hp]
        obtain ⟨v1, v2, v3, v4⟩ := readJ_ok _ _ hG _ _ _ _ _ _ _ hq (by omega) 10 rfl
        have hdeep := v1.deep
        refine ⟨?_, v1.num, ?_, hs⟩
        · unfold okT
          simp only
          rw [v1.shape, decide_eq_true (by omega), decide_eq_true (by omega)]
          rfl
        · have h3 : CL (signsF s).1 p ≤ szL costX (signsF s).1 := szL_take_le costX _ p
          have h4 : CL (signsF s).1 0 = 0 := rfl
          simp only
          omega
  · rw [readB_sign hf] at h
    exact absurd h hf
end Go.Proofs.YtffelpdefjkeaaaGreatDoor
namespace Go.Proofs.YtffelpdefjkeaaaGreatDoor
open Go.RowKit Go.Lib
theorem RdAtS.meas {L : List SignD} {E : Int} {b p m : Nat} {f : Flt} {w : World} (h : RdAtS L E b p m f w) (N : Nat) : rdM N b w = if f.code = 0 then N + 1 - p else 0 := by
  obtain ⟨A, c, h1, -, -⟩ := h
  unfold rdC at h1
  obtain ⟨a0, a1, a2, a3, a4, a5, a6, af⟩ := row7r h1
  unfold rdM
  rw [a4, a1]
  simp
end Go.Proofs.YtffelpdefjkeaaaGreatDoor
namespace Go.Proofs.YtffelpdefjkeaaaGreatDoor
open Go.RowKit
/-- Two values hold the keys ks and the kids whose cells are css, in rows of the call's own behind block base. -/
structure MapRows (base : Nat) (w : World) (ks : List ByteArray) (css : List (List Value)) (vk vl : Value) : Prop where
  keys : w.ownsRow base 9 1 vk ks.length (ks.map Value.string)
  kids : w.ownsRow base 27 6 vl css.length css.flatten
  six : ∀ es ∈ css, es.length = 6
  one : ∀ x ∈ css.flatten, x.oneCell' = true
end Go.Proofs.YtffelpdefjkeaaaGreatDoor
namespace Go.Proofs.YtffelpdefjkeaaaGreatDoor
open Go.RowKit Go.Lib
/-- The rows of a map under way. -/
theorem MapG.rows {nT base hi : Nat} {w : World} {ks : List ByteArray} {l : List TreeD} {vk vl : Value} {ess : List (List Value)} {F : Nat → Nat → Prop} (h : MapG nT base hi w ks l vk vl ess F) : MapRows base w ks ess vk vl :=
  ⟨h.keys, h.len ▸ h.kids, h.six, h.one⟩
end Go.Proofs.YtffelpdefjkeaaaGreatDoor
namespace Go.Proofs.YtffelpdefjkeaaaGreatDoor
open Go.RowKit Go.Lib
/-- The map's box is stored to as a whole. -/
theorem PBox.all {b : Nat} {w wx : World} {vk vl u v : Value} (h : PBox b w wx vk vl) : PBox b w ((((((wx.setCell ⟨w.heap.size + 1, 0, none⟩ (.int .i64 6)).setCell ⟨w.heap.size + 1, 1, none⟩ (.bool false)).setCell ⟨w.heap.size + 1, 2, none⟩ (.int .i64 0)).setCell ⟨w.heap.size + 1, 3, none⟩ (.string ⟨#[]⟩)).setCell ⟨w.heap.size + 1, 4, none⟩ u).setCell ⟨w.heap.size + 1, 5, none⟩ v) u v := by
  have h0 : PBox b w (wx.setCell ⟨w.heap.size + 1, 0, none⟩ (.int .i64 6)) vk vl := ⟨(Below.heap_setCell _ _ _ _ (by simp)).trans h.zero, heap_setCell_same wx (w.heap.size + 1) 0 _ _ _ h.map, aside_set (.inr (by simp)) h.aside⟩
  have h1 : PBox b w ((wx.setCell ⟨w.heap.size + 1, 0, none⟩ (.int .i64 6)).setCell ⟨w.heap.size + 1, 1, none⟩ (.bool false)) vk vl := ⟨(Below.heap_setCell _ _ _ _ (by simp)).trans h0.zero, heap_setCell_same _ (w.heap.size + 1) 1 _ _ _ h0.map, aside_set (.inr (by simp)) h0.aside⟩
  have h2 : PBox b w (((wx.setCell ⟨w.heap.size + 1, 0, none⟩ (.int .i64 6)).setCell ⟨w.heap.size + 1, 1, none⟩ (.bool false)).setCell ⟨w.heap.size + 1, 2, none⟩ (.int .i64 0)) vk vl := ⟨(Below.heap_setCell _ _ _ _ (by simp)).trans h1.zero, heap_setCell_same _ (w.heap.size + 1) 2 _ _ _ h1.map, aside_set (.inr (by simp)) h1.aside⟩
  have h3 : PBox b w ((((wx.setCell ⟨w.heap.size + 1, 0, none⟩ (.int .i64 6)).setCell ⟨w.heap.size + 1, 1, none⟩ (.bool false)).setCell ⟨w.heap.size + 1, 2, none⟩ (.int .i64 0)).setCell ⟨w.heap.size + 1, 3, none⟩ (.string ⟨#[]⟩)) vk vl := ⟨(Below.heap_setCell _ _ _ _ (by simp)).trans h2.zero, heap_setCell_same _ (w.heap.size + 1) 3 _ _ _ h2.map, aside_set (.inr (by simp)) h2.aside⟩
  exact h3.set4.set5
end Go.Proofs.YtffelpdefjkeaaaGreatDoor
