/- Steps to FnIndented. No conditions. -/
import Derived.Test.YtohcpifekcehjaaGreatDoorKfin10
import Derived.Test.YtohcpifekcehjaaGreatDoorKfin9
import Derived.Test.YtohcpifekcehjaaGreatDoorKfin6
import Derived.Test.YtohcpifekcehjaaGreatDoorKfin1
import Derived.Test.YtohcpifekcehjaaGreatDoorKfin7
import Derived.Deep.RegionLaw
import Derived.Deep.CutBlock
import Derived.Deep.CutRange
import Derived.Test.YtohcpifekcehjaaGreatDoorKfin8
import Derived.Test.YtohcpifekcehjaaGreatDoorKfin4
import Derived.Test.YtohcpifekcehjaaGreatDoorKfin2
import Derived.Lib.LazyBuf
import Derived.Test.YtohcpifekcehjaaGreatDoorKfin3
import Derived.Test.YtohcpifekcehjaaGreatDoorKfin5
set_option maxHeartbeats 16000000
set_option maxRecDepth 20000
namespace Go.Proofs.YtohcpifekcehjaaGreatDoor
open Go.RowKit Go.Lib
def DrT (k : Nat) (code : List UInt8) (p : Nat) (w : World) (e : Ending) (w' : World) : Prop :=
 ∃ d cs, e = .returned (.agg cs.toArray) /\ Drawn k d /\ OwnT k (fun q => w.heap.size <= q /\ q < w'.heap.size) w' d cs /\ Dr code p w w'
theorem Dr.fin {code : List UInt8} {p H : Nat} {w w1 wF : World} (h : Dr code p w w1) (hA : Aside (fun b => b = H) w1 wF) (hH : w.heap.size <= H) (hp : p < w.heap.size) : Dr code p w wF :=
 ⟨⟨hA.os.trans h.aside.os, hA.tape.trans h.aside.tape, hA.output.trans h.aside.output, Nat.le_trans h.size hA.size, fun b hb hn => (hA.block b (Nat.lt_of_lt_of_le hb h.size) (by omega)).trans (h.aside.block b hb hn)⟩,
  h.cur.keep (fun b hb => hA.block b (by have := h.cur.lt; omega) (by omega))⟩
theorem Drawn.le {k : Nat} {d : TreeD} (h : Drawn k d) (hk : k <= 4) : sizeT k d <= 1048576 := by
 have h2 := h.size
 rcases (show k = 0 ∨ k = 1 ∨ k = 2 ∨ k = 3 ∨ k = 4 by omega) with rfl | rfl | rfl | rfl | rfl
 all_goals exact Nat.le_trans h2 (by decide)
theorem i64_0 : I64 0 := by unfold I64; decide
theorem drawn_null {k : Nat} : Drawn (k + 1) ⟨1, false, 0, ⟨#[]⟩, [], []⟩ := drawn_leaf (by unfold badH inB; simp) word_none rfl rfl rfl i64_0 (by rw [sayL_succ, if_pos rfl]; decide)
theorem drawn_flag {k : Nat} (x : Bool) : Drawn (k + 1) ⟨2, x, 0, ⟨#[]⟩, [], []⟩ := drawn_leaf (by unfold badH inB; simp) word_none rfl rfl rfl i64_0 (by rw [sayL_succ, if_neg (show ¬ (2 : Int) = 1 by decide), if_pos rfl]; cases x <;> decide)
theorem drawn_int {k : Nat} {n : Int} (h : I64 n) : Drawn (k + 1) ⟨3, false, n, ⟨#[]⟩, [], []⟩ := drawn_leaf (by unfold badH inB; simp) word_none rfl rfl rfl h (by rw [sayL_succ, if_neg (show ¬ (3 : Int) = 1 by decide), if_neg (show ¬ (3 : Int) = 2 by decide), if_pos rfl]; exact Nat.le_trans (Nat.le_of_eq Array.length_toList) (Nat.le_trans (decS_size n h) (by decide)))
theorem drawn_text {k : Nat} {s : ByteArray} (h : WordOk s) : Drawn (k + 1) ⟨4, false, 0, s, [], []⟩ := drawn_leaf (by unfold badH inB; simp) h rfl rfl rfl i64_0 (by rw [sayL_succ, if_neg (show ¬ (4 : Int) = 1 by decide), if_neg (show ¬ (4 : Int) = 2 by decide), if_neg (show ¬ (4 : Int) = 3 by decide), if_pos rfl]; exact h.quote)
theorem nums_ok {z : Int} (h : I64 z) : ∀ x ∈ ([0, 1, -1, 42, 9223372036854775807, -9223372036854775808, z] : List Int), I64 x := by
 intro x hx
 simp only [List.mem_cons, List.mem_nil_iff, or_false] at hx
 rcases hx with rfl | rfl | rfl | rfl | rfl | rfl | rfl
 all_goals first | exact h | (unfold I64; decide)
theorem c_tree_one (code : List UInt8) (p : Nat) (w : World) (h : CurAt code p w) : Calls Tryz.prog 79 #[.pointer (some ⟨p, 0, none⟩), .int .i64 1] w (DrT 1 code p w) := by
 have hpl := h.lt
 have hc := h.below (ext_alloc (o := (.cells #[.int .i64 0, .bool false, .int .i64 0, .string ⟨#[]⟩, .slice none 0 0, .slice none 0 0] 34)) (Below.refl w.heap.size w))
 go_enter Tryz.func79, Tryz.ntmps79
 go_wp2_with fail
 refine (c_l01Below code p 9 _ hc (by omega)).mono ?_
 rintro e w1 ⟨x, rfl, hx0, hx1, -, hd⟩
 have hx2 := hx1 (by decide)
 have hc1 := hd.cur
 have HD := hid hd
 clear hd hx1 hc
 have hx : x = 0 ∨ x = 1 ∨ x = 2 ∨ x = 3 ∨ x = 4 ∨ x = 5 ∨ x = 6 ∨ x = 7 ∨ x = 8 := by omega
 clear hx0 hx2
 rcases hx with q0 | q1 | q2 | q3 | q4 | q5 | q6 | q7 | q8
 ·subst q0
  have hZ := (HD.out.block (g := w.heap.size) (by simp) (by omega)).trans (heap_at (w := w) (o := (.cells #[.int .i64 0, .bool false, .int .i64 0, .string ⟨#[]⟩, .slice none 0 0, .slice none 0 0] 34)) rfl)
  obtain ⟨z0, z1, z2, z3, z4, z5, zf⟩ := row6 hZ
  have zl := row_lt hZ
  go_wp2_with fail
  refine bodyPost_ret (v := .agg #[.int .i64 1, .bool false, .int .i64 0, .string ⟨#[]⟩, .slice none 0 0, .slice none 0 0]) (by simp only [results, Tryz.results79]; go_simp) rfl ⟨⟨1, false, 0, ⟨#[]⟩, [], []⟩, _, rfl, drawn_null, own_leaf (by unfold I64; decide) i64_0 (by decide), HD.out.cut.fin (H := w.heap.size) asd (Nat.le_refl _) hpl⟩
 ·subst q1
  go_wp2_with fail
  refine (c_l01Once code p 2 _ hc1 (by omega)).mono ?_
  rintro e w2 ⟨x, rfl, hd2⟩
  have hd3 := HD.out.trans hd2
  have hZ := (hd3.block (g := w.heap.size) (by simp) (by omega)).trans (heap_at (w := w) (o := (.cells #[.int .i64 0, .bool false, .int .i64 0, .string ⟨#[]⟩, .slice none 0 0, .slice none 0 0] 34)) rfl)
  obtain ⟨z0, z1, z2, z3, z4, z5, zf⟩ := row6 hZ
  have zl := row_lt hZ
  have HD2 := hid hd3.cut
  clear hd2 hd3
  go_wp2_with fail
  refine bodyPost_ret (v := .agg #[.int .i64 2, .bool x, .int .i64 0, .string ⟨#[]⟩, .slice none 0 0, .slice none 0 0]) (by simp only [results, Tryz.results79]; go_simp) rfl ⟨⟨2, x, 0, ⟨#[]⟩, [], []⟩, _, rfl, drawn_flag x, own_leaf (by unfold I64; decide) i64_0 (by decide), HD2.out.fin (H := w.heap.size) asd (Nat.le_refl _) hpl⟩
 ·subst q2
  go_wp2_with fail
  refine (c_l02Num code p _ hc1).mono ?_
  rintro e w2 ⟨z, rfl, hz, hd2⟩
  have hall : ∀ x ∈ ([0, 1, -1, 42, 9223372036854775807, -9223372036854775808, z] : List Int), I64 x := nums_ok hz
  have Hall := hid hall
  have hd3 := HD.out.trans hd2
  have HD2 := hid hd3
  have hc2 := hd2.cur
  have hpl2 := hc2.lt
  clear hd2 hd3 hz hall
  go_wp2_with fail
  refine (c_l01PickInt code p ([0, 1, -1, 42, 9223372036854775807, -9223372036854775808, z] : List Int) _ w2.heap.size (w2.alloc (.cells #[.int .i64 0, .int .i64 1, .int .i64 (-1), .int .i64 42, .int .i64 9223372036854775807, .int .i64 (-9223372036854775808), .int .i64 z] 3)) (hc2.below (ext_alloc (Below.refl _ _))) (sl_ints w2 ([0, 1, -1, 42, 9223372036854775807, -9223372036854775808, z] : List Int) (by simp) 3 _ rfl) hpl2 (by simp) (by simp)).mono ?_
  rintro e w3 ⟨y, rfl, hy, hd4⟩
  have hd5 := HD2.out.trans (Dr.cut hd4)
  have HY := hid (Hall.out y hy)
  have HD3 := hid hd5
  clear hd4 hd5 hy hc2
  go_wp2_with fail
  refine (c_rs_IntTree y _).mono ?_
  rintro e w4 ⟨rfl, hb4⟩
  have hd6 := HD3.out.step hb4
  have hZ := (hd6.block (g := w.heap.size) (by simp) (by omega)).trans (heap_at (w := w) (o := (.cells #[.int .i64 0, .bool false, .int .i64 0, .string ⟨#[]⟩, .slice none 0 0, .slice none 0 0] 34)) rfl)
  obtain ⟨z0, z1, z2, z3, z4, z5, zf⟩ := row6 hZ
  have zl := row_lt hZ
  have HD4 := hid hd6.cut
  clear hb4 hd6
  go_wp2_with fail
  refine bodyPost_ret (v := .agg #[.int .i64 3, .bool false, .int .i64 y, .string ⟨#[]⟩, .slice none 0 0, .slice none 0 0]) (by simp only [results, Tryz.results79]; go_simp) rfl ⟨⟨3, false, y, ⟨#[]⟩, [], []⟩, _, rfl, drawn_int HY.out, own_leaf (by unfold I64; decide) HY.out (by decide), HD4.out.fin (H := w.heap.size) asd (Nat.le_refl _) hpl⟩
 ·subst q3
  go_wp2_with fail
  refine (c_l02Num code p _ hc1).mono ?_
  rintro e w2 ⟨z, rfl, hz, hd2⟩
  have hall : ∀ x ∈ ([0, 1, -1, 42, 9223372036854775807, -9223372036854775808, z] : List Int), I64 x := nums_ok hz
  have Hall := hid hall
  have hd3 := HD.out.trans hd2
  have HD2 := hid hd3
  have hc2 := hd2.cur
  have hpl2 := hc2.lt
  clear hd2 hd3 hz hall
  go_wp2_with fail
  refine (c_l01PickInt code p ([0, 1, -1, 42, 9223372036854775807, -9223372036854775808, z] : List Int) _ w2.heap.size (w2.alloc (.cells #[.int .i64 0, .int .i64 1, .int .i64 (-1), .int .i64 42, .int .i64 9223372036854775807, .int .i64 (-9223372036854775808), .int .i64 z] 3)) (hc2.below (ext_alloc (Below.refl _ _))) (sl_ints w2 ([0, 1, -1, 42, 9223372036854775807, -9223372036854775808, z] : List Int) (by simp) 3 _ rfl) hpl2 (by simp) (by simp)).mono ?_
  rintro e w3 ⟨y, rfl, hy, hd4⟩
  have hd5 := HD2.out.trans (Dr.cut hd4)
  have HY := hid (Hall.out y hy)
  have HD3 := hid hd5
  clear hd4 hd5 hy hc2
  go_wp2_with fail
  refine (c_rs_IntTree y _).mono ?_
  rintro e w4 ⟨rfl, hb4⟩
  have hd6 := HD3.out.step hb4
  have hZ := (hd6.block (g := w.heap.size) (by simp) (by omega)).trans (heap_at (w := w) (o := (.cells #[.int .i64 0, .bool false, .int .i64 0, .string ⟨#[]⟩, .slice none 0 0, .slice none 0 0] 34)) rfl)
  obtain ⟨z0, z1, z2, z3, z4, z5, zf⟩ := row6 hZ
  have zl := row_lt hZ
  have HD4 := hid hd6.cut
  clear hb4 hd6
  go_wp2_with fail
  refine bodyPost_ret (v := .agg #[.int .i64 3, .bool false, .int .i64 y, .string ⟨#[]⟩, .slice none 0 0, .slice none 0 0]) (by simp only [results, Tryz.results79]; go_simp) rfl ⟨⟨3, false, y, ⟨#[]⟩, [], []⟩, _, rfl, drawn_int HY.out, own_leaf (by unfold I64; decide) HY.out (by decide), HD4.out.fin (H := w.heap.size) asd (Nat.le_refl _) hpl⟩
 ·subst q4
  go_wp2_with fail
  refine (c_l08Word code p _ hc1).mono ?_
  rintro e w2 ⟨s, rfl, hs, hd2⟩
  have hd3 := HD.out.trans hd2
  have HW := hid hs
  have HD2 := hid hd3
  clear hd2 hd3 hs
  go_wp2_with fail
  refine (c_rs_TextTree s _).mono ?_
  rintro e w4 ⟨rfl, hb4⟩
  have hd6 := HD2.out.step hb4
  have hZ := (hd6.block (g := w.heap.size) (by simp) (by omega)).trans (heap_at (w := w) (o := (.cells #[.int .i64 0, .bool false, .int .i64 0, .string ⟨#[]⟩, .slice none 0 0, .slice none 0 0] 34)) rfl)
  obtain ⟨z0, z1, z2, z3, z4, z5, zf⟩ := row6 hZ
  have zl := row_lt hZ
  have HD4 := hid hd6.cut
  clear hb4 hd6
  go_wp2_with fail
  refine bodyPost_ret (v := .agg #[.int .i64 4, .bool false, .int .i64 0, .string s, .slice none 0 0, .slice none 0 0]) (by simp only [results, Tryz.results79]; go_simp) rfl ⟨⟨4, false, 0, s, [], []⟩, _, rfl, drawn_text HW.out, own_leaf (by unfold I64; decide) i64_0 (Nat.le_trans HW.out.2 (by decide)), HD4.out.fin (H := w.heap.size) asd (Nat.le_refl _) hpl⟩
 ·subst q5
  go_wp2_with fail
  refine (c_l08Word code p _ hc1).mono ?_
  rintro e w2 ⟨s, rfl, hs, hd2⟩
  have hd3 := HD.out.trans hd2
  have HW := hid hs
  have HD2 := hid hd3
  clear hd2 hd3 hs
  go_wp2_with fail
  refine (c_rs_TextTree s _).mono ?_
  rintro e w4 ⟨rfl, hb4⟩
  have hd6 := HD2.out.step hb4
  have hZ := (hd6.block (g := w.heap.size) (by simp) (by omega)).trans (heap_at (w := w) (o := (.cells #[.int .i64 0, .bool false, .int .i64 0, .string ⟨#[]⟩, .slice none 0 0, .slice none 0 0] 34)) rfl)
  obtain ⟨z0, z1, z2, z3, z4, z5, zf⟩ := row6 hZ
  have zl := row_lt hZ
  have HD4 := hid hd6.cut
  clear hb4 hd6
  go_wp2_with fail
  refine bodyPost_ret (v := .agg #[.int .i64 4, .bool false, .int .i64 0, .string s, .slice none 0 0, .slice none 0 0]) (by simp only [results, Tryz.results79]; go_simp) rfl ⟨⟨4, false, 0, s, [], []⟩, _, rfl, drawn_text HW.out, own_leaf (by unfold I64; decide) i64_0 (Nat.le_trans HW.out.2 (by decide)), HD4.out.fin (H := w.heap.size) asd (Nat.le_refl _) hpl⟩
 ·subst q6
  have hZ := (HD.out.block (g := w.heap.size) (by simp) (by omega)).trans (heap_at (w := w) (o := (.cells #[.int .i64 0, .bool false, .int .i64 0, .string ⟨#[]⟩, .slice none 0 0, .slice none 0 0] 34)) rfl)
  obtain ⟨z0, z1, z2, z3, z4, z5, zf⟩ := row6 hZ
  have zl := row_lt hZ
  go_wp2_with fail
  refine bodyPost_ret (v := .agg #[.int .i64 1, .bool false, .int .i64 0, .string ⟨#[]⟩, .slice none 0 0, .slice none 0 0]) (by simp only [results, Tryz.results79]; go_simp) rfl ⟨⟨1, false, 0, ⟨#[]⟩, [], []⟩, _, rfl, drawn_null, own_leaf (by unfold I64; decide) i64_0 (by decide), HD.out.cut.fin (H := w.heap.size) asd (Nat.le_refl _) hpl⟩
 ·subst q7
  go_wp2_with fail
  refine (c_l01Once code p 2 _ hc1 (by omega)).mono ?_
  rintro e w2 ⟨x, rfl, hd2⟩
  have hd3 := HD.out.trans hd2
  have hZ := (hd3.block (g := w.heap.size) (by simp) (by omega)).trans (heap_at (w := w) (o := (.cells #[.int .i64 0, .bool false, .int .i64 0, .string ⟨#[]⟩, .slice none 0 0, .slice none 0 0] 34)) rfl)
  obtain ⟨z0, z1, z2, z3, z4, z5, zf⟩ := row6 hZ
  have zl := row_lt hZ
  have HD2 := hid hd3.cut
  clear hd2 hd3
  go_wp2_with fail
  refine bodyPost_ret (v := .agg #[.int .i64 2, .bool x, .int .i64 0, .string ⟨#[]⟩, .slice none 0 0, .slice none 0 0]) (by simp only [results, Tryz.results79]; go_simp) rfl ⟨⟨2, x, 0, ⟨#[]⟩, [], []⟩, _, rfl, drawn_flag x, own_leaf (by unfold I64; decide) i64_0 (by decide), HD2.out.fin (H := w.heap.size) asd (Nat.le_refl _) hpl⟩
 ·subst q8
  go_wp2_with fail
  refine (c_l02Num code p _ hc1).mono ?_
  rintro e w2 ⟨z, rfl, hz, hd2⟩
  have hall : ∀ x ∈ ([0, 1, -1, 42, 9223372036854775807, -9223372036854775808, z] : List Int), I64 x := nums_ok hz
  have Hall := hid hall
  have hd3 := HD.out.trans hd2
  have HD2 := hid hd3
  have hc2 := hd2.cur
  have hpl2 := hc2.lt
  clear hd2 hd3 hz hall
  go_wp2_with fail
  refine (c_l01PickInt code p ([0, 1, -1, 42, 9223372036854775807, -9223372036854775808, z] : List Int) _ w2.heap.size (w2.alloc (.cells #[.int .i64 0, .int .i64 1, .int .i64 (-1), .int .i64 42, .int .i64 9223372036854775807, .int .i64 (-9223372036854775808), .int .i64 z] 3)) (hc2.below (ext_alloc (Below.refl _ _))) (sl_ints w2 ([0, 1, -1, 42, 9223372036854775807, -9223372036854775808, z] : List Int) (by simp) 3 _ rfl) hpl2 (by simp) (by simp)).mono ?_
  rintro e w3 ⟨y, rfl, hy, hd4⟩
  have hd5 := HD2.out.trans (Dr.cut hd4)
  have HY := hid (Hall.out y hy)
  have HD3 := hid hd5
  clear hd4 hd5 hy hc2
  go_wp2_with fail
  refine (c_rs_IntTree y _).mono ?_
  rintro e w4 ⟨rfl, hb4⟩
  have hd6 := HD3.out.step hb4
  have hZ := (hd6.block (g := w.heap.size) (by simp) (by omega)).trans (heap_at (w := w) (o := (.cells #[.int .i64 0, .bool false, .int .i64 0, .string ⟨#[]⟩, .slice none 0 0, .slice none 0 0] 34)) rfl)
  obtain ⟨z0, z1, z2, z3, z4, z5, zf⟩ := row6 hZ
  have zl := row_lt hZ
  have HD4 := hid hd6.cut
  clear hb4 hd6
  go_wp2_with fail
  refine bodyPost_ret (v := .agg #[.int .i64 3, .bool false, .int .i64 y, .string ⟨#[]⟩, .slice none 0 0, .slice none 0 0]) (by simp only [results, Tryz.results79]; go_simp) rfl ⟨⟨3, false, y, ⟨#[]⟩, [], []⟩, _, rfl, drawn_int HY.out, own_leaf (by unfold I64; decide) HY.out (by decide), HD4.out.fin (H := w.heap.size) asd (Nat.le_refl _) hpl⟩
theorem own_tlist {n base hi : Nat} {w wF : World} {l : List TreeD} {v : Value} {S : Nat -> Prop} (h : GrowK n base hi w l v) (hF : ∀ q, base <= q -> q < hi -> wF.heap[q]? = w.heap[q]?) (hS : ∀ b, base <= b -> b < hi -> S b) :
  OwnT (n + 1) S wF (tList l) [.int .i64 5, .bool false, .int .i64 0, .string ⟨#[]⟩, .slice none 0 0, v] :=
 OwnT.into ⟨_, _, fun _ => False, fun b => base <= b /\ b < hi, rfl, (show I64 5 from by unfold I64; decide), (show I64 0 from by unfold I64; decide), (show ByteArray.size ⟨#[]⟩ <= 9223372036854775807 from by decide), fun _ h => h.elim, fun b hb => hS b hb.1 hb.2,
  ⟨none, 0, rfl, Nat.le_refl _, by decide, fun h => by simp [tList] at h⟩, h.own.keep (fun b hb => hF b hb.1 hb.2) (fun _ h => h)⟩
theorem GrowK.carryD {code : List UInt8} {p n base hi : Nat} {w w' : World} {l : List TreeD} {v : Value} (h : GrowK n base hi w l v) (hd : Dr code p w w') (hp : p < base) (hh : hi <= w.heap.size) : GrowK n base hi w' l v := h.carry (Nat.le_refl _) (fun g h1 h2 => hd.block (g := g) (by omega) (by omega))
theorem set6_all {w : World} {b : Nat} {a0 a1 a2 a3 a4 a5 v0 v1 v2 v3 v4 v5 : Value} {e : TypeId} (h : w.heap[b]? = some (.cells #[a0, a1, a2, a3, a4, a5] e (0, 0))) :
  ((((((w.setCell ⟨b, 0, none⟩ v0).setCell ⟨b, 1, none⟩ v1).setCell ⟨b, 2, none⟩ v2).setCell ⟨b, 3, none⟩ v3).setCell ⟨b, 4, none⟩ v4).setCell ⟨b, 5, none⟩ v5).heap[b]? = some (.cells #[v0, v1, v2, v3, v4, v5] e (0, 0)) :=
 heap_setCell_same _ b 5 _ _ _ (heap_setCell_same _ b 4 _ _ _ (heap_setCell_same _ b 3 _ _ _ (heap_setCell_same _ b 2 _ _ _ (heap_setCell_same _ b 1 _ _ _ (heap_setCell_same w b 0 _ _ _ h)))))
theorem c_tree_more (k : Nat) (hk : k <= 2) (ih : ∀ (code : List UInt8) (p : Nat) (w : World), CurAt code p w -> Calls Tryz.prog 79 #[.pointer (some ⟨p, 0, none⟩), .int .i64 ((k + 1 : Nat) : Int)] w (DrT (k + 1) code p w))
  (code : List UInt8) (p : Nat) (w : World) (h : CurAt code p w) : Calls Tryz.prog 79 #[.pointer (some ⟨p, 0, none⟩), .int .i64 ((k + 2 : Nat) : Int)] w (DrT (k + 2) code p w) := by
 obtain ⟨i0, hi, hz0, hz1, hz2⟩ := info_parts (show (Tryz.prog.info? 34).map (fun i => (i.zero, i.size, i.bytes)) = some (some (.agg #[.int .i64 0, .bool false, .int .i64 0, .string ⟨#[]⟩, .slice none 0 0, .slice none 0 0]), 6, 88) from by kernel_rfl)
 have hpl := h.lt
 have hc := h.below (ext_alloc (o := (.cells #[.int .i64 0, .bool false, .int .i64 0, .string ⟨#[]⟩, .slice none 0 0, .slice none 0 0] 34)) (Below.refl w.heap.size w))
 obtain ⟨D, hD⟩ : ∃ D : Int, D = ((k + 2 : Nat) : Int) := ⟨_, rfl⟩
 have hD1 : 2 <= D := by omega
 have hD4 : D <= 4 := by omega
 obtain ⟨E, hE⟩ : ∃ E : Int, E = ((k + 1 : Nat) : Int) := ⟨_, rfl⟩
 have hDs : Hid (D - 1 = E) := hid (by omega)
 have hEw : Hid (IntKind.i64.wrap (D - 1) = E) := hid (by rw [IntWalk.i64_in _ (by omega)]; omega)
 rw [<- hE] at ih
 rw [<- hD]
 clear hD hE
 have dD : decide (D <= 1) = false := decide_eq_false (by omega)
 go_enter Tryz.func79, Tryz.ntmps79
 go_wp2_with fail
 refine (c_l01Below code p 9 _ hc (by omega)).mono ?_
 rintro e w1 ⟨y, rfl, hy0, hy1, -, hd⟩
 have hy2 := hy1 (by decide)
 have hc1 := hd.cur
 have HD := hid hd
 have hz1' := hd.size
 simp at hz1'
 clear hd hy1 hc
 have hy : y = 0 ∨ y = 1 ∨ y = 2 ∨ y = 3 ∨ y = 4 ∨ y = 5 ∨ y = 6 ∨ 7 <= y := by omega
 rcases hy with q0 | q1 | q2 | q3 | q4 | q5 | q6 | q7
 ·subst q0
  have hZ := (HD.out.block (g := w.heap.size) (by simp) (by omega)).trans (heap_at (w := w) (o := (.cells #[.int .i64 0, .bool false, .int .i64 0, .string ⟨#[]⟩, .slice none 0 0, .slice none 0 0] 34)) rfl)
  obtain ⟨z0, z1, z2, z3, z4, z5, zf⟩ := row6 hZ
  have zl := row_lt hZ
  go_wp2_with fail
  refine bodyPost_ret (v := .agg #[.int .i64 1, .bool false, .int .i64 0, .string ⟨#[]⟩, .slice none 0 0, .slice none 0 0]) (by simp only [results, Tryz.results79]; go_simp) rfl ⟨⟨1, false, 0, ⟨#[]⟩, [], []⟩, _, rfl, drawn_null, own_leaf (by unfold I64; decide) i64_0 (by decide), HD.out.cut.fin (H := w.heap.size) asd (Nat.le_refl _) hpl⟩
 ·subst q1
  go_wp2_with fail
  refine (c_l01Once code p 2 _ hc1 (by omega)).mono ?_
  rintro e w2 ⟨x, rfl, hd2⟩
  have hd3 := HD.out.trans hd2
  have hZ := (hd3.block (g := w.heap.size) (by simp) (by omega)).trans (heap_at (w := w) (o := (.cells #[.int .i64 0, .bool false, .int .i64 0, .string ⟨#[]⟩, .slice none 0 0, .slice none 0 0] 34)) rfl)
  obtain ⟨z0, z1, z2, z3, z4, z5, zf⟩ := row6 hZ
  have zl := row_lt hZ
  have HD2 := hid hd3.cut
  clear hd2 hd3
  go_wp2_with fail
  refine bodyPost_ret (v := .agg #[.int .i64 2, .bool x, .int .i64 0, .string ⟨#[]⟩, .slice none 0 0, .slice none 0 0]) (by simp only [results, Tryz.results79]; go_simp) rfl ⟨⟨2, x, 0, ⟨#[]⟩, [], []⟩, _, rfl, drawn_flag x, own_leaf (by unfold I64; decide) i64_0 (by decide), HD2.out.fin (H := w.heap.size) asd (Nat.le_refl _) hpl⟩
 ·subst q2
  go_wp2_with fail
  refine (c_l02Num code p _ hc1).mono ?_
  rintro e w2 ⟨z, rfl, hz, hd2⟩
  have hall : ∀ x ∈ ([0, 1, -1, 42, 9223372036854775807, -9223372036854775808, z] : List Int), I64 x := nums_ok hz
  have Hall := hid hall
  have hd3 := HD.out.trans hd2
  have HD2 := hid hd3
  have hc2 := hd2.cur
  have hpl2 := hc2.lt
  clear hd2 hd3 hz hall
  go_wp2_with fail
  refine (c_l01PickInt code p ([0, 1, -1, 42, 9223372036854775807, -9223372036854775808, z] : List Int) _ w2.heap.size (w2.alloc (.cells #[.int .i64 0, .int .i64 1, .int .i64 (-1), .int .i64 42, .int .i64 9223372036854775807, .int .i64 (-9223372036854775808), .int .i64 z] 3)) (hc2.below (ext_alloc (Below.refl _ _))) (sl_ints w2 ([0, 1, -1, 42, 9223372036854775807, -9223372036854775808, z] : List Int) (by simp) 3 _ rfl) hpl2 (by simp) (by simp)).mono ?_
  rintro e w3 ⟨y, rfl, hy, hd4⟩
  have hd5 := HD2.out.trans (Dr.cut hd4)
  have HY := hid (Hall.out y hy)
  have HD3 := hid hd5
  clear hd4 hd5 hy hc2
  go_wp2_with fail
  refine (c_rs_IntTree y _).mono ?_
  rintro e w4 ⟨rfl, hb4⟩
  have hd6 := HD3.out.step hb4
  have hZ := (hd6.block (g := w.heap.size) (by simp) (by omega)).trans (heap_at (w := w) (o := (.cells #[.int .i64 0, .bool false, .int .i64 0, .string ⟨#[]⟩, .slice none 0 0, .slice none 0 0] 34)) rfl)
  obtain ⟨z0, z1, z2, z3, z4, z5, zf⟩ := row6 hZ
  have zl := row_lt hZ
  have HD4 := hid hd6.cut
  clear hb4 hd6
  go_wp2_with fail
  refine bodyPost_ret (v := .agg #[.int .i64 3, .bool false, .int .i64 y, .string ⟨#[]⟩, .slice none 0 0, .slice none 0 0]) (by simp only [results, Tryz.results79]; go_simp) rfl ⟨⟨3, false, y, ⟨#[]⟩, [], []⟩, _, rfl, drawn_int HY.out, own_leaf (by unfold I64; decide) HY.out (by decide), HD4.out.fin (H := w.heap.size) asd (Nat.le_refl _) hpl⟩
 ·subst q3
  go_wp2_with fail
  refine (c_l02Num code p _ hc1).mono ?_
  rintro e w2 ⟨z, rfl, hz, hd2⟩
  have hall : ∀ x ∈ ([0, 1, -1, 42, 9223372036854775807, -9223372036854775808, z] : List Int), I64 x := nums_ok hz
  have Hall := hid hall
  have hd3 := HD.out.trans hd2
  have HD2 := hid hd3
  have hc2 := hd2.cur
  have hpl2 := hc2.lt
  clear hd2 hd3 hz hall
  go_wp2_with fail
  refine (c_l01PickInt code p ([0, 1, -1, 42, 9223372036854775807, -9223372036854775808, z] : List Int) _ w2.heap.size (w2.alloc (.cells #[.int .i64 0, .int .i64 1, .int .i64 (-1), .int .i64 42, .int .i64 9223372036854775807, .int .i64 (-9223372036854775808), .int .i64 z] 3)) (hc2.below (ext_alloc (Below.refl _ _))) (sl_ints w2 ([0, 1, -1, 42, 9223372036854775807, -9223372036854775808, z] : List Int) (by simp) 3 _ rfl) hpl2 (by simp) (by simp)).mono ?_
  rintro e w3 ⟨y, rfl, hy, hd4⟩
  have hd5 := HD2.out.trans (Dr.cut hd4)
  have HY := hid (Hall.out y hy)
  have HD3 := hid hd5
  clear hd4 hd5 hy hc2
  go_wp2_with fail
  refine (c_rs_IntTree y _).mono ?_
  rintro e w4 ⟨rfl, hb4⟩
  have hd6 := HD3.out.step hb4
  have hZ := (hd6.block (g := w.heap.size) (by simp) (by omega)).trans (heap_at (w := w) (o := (.cells #[.int .i64 0, .bool false, .int .i64 0, .string ⟨#[]⟩, .slice none 0 0, .slice none 0 0] 34)) rfl)
  obtain ⟨z0, z1, z2, z3, z4, z5, zf⟩ := row6 hZ
  have zl := row_lt hZ
  have HD4 := hid hd6.cut
  clear hb4 hd6
  go_wp2_with fail
  refine bodyPost_ret (v := .agg #[.int .i64 3, .bool false, .int .i64 y, .string ⟨#[]⟩, .slice none 0 0, .slice none 0 0]) (by simp only [results, Tryz.results79]; go_simp) rfl ⟨⟨3, false, y, ⟨#[]⟩, [], []⟩, _, rfl, drawn_int HY.out, own_leaf (by unfold I64; decide) HY.out (by decide), HD4.out.fin (H := w.heap.size) asd (Nat.le_refl _) hpl⟩
 ·subst q4
  go_wp2_with fail
  refine (c_l08Word code p _ hc1).mono ?_
  rintro e w2 ⟨s, rfl, hs, hd2⟩
  have hd3 := HD.out.trans hd2
  have HW := hid hs
  have HD2 := hid hd3
  clear hd2 hd3 hs
  go_wp2_with fail
  refine (c_rs_TextTree s _).mono ?_
  rintro e w4 ⟨rfl, hb4⟩
  have hd6 := HD2.out.step hb4
  have hZ := (hd6.block (g := w.heap.size) (by simp) (by omega)).trans (heap_at (w := w) (o := (.cells #[.int .i64 0, .bool false, .int .i64 0, .string ⟨#[]⟩, .slice none 0 0, .slice none 0 0] 34)) rfl)
  obtain ⟨z0, z1, z2, z3, z4, z5, zf⟩ := row6 hZ
  have zl := row_lt hZ
  have HD4 := hid hd6.cut
  clear hb4 hd6
  go_wp2_with fail
  refine bodyPost_ret (v := .agg #[.int .i64 4, .bool false, .int .i64 0, .string s, .slice none 0 0, .slice none 0 0]) (by simp only [results, Tryz.results79]; go_simp) rfl ⟨⟨4, false, 0, s, [], []⟩, _, rfl, drawn_text HW.out, own_leaf (by unfold I64; decide) i64_0 (Nat.le_trans HW.out.2 (by decide)), HD4.out.fin (H := w.heap.size) asd (Nat.le_refl _) hpl⟩
 ·subst q5
  go_wp2_with fail
  refine (c_l08Word code p _ hc1).mono ?_
  rintro e w2 ⟨s, rfl, hs, hd2⟩
  have hd3 := HD.out.trans hd2
  have HW := hid hs
  have HD2 := hid hd3
  clear hd2 hd3 hs
  go_wp2_with fail
  refine (c_rs_TextTree s _).mono ?_
  rintro e w4 ⟨rfl, hb4⟩
  have hd6 := HD2.out.step hb4
  have hZ := (hd6.block (g := w.heap.size) (by simp) (by omega)).trans (heap_at (w := w) (o := (.cells #[.int .i64 0, .bool false, .int .i64 0, .string ⟨#[]⟩, .slice none 0 0, .slice none 0 0] 34)) rfl)
  obtain ⟨z0, z1, z2, z3, z4, z5, zf⟩ := row6 hZ
  have zl := row_lt hZ
  have HD4 := hid hd6.cut
  clear hb4 hd6
  go_wp2_with fail
  refine bodyPost_ret (v := .agg #[.int .i64 4, .bool false, .int .i64 0, .string s, .slice none 0 0, .slice none 0 0]) (by simp only [results, Tryz.results79]; go_simp) rfl ⟨⟨4, false, 0, s, [], []⟩, _, rfl, drawn_text HW.out, own_leaf (by unfold I64; decide) i64_0 (Nat.le_trans HW.out.2 (by decide)), HD4.out.fin (H := w.heap.size) asd (Nat.le_refl _) hpl⟩
 ·subst q6
  clear hy0 hy2
  go_wp2_with fail
  go_loopw [6, 7] (fun s6 s7 wr => ∃ (i c : Nat) (A : Option Addr) (l : List TreeD), i <= 3 /\ s7 = .int .i64 i /\ s6 = .slice A i c /\ l.length = i /\ GrowK (k + 1) w1.heap.size wr.heap.size wr l (.slice A i c) /\ (∀ t ∈ l, Drawn (k + 1) t) /\ wr.heap[w.heap.size]? = some (.cells #[.int .i64 0, .bool false, .int .i64 0, .string ⟨#[]⟩, .slice none 0 0, .slice none 0 0] 34 (0, 0)) /\ Dr code p w wr /\ w1.heap.size <= wr.heap.size) (fun _ s7 _ => 4 - (intOf s7).toNat)
  case atStart =>
   exact ⟨0, 0, _, [], Nat.zero_le _, rfl, rfl, rfl, GrowK.empty rfl (Nat.le_refl _), fun t ht => (by cases ht), (Below.heap_alloc _ _ _ (by omega)).trans ((HD.out.block (g := w.heap.size) (by simp) (by omega)).trans (heap_at rfl)), HD.out.cut.alloc _, by simp⟩
  case round =>
   obtain ⟨i, c, A, l, hi3, rfl, rfl, hl, hG, hall, hZ, hdr, hws⟩ := hrel
   have HG := hid hG
   have HA := hid hall
   have HZ := hid hZ
   have HR := hid hdr
   have HL := hid hl
   have hcr := hdr.cur
   clear hG hall hZ hdr hl hc1
   go_wp2_with fail
   refine (c_l01Below code p 4 _ hcr (by omega)).mono ?_
   rintro e w2 ⟨x, rfl, hx0, hx1, -, hd2⟩
   have hx2 := hx1 (by decide)
   have hc2 := hd2.cur
   have HG2 := hid (HG.out.carryD hd2 (by omega) (Nat.le_refl _))
   have HZ2 := hid ((hd2.block (g := w.heap.size) (by omega) (by omega)).trans HZ.out)
   have HR2 := hid (HR.out.trans hd2)
   have hs2 := hd2.size
   clear hd2 hx1 hcr
   by_cases hlt : (i : Int) < x
   ·have dlt : decide ((i : Int) < x) = true := decide_eq_true hlt
    go_wp2_with fail
    rw [hDs.out]
    refine (ih code p _ hc2).mono ?_
    rintro e w9 ⟨t, es, rfl, hT, hO, hd9⟩
    obtain ⟨fA4, fc4, fA5, fc5, rfl, -⟩ := hO.flat
    have HT := hid hT
    have HO := hid hO
    have hs9 := hd9.size
    have HG9 := HG2.out.carryD hd9 (by omega) hs2
    have HZ9 := hid ((hd9.block (g := w.heap.size) (by omega) (by omega)).trans HZ2.out)
    have HR9 := hid (HR2.out.trans hd9)
    have hcl := hd9.cur.lt
    obtain ⟨ess, F, e1, e2, e3, e4, e5, e6, e7⟩ := HG9
    rw [HL.out] at e3
    have E := hid (And.intro e1 (And.intro e2 (And.intro e3 (And.intro e4 (And.intro e5 (And.intro e6 e7))))))
    have Hown := hid (fun q (hq : (Value.slice A i c).ownBlock = some q) => (e3.lt q hq).1)
    clear hT hO hd9 hc2 e1 e2 e3 e4 e5 e6 e7
    go_wp2_with (at_builtin; refine wpList_append_lies _ rfl (.tmp 53) (.tmp 58) 32 rfl w1.heap.size 34 i0 (.agg #[.int .i64 0, .bool false, .int .i64 0, .string ⟨#[]⟩, .slice none 0 0, .slice none 0 0]) 6 88 Tryz.underlying32 hi hz0 hz1 hz2 rfl (by decide) _ i ess.flatten rfl (E.out.2.2.1.alloc _) _ 1 1 [.int .i64 t.kind, .bool t.flag, .int .i64 t.num, .string t.text, .slice fA4 t.keys.length fc4, .slice fA5 t.kids.length fc5] rfl rfl (World.news_of_block (heap_at (by simp))) HO.out.one (by decide) (by unfold maxLen; omega) (by omega) (by simp; omega) _ rfl ?_)
    intro g cap w3 hown hgrow hat hlt3
    have hs3 := hgrow.size
    simp at hs3
    have hP := GrowK.push (n := k + 1) (base := w1.heap.size) (hi := wr.heap.size) (w := w9.alloc (.cells #[.int .i64 t.kind, .bool t.flag, .int .i64 t.num, .string t.text, .slice fA4 t.keys.length fc4, .slice fA5 t.kids.length fc5] 34)) (S := fun b => w2.heap.size <= b /\ b < w9.heap.size) i HL.out (by simp; omega) (HO.out.carry (fun b hb => Below.heap_alloc _ _ b hb.2) (fun b hb => hb)) (fun b hb => by simp; omega) hws ess F E.out.1 E.out.2.1 E.out.2.2.2.1 E.out.2.2.2.2.1 E.out.2.2.2.2.2.1
     (fun j d' es' h1 h2 => (E.out.2.2.2.2.2.2 j d' es' h1 h2).carry (fun b hb => Below.heap_alloc _ _ b (by have := (E.out.2.2.2.2.1 j b hb).2.1; omega)) (fun _ h => h)) hown hgrow (hat.imp id (fun h => by (try simp at h); (try simp); omega)) hlt3
    have HP := hid hP
    have hno : ∀ q, q < w1.heap.size -> (Value.slice A i c).ownBlock ≠ some q := fun q hq e => by have := Hown.out q e; omega
    have HZ3 := hid (((hgrow.block w.heap.size (by simp; omega) (fun e => hno _ (by omega) e.symm)).trans (Below.heap_alloc _ _ _ (by omega))).trans HZ9.out)
    have hb3 : Below w1.heap.size w9 w3 := Below.grown (B := w1.heap.size) ((Below.refl _ _).alloc (by omega) _) hgrow (by simp; omega) (fun q hq => Hown.out q hq)
    have HR3 := hid (HR9.out.low (hb3.mono (by omega)) hpl)
    clear hgrow hown hat hP hno
    go_wp2_with fail
    go_roundw
    case rel => exact ⟨i + 1, cap, _, l ++ [t], by omega, by go_num, rfl, by rw [List.length_append, HL.out]; rfl, HP.out, fun u hu => by rcases List.mem_append.1 hu with hu | hu; exact HA.out u hu; (simp at hu; rw [hu]; exact HT.out), HZ3.out, HR3.out, by omega⟩
    case measure => first | omega | (simp [Lib.intOf]; omega) | (simp [intOf]; omega)
   ·have dlt : decide ((i : Int) < x) = false := decide_eq_false hlt
    have hl := HL.out
    subst hl
    have hfit := ((drawn_list (k := k) (by omega) HA.out).fits (by omega)).1
    have HC := hid ((own_tlist (S := fun q => w1.heap.size <= q /\ q < wr.heap.size) HG2.out (wF := w2) (fun _ _ _ => rfl) (fun b h1 h2 => ⟨h1, h2⟩)).toC (lo := 0) (hi := w2.heap.size) (fun b hb => ⟨Nat.zero_le _, by omega⟩))
    go_wp2_with fail
    refine (c_ListTreeG (k + 1) l A c w2 0 HC.out hfit).mono ?_
    rintro e w5 ⟨cs5, rfl, hO5, hb5⟩
    obtain ⟨C4, d4, C5, d5, rfl, -⟩ := hO5.flat
    have HO5 := hid hO5
    have HD5 := hid (HR2.out.step hb5)
    have hZ5 := (hb5.block w.heap.size (by omega)).trans HZ2.out
    obtain ⟨z0, z1, z2, z3, z4, z5, zf⟩ := row6 hZ5
    have zl := row_lt hZ5
    have HDr := hid (drawn_list (k := k) (by omega) HA.out)
    clear hO5 hb5 hZ5 hfit
    go_wp2_with fail
    refine bodyPost_ret (v := .agg #[.int .i64 (tList l).kind, .bool (tList l).flag, .int .i64 (tList l).num, .string (tList l).text, .slice C4 (tList l).keys.length d4, .slice C5 (tList l).kids.length d5]) (by simp only [results, Tryz.results79]; go_simp) rfl ⟨tList l, _, rfl, HDr.out, HO5.out.carry (fun b hb => Aside.block (S := fun b => b = w.heap.size) (w := w5) asd b hb.2 (by have := hb.1; omega)) (fun b hb => by have q1 := hb.1; have q2 := hb.2; (try simp); omega), HD5.out.fin (H := w.heap.size) asd (Nat.le_refl _) hpl⟩
 ·have f0 : (y == 0) = false := beq_eq_false_iff_ne.2 (by omega)
  have f1 : (y == 1) = false := beq_eq_false_iff_ne.2 (by omega)
  have f2 : (y == 2) = false := beq_eq_false_iff_ne.2 (by omega)
  have f3 : (y == 3) = false := beq_eq_false_iff_ne.2 (by omega)
  have f4 : (y == 4) = false := beq_eq_false_iff_ne.2 (by omega)
  have f5 : (y == 5) = false := beq_eq_false_iff_ne.2 (by omega)
  have f6 : (y == 6) = false := beq_eq_false_iff_ne.2 (by omega)
  clear hy0 hy2 q7
  go_wp2_with fail
  go_loopw [9] (fun s9 wr => ∃ (i c4 c5 : Nat) (A4 A5 : Option Addr) (K : List ByteArray) (V : List TreeD), i <= 4 /\ s9 = .int .i64 i /\ wr.heap[w1.heap.size]? = some (.cells #[.int .i64 6, .bool false, .int .i64 0, .string ⟨#[]⟩, .slice A4 K.length c4, .slice A5 V.length c5] 34 (0, 0)) /\ OwnT (k + 2) (fun q => w1.heap.size < q /\ q < wr.heap.size) wr (tMap K V) [.int .i64 6, .bool false, .int .i64 0, .string ⟨#[]⟩, .slice A4 K.length c4, .slice A5 V.length c5] /\ MapD (k + 1) i K V /\ wr.heap[w.heap.size]? = some (.cells #[.int .i64 0, .bool false, .int .i64 0, .string ⟨#[]⟩, .slice none 0 0, .slice none 0 0] 34 (0, 0)) /\ Dr code p w wr) (fun s9 _ => 5 - (intOf s9).toNat)
  case atStart =>
   exact ⟨0, 0, 0, none, none, [], [], Nat.zero_le _, rfl, heap_at rfl, own_leaf (by unfold I64; decide) i64_0 (by decide), MapD.nil _, (Below.heap_alloc _ _ _ (by omega)).trans ((HD.out.block (g := w.heap.size) (by simp) (by omega)).trans (heap_at rfl)), HD.out.cut.alloc _⟩
  case round =>
   clear f0 f1 f2 f3 f4 f5 f6
   obtain ⟨i, c4, c5, A4, A5, K, V, hi4, rfl, hB, hO, hM, hZ, hdr⟩ := hrel
   have HB := hid hB
   have HO := hid hO
   have HM := hid hM
   have HZ := hid hZ
   have HR := hid hdr
   have hcr := hdr.cur
   have hbl := row_lt hB
   clear hB hO hM hZ hdr hc1
   go_wp2_with fail
   refine (c_l01Below code p 5 _ hcr (by omega)).mono ?_
   rintro e w2 ⟨x, rfl, hx0, hx1, -, hd2⟩
   have hx2 := hx1 (by decide)
   have HC2 := hid hd2.cur
   have HB2 := hid ((hd2.block (g := w1.heap.size) hbl (by omega)).trans HB.out)
   have HZ2 := hid ((hd2.block (g := w.heap.size) (by omega) (by omega)).trans HZ.out)
   have HR2 := hid (HR.out.trans hd2)
   have hs2 := hd2.size
   have HO2 := hid (HO.out.carry (S' := fun q => w1.heap.size < q /\ q < w2.heap.size) (fun b hb => hd2.block (g := b) hb.2 (by have := hb.1; omega)) (fun b hb => ⟨hb.1, by have := hb.2; omega⟩))
   clear hd2 hx1 hcr
   obtain ⟨x0, x1, x2', x3, x4, x5, xf⟩ := row6 HB2.out
   have xl := row_lt HB2.out
   by_cases hlt : (i : Int) < x
   ·have dlt : decide ((i : Int) < x) = true := decide_eq_true hlt
    have hxp : w1.heap.size ≠ p := by omega
    have hDw := hEw.out
    have hz2b : sizeT (k + 2) (tMap K V) <= 1073741824 /\ nTree (k + 2) (tMap K V) <= 1048576 := by have h9 := (drawn_map (HM.out.more (m' := 4) (by omega))).fits (by omega); exact ⟨h9.2.1, h9.1⟩
    obtain ⟨hz2, hn2⟩ := hz2b
    go_wp2_with fail
    go_region_law (first | (go_simp; go_at_call 147; refine (c_l08Word code p _ (HC2.out.below bel)).mono ?_; rintro e wa ⟨s, rfl, hs, hda⟩; obtain ⟨p0, p1, p2, p3, p4, p5, pf⟩ := row6 ((hda.block (g := w1.heap.size) xl hxp).trans HB2.out); have pxl : w1.heap.size < wa.heap.size := Nat.lt_of_lt_of_le xl hda.size) | (go_simp; go_at_call 79; refine (ih code p _ (hda.cur.below bel)).mono ?_; rintro e wb ⟨t, es, rfl, hT, hOt, hdb⟩; obtain ⟨tA4, tc4, tA5, tc5, rfl, -⟩ := hOt.flat; obtain ⟨r0, r1, r2, r3, r4, r5, rf⟩ := row6 ((hdb.block (g := w1.heap.size) pxl hxp).trans ((hda.block (g := w1.heap.size) xl hxp).trans HB2.out)); have rxl : w1.heap.size < wb.heap.size := Nat.lt_of_lt_of_le pxl hdb.size) | (go_simp; go_at_call 149; refine (c_PutKid (k + 1) (tMap K V) t _ _ s _ 0 (((HO2.out.carry (S' := fun q => q < wb.heap.size) (fun b hb => (hdb.block (g := b) (Nat.lt_of_lt_of_le hb.2 hda.size) (by have := hb.1; omega)).trans (hda.block (g := b) hb.2 (by have := hb.1; omega))) (fun b hb => Nat.lt_of_lt_of_le hb.2 (Nat.le_trans hda.size hdb.size))).toC (lo := 0) (hi := wb.heap.size) (fun b hb => ⟨Nat.zero_le _, hb⟩)).now bel) ((hOt.toC (lo := 0) (hi := wb.heap.size) (fun b hb => ⟨Nat.zero_le _, hb.2⟩)).now bel) (Nat.le_trans hs.2 (by decide)) hz2 (hT.le (by omega)) hn2 (hT.fits (by omega)).1).mono ?_; rintro e wd ⟨cs3, rfl, hO3, hbd⟩; obtain ⟨K3, V3, hput, hM3⟩ := HM.out.put (n := k + 2) hs hT; rw [hput] at hO3; obtain ⟨B4, b4, B5, b5, rfl, -⟩ := hO3.flat; obtain ⟨v0, v1, v2, v3, v4, v5, vf⟩ := row6 ((hbd.block w1.heap.size rxl).trans ((hdb.block (g := w1.heap.size) pxl hxp).trans ((hda.block (g := w1.heap.size) xl hxp).trans HB2.out))); have vxl : w1.heap.size < wd.heap.size := Nat.lt_of_lt_of_le rxl hbd.size))
    all_goals
     have q1 := hda.size
     have q2 := hdb.size
     have q3 := hbd.size
     have HDa := (HR2.out.step (bel : Below w2.heap.size w2 _)).trans hda
     have HDb := (HDa.step (bel : Below wa.heap.size wa _)).trans hdb
     have HDd := hid (HDb.step hbd)
     have HZd := hid ((hbd.block w.heap.size (by omega)).trans ((hdb.block (g := w.heap.size) (by (try simp); omega) (by omega)).trans ((hda.block (g := w.heap.size) (by (try simp); omega) (by omega)).trans HZ2.out)))
     have HBd := hid ((hbd.block w1.heap.size rxl).trans ((hdb.block (g := w1.heap.size) pxl hxp).trans ((hda.block (g := w1.heap.size) xl hxp).trans HB2.out)))
     have HO3 := hid hO3
     have HM3 := hid hM3
     clear HDa HDb hbd hdb hda hO3 hM3 hput hT hOt hs
     go_wp2_with fail
     go_roundw
     case rel => exact ⟨i + 1, b4, b5, B4, B5, K3, V3, by omega, by go_num, set6_all HBd.out, HO3.out.carry (fun b hb => Aside.block (S := fun b => b = w1.heap.size) (w := wd) asd b hb.2 (by have q5 := hb.1; (try simp at q5); omega)) (fun b hb => by have q5 := hb.1; have q6 := hb.2; (try simp at q5); (try simp); omega), HM3.out, Eq.trans (Aside.block (S := fun b => b = w1.heap.size) (w := wd) asd w.heap.size (by omega) (by omega)) HZd.out, HDd.out.fin (H := w1.heap.size) asd (by omega) hpl⟩
     case measure => first | omega | (simp [Lib.intOf]; omega) | (simp [intOf]; omega)
   ·have dlt : decide ((i : Int) < x) = false := decide_eq_false hlt
    obtain ⟨z0, z1, z2, z3, z4, z5, zf⟩ := row6 HZ2.out
    have zl := row_lt HZ2.out
    have HDr := hid (drawn_map (HM.out.more (m' := 4) (by omega)))
    go_wp2_with fail
    refine bodyPost_ret (v := .agg #[.int .i64 6, .bool false, .int .i64 0, .string ⟨#[]⟩, .slice A4 K.length c4, .slice A5 V.length c5]) (by simp only [results, Tryz.results79]; go_simp) rfl ⟨tMap K V, _, rfl, HDr.out, HO2.out.carry (fun b hb => Aside.block (S := fun b => b = w.heap.size) (w := w2) asd b hb.2 (by have := hb.1; omega)) (fun b hb => by have q1 := hb.1; have q2 := hb.2; (try simp); omega), HR2.out.fin (H := w.heap.size) asd (Nat.le_refl _) hpl⟩
theorem all_tree : ∀ k, k <= 3 -> ∀ (code : List UInt8) (p : Nat) (w : World), CurAt code p w -> Calls Tryz.prog 79 #[.pointer (some ⟨p, 0, none⟩), .int .i64 ((k + 1 : Nat) : Int)] w (DrT (k + 1) code p w)
 | 0, _, code, p, w, h => c_tree_one code p w h
 | k + 1, hk, code, p, w, h => c_tree_more k (by omega) (all_tree k (by omega)) code p w h
theorem c_DrawTree (code : List UInt8) (v : Value) (lo : Nat) (w : World) (hs : SlOf C_Byte 1 lo w.heap.size w code v) (hn : code.length <= 1048576) :
  Calls Tryz.prog 40 #[v] w fun e w' => ∃ d cs, e = .returned (.agg cs.toArray) /\ Drawn 4 d /\ OwnT 4 (fun q => w.heap.size <= q /\ q < w'.heap.size) w' d cs /\ Below w.heap.size w w' := by
 have Hs := hid hs
 obtain ⟨A, c, rfl, -⟩ := hs
 have h4 := all_tree 3 (by decide)
 rw [show ((3 + 1 : Nat) : Int) = 4 from rfl] at h4
 have H4 := hid h4
 clear h4
 go_enter Tryz.func40, Tryz.ntmps40
 go_wp2_with fail
 refine (c_l01New code _ lo _ (SlOf.now Hs.out bel) hn).mono ?_
 rintro e w1 ⟨p, rfl, hp, hc, hb⟩
 have HB := hid hb
 have hb1 := hb.size
 simp at hb1
 clear hb
 go_wp2_with fail
 refine (H4.out code p _ hc).mono ?_
 rintro e w2 ⟨d, cs, rfl, hD, hO, hd⟩
 obtain ⟨C4, d4, C5, d5, rfl, -⟩ := hO.flat
 have HD := hid hD
 have HO := hid hO
 have hs2 := hd.size
 simp at hp
 have Hb2 := hid (Below.trans (bel : Below w.heap.size w (w.alloc (.cells #[.int .i64 0, .bool false, .int .i64 0, .string ⟨#[]⟩, .slice none 0 0, .slice none 0 0] 34))) ((HB.out.mono (by simp)).trans (hd.below (B := w.heap.size) (by omega) (by omega))))
 have hZ := (hd.block (g := w.heap.size) (by omega) (by omega)).trans ((HB.out.block w.heap.size (by simp)).trans (heap_at rfl))
 obtain ⟨z0, z1, z2, z3, z4, z5, zf⟩ := row6 hZ
 have zl := row_lt hZ
 clear hO hD hd hc hZ
 go_wp2_with fail
 refine bodyPost_ret (v := .agg #[.int .i64 d.kind, .bool d.flag, .int .i64 d.num, .string d.text, .slice C4 d.keys.length d4, .slice C5 d.kids.length d5]) (by simp only [results, Tryz.results40]; go_simp) rfl ⟨d, _, rfl, HD.out, HO.out.carry (fun b hb => Aside.block (S := fun b => b = w.heap.size) (w := w2) asd b hb.2 (by have := hb.1; omega)) (fun b hb => by have q1 := hb.1; have q2 := hb.2; (try simp); omega), Hb2.out.trans (Aside.below (S := fun b => b = w.heap.size) asd Hb2.out.size (fun i hi => by omega))⟩
theorem bb {a b c : World} (h : Below a.heap.size a b) (k : Below b.heap.size b c) : Below a.heap.size a c := h.trans (k.mono h.size)
structure Four (w : World) : Prop where
 pow : Pow w
 err : ErrR w
 tab : Tabs w
 cas : CTab w
theorem Four.below {w w' : World} (h : Four w) (hb : Below w.heap.size w w') : Four w' := ⟨h.pow.below hb, h.err.below hb, h.tab.below hb, h.cas.below hb⟩
theorem toL (l : List UInt8) : (bs l).data.toList = l := by unfold bs; simp
theorem bs_toL (s : ByteArray) : bs s.data.toList = s := by unfold bs; simp
theorem bs_size (l : List UInt8) : (bs l).size = l.length := size_list l
theorem toL_size (s : ByteArray) : s.data.toList.length = s.size := Array.length_toList
theorem last_app {a b : List UInt8} (h : b ≠ []) : (a ++ b).getLast? = b.getLast? := by
 rw [List.getLast?_append]
 rcases hb : b.getLast? with _ | c
 ·exact absurd (List.getLast?_eq_none_iff.1 hb) h
 ·rfl
theorem byte_at {l : List UInt8} {i : Nat} {c : UInt8} (h : l[i]? = some c) : i < (bs l).size /\ byteI (bs l) i = (c.toNat : Int) := by
 have := Rd.byte (s := bs l) (j := 0) (rd_all l) i h
 rw [Nat.zero_add] at this
 exact this
theorem VU.drop (x : ByteArray) : ∀ (f i : Nat) (rs : List Nat), x.size - i <= f -> runesAt x i = some rs -> VU (x.data.toList.drop i) := by
 intro f
 induction f with
 | zero =>
  intro i rs hf h
  rw [List.drop_of_length_le (by rw [Array.length_toList]; exact (show x.size <= i by omega))]
  exact VU.nil
 | succ f ih =>
  intro i rs hf h
  by_cases hi : i < x.size
  ·by_cases hd : Utf8.decode x i = (65533, 1)
   ·rw [runesAt_bad hi hd] at h; cases h
   ·rw [runesAt_step hi hd] at h
    have hdl := decodeL_drop x i hi
    have hl : x.data.toList.length = x.size := Array.length_toList
    have hfit := decode_fits x i hi
    rcases hr2 : runesAt x (i + (Utf8.decode x i).2) with _ | rs'
    ·rw [hr2] at h; cases h
    ·have hs : x.data.toList.drop i = (x.data.toList.drop i).take (Utf8.decode x i).2 ++ x.data.toList.drop (i + (Utf8.decode x i).2) := by
      rw [<- List.drop_drop, List.take_append_drop]
     have hdv : decodeL (x.data.toList.drop i) ≠ (65533, 1) := by rw [hdl]; exact hd
     have ih' := ih (i + (Utf8.decode x i).2) rs' (by omega) hr2
     have hru := VU.rune hdv (by rw [hdl]; exact hfit.2.1) (by rw [hdl, List.length_drop, hl]; omega)
     rw [hdl] at hru
     rw [hs]
     exact VU.app hru ih'
  ·rw [List.drop_of_length_le (by rw [Array.length_toList]; exact (show x.size <= i by omega))]
   exact VU.nil
theorem VU.utf {x : ByteArray} (hx : utf8B x = true) : VU x.data.toList := by
 obtain ⟨rs, hrs⟩ := Option.isSome_iff_exists.1 (show (runesAt x 0).isSome = true from hx)
 have h := VU.drop x _ 0 rs (Nat.le_refl _) hrs
 rw [List.drop_zero] at h
 exact h
theorem trimL_self {l : List UInt8} (h : l.head? ≠ some 32) : trimLeftB l 32 = l := by
 unfold trimLeftB
 cases l with
 | nil => rfl
 | cons c l =>
  have hc : (c == 32) = false := beq_eq_false_iff_ne.2 (fun e => h (by rw [e]; rfl))
  rw [List.dropWhile_cons, hc]
  rfl
theorem trimL_blank (l : List UInt8) : trimLeftB (32 :: l) 32 = trimLeftB l 32 := by
 unfold trimLeftB
 rw [List.dropWhile_cons]
 rfl
theorem trimL_rep {l : List UInt8} (h : l.head? ≠ some 32) : ∀ i, trimLeftB (List.replicate i 32 ++ l) 32 = l
 | 0 => trimL_self h
 | i + 1 => by
  rw [List.replicate_succ, List.cons_append, trimL_blank, trimL_rep h i]
theorem trimR_self {l : List UInt8} (h : l.getLast? ≠ some 32) : trimRightB l 32 = l := by
 unfold trimRightB
 have h2 : l.reverse.head? ≠ some 32 := by rw [List.head?_reverse]; exact h
 have h3 := trimL_self h2
 unfold trimLeftB at h3
 rw [h3, List.reverse_reverse]
theorem scan_plain {c : UInt8} {r : List UInt8} {f : Bool} (h1 : c ≠ 34) (h2 : c ≠ 35) : scanB f false (c :: r) = 1 + scanB (c == 32) false r := by
 have e1 : (c == 34) = false := beq_eq_false_iff_ne.2 h1
 have e2 : (c == 35) = false := beq_eq_false_iff_ne.2 h2
 rw [scanB, e1, e2, Bool.and_false]
 simp
def lastF : Bool -> List UInt8 -> Bool
 | f, [] => f
 | _, c :: a => lastF (c == 32) a
theorem scan_free : ∀ (a : List UInt8) (f : Bool) (r : List UInt8), (∀ c ∈ a, c ≠ 34 /\ c ≠ 35) -> scanB f false (a ++ r) = a.length + scanB (lastF f a) false r
 | [], f, r, _ => by simp [lastF]
 | c :: a, f, r, h => by
  have hc := h c (by simp)
  rw [List.cons_append, scan_plain hc.1 hc.2, scan_free a _ r (fun x hx => h x (by simp [hx])), lastF, List.length_cons]
  omega
theorem lastF_false : ∀ {a : List UInt8} {f : Bool}, a ≠ [] -> a.getLast? ≠ some 32 -> lastF f a = false
 | [], _, h, _ => absurd rfl h
 | [c], f, _, h => by
  simp only [lastF]
  exact beq_eq_false_iff_ne.2 (fun e => h (by rw [e]; rfl))
 | c :: d :: a, f, _, h => by
  rw [lastF]
  exact lastF_false (a := d :: a) (by simp) (by rw [List.getLast?_cons_cons] at h; exact h)
theorem scan_open (r : List UInt8) : scanB true false (34 :: r) = 1 + scanB false true r := by
 rw [scanB]
 rfl
theorem scan_close : ∀ r : List UInt8, scanB false true (34 :: r) = 1 + scanB false false r
 | [] => by simp [scanB]
 | d :: r => by
  rw [scanB, if_neg (by decide)]
  rfl
theorem scan_esc (d : UInt8) (r : List UInt8) : scanB false true (92 :: d :: r) = 2 + scanB false true r := by
 rw [scanB, if_pos rfl]
theorem scan_in {c : UInt8} {r : List UInt8} (h1 : c ≠ 34) (h2 : c ≠ 92) (hr : r ≠ []) : scanB false true (c :: r) = 1 + scanB false true r := by
 cases r with
 | nil => exact absurd rfl hr
 | cons d r =>
  rw [scanB, if_neg h2]
  have : (c != 34) = true := bne_iff_ne.2 h1
  rw [this]
theorem fig_safe {x : Nat} (h : x < 16) : figU x ≠ 34 /\ figU x ≠ 92 /\ 32 <= (figU x).toNat := by
 have h2 := fig_nat x h
 refine ⟨fun e => ?_, fun e => ?_, ?_⟩
 ·rw [e] at h2
  split at h2 <;> simp at h2 <;> omega
 ·rw [e] at h2
  split at h2 <;> simp at h2 <;> omega
 ·split at h2 <;> omega
theorem scan_qB (c : UInt8) {r : List UInt8} (hr : r ≠ []) : scanB false true (qB c ++ r) = (qB c).length + scanB false true r := by
 unfold qB qN
 have hlt := c.toNat_lt
 repeat' split
 all_goals first
  | (simp only [List.cons_append, List.nil_append, List.length_cons, List.length_nil]; rw [scan_esc]; done)
  | skip
 ·rename_i h
  simp only [List.cons_append, List.nil_append, List.length_cons, List.length_nil]
  have f1 := fig_safe (x := c.toNat / 16) (by omega)
  have f2 := fig_safe (x := c.toNat % 16) (by omega)
  rw [scan_esc, scan_in (by decide) (by decide) (by simp), scan_in (by decide) (by decide) (by simp), scan_in f1.1 f1.2.1 (by simp), scan_in f2.1 f2.2.1 hr]
  omega
 ·rename_i h1 h2 h3 h4 h5 h6 h7
  simp only [List.cons_append, List.nil_append, List.length_cons, List.length_nil]
  have e : UInt8.ofNat c.toNat = c := by simp
  rw [e, scan_in (fun e => h1 (.inl (by rw [e]; rfl))) (fun e => h1 (.inr (by rw [e]; rfl))) hr]
theorem scan_flat {r : List UInt8} (hr : r ≠ []) : ∀ x : List UInt8, scanB false true (x.flatMap qB ++ r) = (x.flatMap qB).length + scanB false true r
 | [] => by simp
 | c :: x => by
  rw [List.flatMap_cons, List.append_assoc, scan_qB c (by simp [hr]), scan_flat hr x, List.length_append]
  omega
theorem qB_32 (c : UInt8) : ∀ y ∈ qB c, 32 <= y.toNat := by
 intro y hy
 unfold qB qN at hy
 have hlt := c.toNat_lt
 repeat' split at hy
 all_goals (simp only [List.mem_cons, List.mem_nil_iff, or_false] at hy)
 all_goals first
  | (rcases hy with rfl | rfl | rfl | rfl | rfl | rfl <;> first | decide | exact (fig_safe (x := c.toNat / 16) (by omega)).2.2 | exact (fig_safe (x := c.toNat % 16) (by omega)).2.2)
  | (rcases hy with rfl | rfl <;> (first | decide | (rename_i h; rcases h with h | h <;> simp [h])))
  | (subst hy; simp; omega)
structure Seg (f : Bool) (a : List UInt8) (g : Bool) : Prop where
 scan : ∀ r, scanB f false (a ++ r) = a.length + scanB g false r
 low : ∀ c ∈ a, 32 <= c.toNat
 vu : VU a
theorem Seg.app {f g h : Bool} {a b : List UInt8} (x : Seg f a g) (y : Seg g b h) : Seg f (a ++ b) h :=
 ⟨fun r => by rw [List.append_assoc, x.scan, y.scan, List.length_append]; omega, fun c hc => by
  rcases List.mem_append.1 hc with hc | hc
  ·exact x.low c hc
  ·exact y.low c hc, VU.app x.vu y.vu⟩
theorem Seg.free {a : List UInt8} {f : Bool} (h : ∀ c ∈ a, c ≠ 34 /\ c ≠ 35 /\ 32 <= c.toNat) (hv : VU a) : Seg f a (lastF f a) :=
 ⟨fun r => scan_free a f r (fun c hc => ⟨(h c hc).1, (h c hc).2.1⟩), fun c hc => (h c hc).2.2, hv⟩
theorem Seg.quote {x : ByteArray} (hx : utf8B x = true) : Seg true (quoteB x).data.toList false := by
 have hq : (quoteB x).data.toList = 34 :: (x.data.toList.flatMap qB ++ [34]) := by unfold quoteB; rw [if_pos hx]; simp
 refine ⟨fun r => ?_, fun c hc => ?_, VU.quote hx⟩
 ·rw [hq, List.cons_append, scan_open, List.append_assoc, scan_flat (by simp), List.cons_append, List.nil_append, scan_close]
  simp only [List.length_cons, List.length_append, List.length_nil]
  omega
 ·rw [hq] at hc
  simp only [List.mem_cons, List.mem_append, List.mem_nil_iff, or_false, List.mem_flatMap] at hc
  rcases hc with rfl | ⟨y, -, hy⟩ | rfl
  ·decide
  ·exact qB_32 y c hy
  ·decide
structure TxOk (x : List UInt8) : Prop where
 ne : x ≠ []
 hd : x.head? ≠ some 32
 lst : x.getLast? ≠ some 32
 seg : Seg true x false
theorem TxOk.free {a : List UInt8} (hne : a ≠ []) (h : ∀ c ∈ a, c ≠ 34 /\ c ≠ 35 /\ 32 <= c.toNat) (hd : a.head? ≠ some 32) (hl : a.getLast? ≠ some 32) (hv : VU a) : TxOk a := by
 have := Seg.free (f := true) h hv
 rw [lastF_false hne hl] at this
 exact ⟨hne, hd, hl, this⟩
theorem TxOk.quote {x : ByteArray} (hx : utf8B x = true) : TxOk (quoteB x).data.toList := by
 have hq : (quoteB x).data.toList = 34 :: (x.data.toList.flatMap qB ++ [34]) := by unfold quoteB; rw [if_pos hx]; simp
 refine ⟨by rw [hq]; simp, by rw [hq]; simp, ?_, Seg.quote hx⟩
 rw [hq, <- List.cons_append, List.getLast?_append]
 simp
structure PlainF (s : ByteArray) : Prop where
 pos : 1 <= s.size
 most : s.size <= 400
 utf : utf8B s = true
 first : ∀ c ∈ firstBad, byteI s 0 ≠ (c.toNat : Int)
 hd : byteI s 0 ≠ 32
 lst : byteI s (s.size - 1) ≠ 32
 all : ∀ i, i < s.size -> plainC s i = true
 figs : figsB s = false
 nul : s ≠ bs [110, 117, 108, 108]
 til : s ≠ bs [126]
 tru : s ≠ bs [116, 114, 117, 101]
 fal : s ≠ bs [102, 97, 108, 115, 101]
theorem plain_parts {s : ByteArray} (h : plainB s = true) : PlainF s := by
 unfold plainB at h
 simp only [Bool.and_eq_true, Bool.not_eq_true', decide_eq_true_eq, decide_eq_false_iff_not] at h
 obtain ⟨⟨⟨⟨⟨⟨⟨⟨⟨⟨⟨h1, h2⟩, h3⟩, h4⟩, h5⟩, h6⟩, h7⟩, h8⟩, h9⟩, h10⟩, h11⟩, h12⟩ := h
 refine ⟨h1, h2, h3, fun c hc => ?_, h5, h6, fun i hi => ?_, h8, h9, h10, h11, h12⟩
 ·have := List.any_eq_false.1 h4 c hc
  simpa using this
 ·unfold allR at h7
  exact List.all_eq_true.1 h7 i (List.mem_range.2 hi)
theorem PlainF.byte {s : ByteArray} (h : PlainF s) {i : Nat} (hi : i < s.size) : 32 <= byteI s i /\ byteI s i ≠ 34 /\ byteI s i ≠ 35 /\ byteI s i ≠ 92 /\ endsB s i = false := by
 have := h.all i hi
 unfold plainC at this
 simp only [Bool.not_eq_true', Bool.or_eq_false_iff, decide_eq_false_iff_not] at this
 obtain ⟨⟨⟨⟨h1, h2⟩, h3⟩, h4⟩, h5⟩ := this
 exact ⟨by omega, h2, h3, h4, h5⟩
theorem byte_toL {s : ByteArray} {i : Nat} {c : UInt8} (h : s.data.toList[i]? = some c) : i < s.size /\ byteI s i = (c.toNat : Int) := by
 have := byte_at h
 rw [bs_toL] at this
 exact this
theorem u8_ne {c : UInt8} {k : Nat} (h : (c.toNat : Int) ≠ (k : Int)) (hk : k < 256) : c ≠ UInt8.ofNat k := fun e => h (by rw [e]; simp; omega)
theorem TxOk.plain {s : ByteArray} (h : PlainF s) : TxOk s.data.toList := by
 have hl := toL_size s
 have hp := h.pos
 refine TxOk.free (fun e => by rw [e] at hl; simp at hl; omega) (fun c hc => ?_) (fun e => ?_) (fun e => ?_) (VU.utf h.utf)
 ·obtain ⟨i, hi⟩ := List.getElem?_of_mem hc
  obtain ⟨b1, b2⟩ := byte_toL hi
  obtain ⟨c1, c2, c3, -, -⟩ := h.byte b1
  rw [b2] at c1 c2 c3
  exact ⟨u8_ne (k := 34) c2 (by decide), u8_ne (k := 35) c3 (by decide), by omega⟩
 ·rw [List.head?_eq_getElem?] at e
  exact h.hd (byte_toL e).2
 ·rw [List.getLast?_eq_getElem?, hl] at e
  exact h.lst (byte_toL e).2
theorem TxOk.key {k : ByteArray} (h : strB k = true) : TxOk (keyText k).data.toList := by
 unfold keyText
 split
 ·rename_i hp
  exact TxOk.plain (plain_parts hp)
 ·exact TxOk.quote (strB_utf h).1
theorem TxOk.low {a : List UInt8} (hne : a ≠ []) (h : ∀ c ∈ a, c ≠ 34 /\ c ≠ 35 /\ 32 < c.toNat /\ c.toNat < 128) : TxOk a := by
 refine TxOk.free hne (fun c hc => ⟨(h c hc).1, (h c hc).2.1, Nat.le_of_lt (h c hc).2.2.1⟩) (fun e => ?_) (fun e => ?_) (VU.low (fun c hc => (h c hc).2.2.2))
 ·have := (h 32 (List.mem_of_mem_head? e)).2.2.1
  exact absurd this (by decide)
 ·have := (h 32 (List.mem_of_getLast? e)).2.2.1
  exact absurd this (by decide)
theorem dec_list (n : Int) : (decS n).data.toList = itoa n := by unfold decS; simp
theorem dec_bytes (n : Int) : ∀ c ∈ (decS n).data.toList, c.toNat = 45 ∨ (48 <= c.toNat /\ c.toNat <= 57) := by
 rw [dec_list]
 unfold itoa
 split
 ·intro c hc
  rcases List.mem_cons.1 hc with rfl | hc
  ·exact .inl rfl
  ·exact .inr (dec_figs _ c hc)
 ·intro c hc
  exact .inr (dec_figs _ c hc)
theorem dec_nonempty (n : Int) : (decS n).data.toList ≠ [] := by
 rw [dec_list]
 unfold itoa
 split
 ·simp
 ·exact dec_ne _
theorem TxOk.dec (n : Int) : TxOk (decS n).data.toList := TxOk.low (dec_nonempty n) (fun c hc => by
 have := dec_bytes n c hc
 exact ⟨fun e => by rw [e] at this; simp at this, fun e => by rw [e] at this; simp at this, by omega, by omega⟩)
theorem TxOk.item {x : List UInt8} (h : TxOk x) : TxOk ([45, 32] ++ x) := by
 refine ⟨by simp, by simp, ?_, ?_⟩
 ·rw [last_app h.ne]
  exact h.lst
 ·have h1 : Seg true [45, 32] true := by
   have := Seg.free (f := true) (a := [45, 32]) (by intro c hc; simp at hc; rcases hc with rfl | rfl <;> decide) (VU.low (by intro c hc; simp at hc; rcases hc with rfl | rfl <;> decide))
   exact this
  exact h1.app h.seg
theorem seg_colon : Seg false [58] false := by
 have := Seg.free (f := false) (a := [58]) (by intro c hc; simp at hc; subst hc; decide) (VU.low (by intro c hc; simp at hc; subst hc; decide))
 exact this
theorem seg_blank (f : Bool) : Seg f [32] true := by
 have := Seg.free (f := f) (a := [32]) (by intro c hc; simp at hc; subst hc; decide) (VU.low (by intro c hc; simp at hc; subst hc; decide))
 exact this
theorem TxOk.colon {x : List UInt8} (h : TxOk x) : TxOk (x ++ [58]) :=
 ⟨by simp, by
  cases x with
  | nil => exact absurd rfl h.ne
  | cons c x => exact h.hd, by rw [List.getLast?_append]; simp, h.seg.app seg_colon⟩
theorem TxOk.pair {x y : List UInt8} (h : TxOk x) (k : TxOk y) : TxOk (x ++ [58, 32] ++ y) := by
 refine ⟨by simp, ?_, ?_, ?_⟩
 ·cases x with
  | nil => exact absurd rfl h.ne
  | cons c x => exact h.hd
 ·rw [last_app k.ne]
  exact k.lst
 ·have h2 : Seg true (x ++ ([58] ++ [32])) true := h.seg.app (seg_colon.app (seg_blank false))
  exact Seg.app h2 k.seg
def render (p : Nat × List UInt8) : List UInt8 := List.replicate p.1 32 ++ p.2
theorem seg_blanks : ∀ i, Seg true (List.replicate i 32) true
 | 0 => ⟨fun r => by simp, fun c hc => by simp at hc, VU.nil⟩
 | i + 1 => by
  have := (seg_blank true).app (seg_blanks i)
  rw [List.replicate_succ]
  exact this
theorem line_okT {i : Nat} {x : List UInt8} (h : TxOk x) (k : Nat) : lineO k (render (i, x)) = [⟨i, bs x, k⟩] /\ lowB (render (i, x)) = false /\ VU (render (i, x)) /\ (10 : UInt8) ∉ render (i, x) := by
 have hs := (seg_blanks i).app h.seg
 have hb : bareL (render (i, x)) = render (i, x) := by
  unfold bareL
  have h1 := hs.scan []
  rw [List.append_nil] at h1
  have h2 : scanB false false [] = 0 := by simp [scanB]
  rw [h2, Nat.add_zero] at h1
  show trimRightB ((List.replicate i 32 ++ x).take (scanB true false (List.replicate i 32 ++ x))) 32 = _
  rw [h1, List.take_length]
  refine trimR_self ?_
  rw [last_app h.ne]
  exact h.lst
 have ht : trimLeftB (render (i, x)) 32 = x := trimL_rep h.hd i
 have hlow : ∀ c ∈ render (i, x), 32 <= c.toNat := hs.low
 refine ⟨?_, ?_, hs.vu, fun hm => ?_⟩
 ·unfold lineO indL
  rw [hb, if_neg (by unfold render; simp [h.ne]), ht]
  have : (render (i, x)).length - x.length = i := by unfold render; simp
  rw [this]
 ·unfold lowB
  rw [List.any_eq_false]
  intro c hc
  have := hlow c hc
  simpa using this
 ·exact absurd (hlow 10 hm) (by decide)
theorem find_none {s : ByteArray} (h : ∀ i, i < s.size -> endsB s i = false) : ∀ f i, findE s f i = none
 | 0, _ => rfl
 | f + 1, i => by
  unfold findE
  split
  ·rename_i hi
   rw [h i hi, if_neg (by decide), find_none h f (i + 1)]
  ·rfl
theorem find_some {s : ByteArray} {n : Nat} (hn : n < s.size) (he : endsB s n = true) (h : ∀ i, i < n -> endsB s i = false) : ∀ f i, i <= n -> n < i + f -> findE s f i = some n
 | 0, i, h1, h2 => by omega
 | f + 1, i, h1, h2 => by
  unfold findE
  rw [if_pos (by omega)]
  rcases Nat.lt_or_ge i n with h3 | h3
  ·rw [h i h3, if_neg (by decide)]
   exact find_some hn he h f (i + 1) (by omega) (by omega)
  ·obtain rfl : i = n := by omega
   rw [he, if_pos rfl]
theorem ne_first {s : ByteArray} {c : UInt8} {r : List UInt8} (h : byteI s 0 ≠ (c.toNat : Int)) : s ≠ bs (c :: r) := fun e => h (by rw [e]; exact (byte_at (l := c :: r) (i := 0) rfl).2)
theorem item_line {x : List UInt8} (h : TxOk x) : itemB (bs ([45, 32] ++ x)) = some (bs x, 2) := by
 have hx : 0 < x.length := List.length_pos_iff.2 h.ne
 have hne : bs ([45, 32] ++ x) ≠ bs [45] := fun e => by
  have := congrArg ByteArray.size e
  rw [bs_size, bs_size] at this
  simp at this
 have hz : (bs ([45, 32] ++ x)).size = x.length + 2 := by rw [bs_size]; simp
 have ht : tailL (bs ([45, 32] ++ x)) 2 = bs x := by
  unfold tailL
  rw [toL]
  show bs (trimLeftB x 32) = bs x
  rw [trimL_self h.hd]
 unfold itemB
 rw [if_neg hne, if_pos ⟨by omega, (byte_at (l := [45, 32] ++ x) (i := 0) rfl).2, (byte_at (l := [45, 32] ++ x) (i := 1) rfl).2⟩, ht, hz, bs_size]
 congr 2
 omega
theorem item_no {s : ByteArray} (h : byteI s 0 ≠ 45) : itemB s = none := by
 unfold itemB
 rw [if_neg (ne_first (c := 45) (r := []) h), if_neg (fun e => h e.2.1)]
theorem keyB_no {s : ByteArray} (h0 : byteI s 0 ≠ 34) (h : ∀ i, i < s.size -> endsB s i = false) : keyB s = none := by
 unfold keyB
 rw [if_neg (fun e => h0 e.2), find_none h]
theorem plain_ends {s : ByteArray} (h : PlainF s) : ∀ i, i < s.size -> endsB s i = false := fun _ hi => (h.byte hi).2.2.2.2
theorem ends_no58 {s : ByteArray} {i : Nat} (h : byteI s i ≠ 58) : endsB s i = false := by
 unfold endsB
 rw [decide_eq_false h, Bool.and_false, Bool.false_and]
def Tail (R : List UInt8) : Prop := R = [] ∨ ∃ y, TxOk y /\ R = 32 :: y
theorem Tail.trim {R : List UInt8} (h : Tail R) : trimLeftB R 32 = R.drop 1 := by
 rcases h with rfl | ⟨y, hy, rfl⟩
 ·rfl
 ·rw [trimL_blank, trimL_self hy.hd]
  rfl
theorem Tail.ends {K R : List UInt8} (h : Tail R) : endsB (bs (K ++ 58 :: R)) K.length = true := by
 have h1 := byte_at (l := K ++ 58 :: R) (i := K.length) (c := 58) (by rw [List.getElem?_append_right (Nat.le_refl _), Nat.sub_self]; rfl)
 have hz : (bs (K ++ 58 :: R)).size = K.length + (R.length + 1) := by rw [bs_size]; simp
 unfold endsB
 rw [decide_eq_true h1.1, decide_eq_true (show byteI (bs (K ++ 58 :: R)) K.length = 58 from h1.2)]
 rcases h with rfl | ⟨y, hy, rfl⟩
 ·rw [decide_eq_true (by rw [hz]; simp)]
  rfl
 ·have h2 := byte_at (l := K ++ 58 :: 32 :: y) (i := K.length + 1) (c := 32) (by rw [List.getElem?_append_right (by omega)]; simp)
  rw [decide_eq_true (show byteI (bs (K ++ 58 :: 32 :: y)) (K.length + 1) = 32 from h2.2), Bool.or_true]
  rfl
theorem key_line {k : ByteArray} (hk : strB k = true) {R : List UInt8} (hR : Tail R) : keyB (bs ((keyText k).data.toList ++ 58 :: R)) = some (k, bs (R.drop 1)) /\ itemB (bs ((keyText k).data.toList ++ 58 :: R)) = none := by
 have hends := hR.ends (K := (keyText k).data.toList)
 have htail : ∀ K : List UInt8, tailL (bs (K ++ 58 :: R)) (K.length + 1) = bs (R.drop 1) := fun K => by
  unfold tailL
  rw [toL, show K ++ 58 :: R = (K ++ [58]) ++ R by simp, show K.length + 1 = (K ++ [58]).length by simp, List.drop_left, hR.trim]
 unfold keyText at hends ⊢
 by_cases hp : plainB k = true
 ·rw [if_pos hp] at hends ⊢
  have h := plain_parts hp
  have hl := toL_size k
  have hpos := h.pos
  obtain ⟨s, hs⟩ : ∃ s, s = bs (k.data.toList ++ 58 :: R) := ⟨_, rfl⟩
  have hz : s.size = k.size + (R.length + 1) := by rw [hs, bs_size]; simp [hl]
  have hb : ∀ i, i < k.size -> byteI s i = byteI k i := fun i hi => by
   obtain ⟨c, hc⟩ := exists_at (show i < k.data.toList.length by omega)
   rw [(byte_toL hc).2, hs]
   exact (byte_at (by rw [List.getElem?_append_left (by omega)]; exact hc)).2
  have h0 := h.byte (i := 0) (by omega)
  have hbelow : ∀ i, i < k.data.toList.length -> endsB s i = false := fun i hi => by
   rw [hl] at hi
   have hki := (h.byte hi).2.2.2.2
   by_cases e58 : byteI s i = 58
   ·have e2 : byteI k i = 58 := by rw [<- hb i hi]; exact e58
    unfold endsB at hki
    rw [decide_eq_true hi, decide_eq_true e2, Bool.true_and, Bool.true_and, Bool.or_eq_false_iff] at hki
    have g1 := of_decide_eq_false hki.1
    have g2 := of_decide_eq_false hki.2
    unfold endsB
    rw [decide_eq_false (show ¬ i + 1 = s.size by omega), decide_eq_false (show ¬ byteI s (i + 1) = 32 by rw [hb (i + 1) (by omega)]; exact g2), Bool.or_false, Bool.and_false]
   ·exact ends_no58 e58
  rw [<- hs] at hends ⊢
  refine ⟨?_, item_no (by rw [hb 0 (by omega)]; exact h.first 45 (by decide))⟩
  unfold keyB
  rw [if_neg (fun e => h0.2.1 (by rw [<- hb 0 (by omega)]; exact e.2)), find_some (by omega) hends hbelow s.size 0 (Nat.zero_le _) (by omega)]
  simp only
  have ht : bs (s.data.toList.take k.data.toList.length) = k := by rw [hs, toL, List.take_left, bs_toL]
  rw [ht, if_pos hp, hs, htail]
 ·rw [if_neg hp] at hends ⊢
  have hu := strB_utf hk
  obtain ⟨s, hs⟩ : ∃ s, s = bs ((quoteB k).data.toList ++ 58 :: R) := ⟨_, rfl⟩
  have hrd : Rd s 0 ((quoteB k).data.toList ++ 58 :: R) := by rw [hs]; exact rd_all _
  obtain ⟨q1, q2, q3⟩ := quotB_back hu.1 hrd
  rw [<- hs] at hends ⊢
  refine ⟨?_, item_no (by rw [q1]; decide)⟩
  unfold keyB
  rw [Nat.zero_add] at q3
  rw [if_pos ⟨q2, q1⟩, q3]
  simp only
  rw [if_pos ⟨by omega, by rw [Int.toNat_natCast]; exact hends⟩, Int.toNat_natCast, hs, htail]
structure ScalOk (s : ByteArray) (d : TreeD) : Prop where
 tx : TxOk s.data.toList
 item : itemB s = none
 key : keyB s = none
 scal : scalB s = some d
theorem scal_word {l : List UInt8} {d : TreeD} (h1 : l ≠ []) (h2 : ∀ c ∈ l, c ≠ 34 /\ c ≠ 35 /\ 32 < c.toNat /\ c.toNat < 128) (h3 : itemB (bs l) = none) (h4 : keyB (bs l) = none) (h5 : scalB (bs l) = some d) : ScalOk (bs l) d := ⟨by rw [toL]; exact TxOk.low h1 h2, h3, h4, h5⟩
theorem scal_null : ScalOk (bs litN) tNull := scal_word (by decide) (by decide) (by kernel_rfl) (by kernel_rfl) (by kernel_rfl)
theorem scal_true : ScalOk (bs litT) (tFlag true) := scal_word (by decide) (by decide) (by kernel_rfl) (by kernel_rfl) (by kernel_rfl)
theorem scal_false : ScalOk (bs litF) (tFlag false) := scal_word (by decide) (by decide) (by kernel_rfl) (by kernel_rfl) (by kernel_rfl)
theorem scal_list : ScalOk (bs [91, 93]) (tList []) := scal_word (by decide) (by decide) (by kernel_rfl) (by kernel_rfl) (by kernel_rfl)
theorem scal_map : ScalOk (bs [123, 125]) (tMap [] []) := scal_word (by decide) (by decide) (by kernel_rfl) (by kernel_rfl) (by kernel_rfl)
theorem scal_intT {n : Int} (hn : I64 n) : ScalOk (decS n) (tInt n) := by
 have hrd : Rd (decS n) 0 ((decS n).data.toList ++ []) := by unfold Rd; simp
 obtain ⟨w1, w2, w3, w4, w5⟩ := whole_back hn (fun c hc => by cases hc) hrd
 have hb : ∀ i, i < (decS n).size -> byteI (decS n) i = 45 ∨ (48 <= byteI (decS n) i /\ byteI (decS n) i <= 57) := fun i hi => by
  obtain ⟨c, hc⟩ := exists_at (show i < (decS n).data.toList.length by rw [toL_size]; exact hi)
  have := dec_bytes n c (List.mem_of_getElem? hc)
  rw [(byte_toL hc).2]
  omega
 have h0 := hb 0 w1
 have hlen := toL_size (decS n)
 refine ⟨TxOk.dec n, ?_, keyB_no w3 (fun i hi => ends_no58 (by have := hb i hi; omega)), ?_⟩
 ·unfold itemB
  rw [if_neg (fun e => ?_), if_neg (fun e => ?_)]
  ·have h1 := hb 1 (by omega)
   omega
  ·have h2 : (decS n).data.toList = [45] := by rw [e, toL]
   rw [dec_list] at h2
   unfold itoa at h2
   split at h2
   ·simp only [List.cons.injEq, true_and] at h2
    exact dec_ne _ h2
   ·have := dec_figs n.toNat 45 (by rw [h2]; simp)
    unfold figB at this
    simp at this
 ·have hf : ∀ (c : UInt8) (r : List UInt8), c.toNat ≠ 45 -> ¬ (48 <= c.toNat /\ c.toNat <= 57) -> decS n ≠ bs (c :: r) := fun c r g1 g2 => ne_first (by omega)
  unfold scalB
  rw [if_neg (hf _ _ (by decide) (by decide)), if_neg (hf _ _ (by decide) (by decide)), if_neg (not_or.2 ⟨hf _ _ (by decide) (by decide), hf _ _ (by decide) (by decide)⟩), if_neg (hf _ _ (by decide) (by decide)), if_neg (hf _ _ (by decide) (by decide)), if_neg (fun e => w3 e.2), w5]
  rw [if_pos (by simp only; rw [hlen]; omega)]
theorem scal_plain {s : ByteArray} (hp : plainB s = true) : ScalOk s (tText s) := by
 have h := plain_parts hp
 have hpos := h.pos
 have h0 := h.byte (i := 0) (by omega)
 refine ⟨TxOk.plain h, item_no (h.first 45 (by decide)), keyB_no h0.2.1 (plain_ends h), ?_⟩
 unfold scalB
 rw [if_neg (ne_first (h.first 91 (by decide))), if_neg (ne_first (h.first 123 (by decide))), if_neg (not_or.2 ⟨h.nul, h.til⟩), if_neg h.tru, if_neg h.fal, if_neg (fun e => h0.2.1 e.2), if_neg ?_, if_pos hp]
 intro ⟨e1, e2⟩
 unfold wholeB at e1 e2
 rw [if_pos (show 0 < s.size by omega), if_neg (show ¬ byteI s 0 = 45 from h.first 45 (by decide))] at e1 e2
 have hd : digE s 0 = s.size := by
  unfold wholeA at e1 e2
  rw [if_neg (show ¬ (false = true) by decide)] at e1 e2
  split at e1
  ·rename_i c
   rw [if_pos c] at e2
   simp at e2
  ·rename_i c
   rw [if_neg c] at e2
   split at e1
   ·simp only at e1
    omega
   ·rename_i c2
    rw [if_neg c2] at e2
    simp at e2
 have hfg : figsB s = true := by
  unfold figsB
  rw [List.all_eq_true]
  intro c hc
  obtain ⟨i, hi⟩ := List.getElem?_of_mem hc
  obtain ⟨b1, b2⟩ := byte_toL hi
  have hg := (digE_figs (s := s) (j := 0) (t := i) (Nat.zero_le _) (by omega)).1
  rw [b2] at hg
  unfold figI at hg
  simp only [Bool.and_eq_true, decide_eq_true_eq] at hg ⊢
  omega
 rw [h.figs] at hfg
 cases hfg
theorem scal_quote {s : ByteArray} (hs : strB s = true) : ScalOk (quoteB s) (tText s) := by
 have hu := strB_utf hs
 have hrd : Rd (quoteB s) 0 ((quoteB s).data.toList ++ []) := by unfold Rd; simp
 obtain ⟨q1, q2, q3⟩ := quotB_back hu.1 hrd
 have hlen := toL_size (quoteB s)
 rw [Nat.zero_add, hlen] at q3
 have hf : ∀ (c : UInt8) (r : List UInt8), c.toNat ≠ 34 -> quoteB s ≠ bs (c :: r) := fun c r g => ne_first (by rw [q1]; omega)
 refine ⟨TxOk.quote hu.1, item_no (by rw [q1]; decide), ?_, ?_⟩
 ·unfold keyB
  rw [if_pos ⟨q2, q1⟩, q3]
  simp only
  rw [if_neg (fun e => ?_)]
  have := e.2
  rw [Int.toNat_natCast] at this
  unfold endsB at this
  rw [decide_eq_false (by omega), Bool.false_and, Bool.false_and] at this
  cases this
 ·unfold scalB
  rw [if_neg (hf _ _ (by decide)), if_neg (hf _ _ (by decide)), if_neg (not_or.2 ⟨hf _ _ (by decide), hf _ _ (by decide)⟩), if_neg (hf _ _ (by decide)), if_neg (hf _ _ (by decide)), if_pos ⟨q2, q1⟩, q3]
  show (if ((quoteB s).size : Int) = (quoteB s).size /\ s.size <= 400 then some (tText s) else none) = some (tText s)
  rw [if_pos ⟨rfl, hu.2⟩]
theorem scal_text {s : ByteArray} (hs : strB s = true) : ScalOk (keyText s) (tText s) := by
 unfold keyText
 split
 ·rename_i h
  exact scal_plain h
 ·exact scal_quote hs
theorem scal_of {n : Nat} {d : TreeD} (h : shapeT (n + 1) d = true) (hn : numT (n + 1) d) (hk : d.kids = []) : ScalOk (scalText d) d := by
 obtain ⟨h1, h2, h3, -, -⟩ := shape_parts h
 obtain ⟨⟨k1, k2⟩, p2, p3, p4, p5, -⟩ := bad_parts h1
 have hn1 := hn.1
 obtain ⟨kind, flag, num, text, keys, kids⟩ := d
 simp only at *
 subst hk
 unfold scalText
 simp only
 have hc : kind = 1 ∨ kind = 2 ∨ kind = 3 ∨ kind = 4 ∨ kind = 5 ∨ kind = 6 := by omega
 rcases hc with rfl | rfl | rfl | rfl | rfl | rfl
 ·rw [p2 (by decide), p3 (by decide), p4 (by decide), p5 (by decide)]
  exact scal_null
 ·rw [p3 (by decide), p4 (by decide), p5 (by decide)]
  cases flag
  ·exact scal_false
  ·exact scal_true
 ·rw [p2 (by decide), p4 (by decide), p5 (by decide)]
  exact scal_intT hn1
 ·rw [p2 (by decide), p3 (by decide), p5 (by decide)]
  exact scal_text h2
 ·rw [p2 (by decide), p3 (by decide), p4 (by decide), p5 (by decide)]
  exact scal_list
 ·rw [p2 (by decide), p3 (by decide), p4 (by decide)]
  have : keys = [] := by
   unfold lensOk at h3
   simp at h3
   exact h3
  rw [this]
  exact scal_map
end Go.Proofs.YtohcpifekcehjaaGreatDoor
