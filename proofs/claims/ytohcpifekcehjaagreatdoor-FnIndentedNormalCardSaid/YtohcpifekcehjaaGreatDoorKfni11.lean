/- Steps to FnIndentedNormal. No conditions. -/
import Derived.Test.YtohcpifekcehjaaGreatDoorKfni10
import Derived.Test.YtohcpifekcehjaaGreatDoorKfni9
import Derived.Test.YtohcpifekcehjaaGreatDoorKfni6
import Derived.Test.YtohcpifekcehjaaGreatDoorKfni1
import Derived.Test.YtohcpifekcehjaaGreatDoorKfni7
import Derived.Deep.RegionLaw
import Derived.Deep.CutBlock
import Derived.Deep.CutRange
import Derived.Test.YtohcpifekcehjaaGreatDoorKfni8
import Derived.Test.YtohcpifekcehjaaGreatDoorKfni5
set_option maxHeartbeats 16000000
set_option maxRecDepth 20000
namespace Go.Proofs.YtohcpifekcehjaaGreatDoor
open Go.RowKit Go.Lib
def DrT (k : Nat) (code : List UInt8) (p : Nat) (w : World) (e : Ending) (w' : World) : Prop :=
 ∃ d cs, e = .returned (.agg cs.toArray) /\ Drawn k d /\ OwnT k (fun q => w.heap.size <= q /\ q < w'.heap.size) w' d cs /\ Dr code p w w'
theorem Dr.fin {code : List UInt8} {p H : Nat} {w w1 wF : World} (h : Dr code p w w1) (hA : Aside (fun b => b = H) w1 wF) (hH : w.heap.size <= H) (hp : p < w.heap.size) : Dr code p w wF :=
 ⟨⟨hA.os.trans h.aside.os, hA.tape.trans h.aside.tape, hA.output.trans h.aside.output, Nat.le_trans h.size hA.size, fun b hb hn => (hA.block b (Nat.lt_of_lt_of_le hb h.size) (by omega)).trans (h.aside.block b hb hn)⟩,
  h.cur.keep (fun b hb => hA.block b (by have := h.cur.lt; omega) (by omega))⟩
theorem Drawn.le {k : Nat} {d : TreeD} (h : Drawn k d) (hk : k <= 4) : Jl k d <= 1048576 := by
 have h2 := h.size;rcases (show k = 0 ∨ k = 1 ∨ k = 2 ∨ k = 3 ∨ k = 4 by omega) with rfl | rfl | rfl | rfl | rfl
 all_goals exact Nat.le_trans h2 (by decide)
theorem Zu : QA 0 := by unfold QA; decide
theorem WJ {k : Nat} : Drawn (k + 1) ⟨1, false, 0, ⟨#[]⟩, [], []⟩ := Uj (by unfold Va Q6; simp) ZN rfl rfl rfl Zu (by rw [V4, if_pos rfl]; decide)
theorem WR {k : Nat} (x : Bool) : Drawn (k + 1) ⟨2, x, 0, ⟨#[]⟩, [], []⟩ := Uj (by unfold Va Q6; simp) ZN rfl rfl rfl Zu (by rw [V4, if_neg (show ¬ (2 : Int) = 1 by decide), if_pos rfl]; cases x <;> decide)
theorem JdB {k : Nat} {n : Int} (h : QA n) : Drawn (k + 1) ⟨3, false, n, ⟨#[]⟩, [], []⟩ := Uj (by unfold Va Q6; simp) ZN rfl rfl rfl h (by rw [V4, if_neg (show ¬ (3 : Int) = 1 by decide), if_neg (show ¬ (3 : Int) = 2 by decide), if_pos rfl]; exact Nat.le_trans (Nat.le_of_eq Array.length_toList) (Nat.le_trans (ZL n h) (by decide)))
theorem Z2 {k : Nat} {s : ByteArray} (h : WordOk s) : Drawn (k + 1) ⟨4, false, 0, s, [], []⟩ := Uj (by unfold Va Q6; simp) h rfl rfl rfl Zu (by rw [V4, if_neg (show ¬ (4 : Int) = 1 by decide), if_neg (show ¬ (4 : Int) = 2 by decide), if_neg (show ¬ (4 : Int) = 3 by decide), if_pos rfl]; exact h.quote)
theorem JhA {z : Int} (h : QA z) : ∀ x ∈ ([0, 1, -1, 42, 9223372036854775807, -9223372036854775808, z] : List Int), QA x := by
 intro x hx;simp only [List.mem_cons, List.mem_nil_iff, or_false] at hx;rcases hx with rfl | rfl | rfl | rfl | rfl | rfl | rfl
 all_goals first | exact h | (unfold QA; decide)
theorem Jg0 (code : List UInt8) (p : Nat) (w : World) (h : CurAt code p w) : Calls Tryz.prog 79 #[.pointer (some ⟨p, 0, none⟩), .int .i64 1] w (DrT 1 code p w) := by
 have hpl := h.lt;have hc := h.below (QI (o := (.cells #[.int .i64 0, .bool false, .int .i64 0, .string ⟨#[]⟩, .slice none 0 0, .slice none 0 0] 34)) (Below.refl w.heap.size w));go_enter Tryz.func79, Tryz.ntmps79
 go_wp2_with fail
 refine (JC code p 9 _ hc (by omega)).mono ?_;rintro e w1 ⟨x, rfl, hx0, hx1, -, hd⟩;have hx2 := hx1 (by decide);have hc1 := hd.cur;have HD := hid hd;clear hd hx1 hc;have hx : x = 0 ∨ x = 1 ∨ x = 2 ∨ x = 3 ∨ x = 4 ∨ x = 5 ∨ x = 6 ∨ x = 7 ∨ x = 8 := by omega
 clear hx0 hx2;rcases hx with q0 | q1 | q2 | q3 | q4 | q5 | q6 | q7 | q8
 ·subst q0
  have hZ := (HD.out.block (g := w.heap.size) (by simp) (by omega)).trans (Je (w := w) (o := (.cells #[.int .i64 0, .bool false, .int .i64 0, .string ⟨#[]⟩, .slice none 0 0, .slice none 0 0] 34)) rfl);obtain ⟨z0, z1, z2, z3, z4, z5, zf⟩ := Jf hZ;have zl := Ja hZ;go_wp2_with fail
  refine bodyPost_ret (v := .agg #[.int .i64 1, .bool false, .int .i64 0, .string ⟨#[]⟩, .slice none 0 0, .slice none 0 0]) (by simp only [results, Tryz.results79]; go_simp) rfl ⟨⟨1, false, 0, ⟨#[]⟩, [], []⟩, _, rfl, WJ, Qr (by unfold QA; decide) Zu (by decide), HD.out.cut.fin (H := w.heap.size) QC (Nat.le_refl _) hpl⟩
 ·subst q1
  go_wp2_with fail
  refine (YL code p 2 _ hc1 (by omega)).mono ?_;rintro e w2 ⟨x, rfl, hd2⟩;have hd3 := HD.out.trans hd2;have hZ := (hd3.block (g := w.heap.size) (by simp) (by omega)).trans (Je (w := w) (o := (.cells #[.int .i64 0, .bool false, .int .i64 0, .string ⟨#[]⟩, .slice none 0 0, .slice none 0 0] 34)) rfl);obtain ⟨z0, z1, z2, z3, z4, z5, zf⟩ := Jf hZ;have zl := Ja hZ;have HD2 := hid hd3.cut
  clear hd2 hd3;go_wp2_with fail
  refine bodyPost_ret (v := .agg #[.int .i64 2, .bool x, .int .i64 0, .string ⟨#[]⟩, .slice none 0 0, .slice none 0 0]) (by simp only [results, Tryz.results79]; go_simp) rfl ⟨⟨2, x, 0, ⟨#[]⟩, [], []⟩, _, rfl, WR x, Qr (by unfold QA; decide) Zu (by decide), HD2.out.fin (H := w.heap.size) QC (Nat.le_refl _) hpl⟩
 focus
  subst q2
 rotate_left
 focus
  subst q3
 rotate_left
 ·subst q4
  go_wp2_with fail
  refine (YT code p _ hc1).mono ?_;rintro e w2 ⟨s, rfl, hs, hd2⟩;have hd3 := HD.out.trans hd2;have HW := hid hs;have HD2 := hid hd3;clear hd2 hd3 hs;go_wp2_with fail
  refine (Vf s _).mono ?_;rintro e w4 ⟨rfl, hb4⟩;have hd6 := HD2.out.step hb4;have hZ := (hd6.block (g := w.heap.size) (by simp) (by omega)).trans (Je (w := w) (o := (.cells #[.int .i64 0, .bool false, .int .i64 0, .string ⟨#[]⟩, .slice none 0 0, .slice none 0 0] 34)) rfl);obtain ⟨z0, z1, z2, z3, z4, z5, zf⟩ := Jf hZ;have zl := Ja hZ;have HD4 := hid hd6.cut;clear hb4 hd6
  go_wp2_with fail
  refine bodyPost_ret (v := .agg #[.int .i64 4, .bool false, .int .i64 0, .string s, .slice none 0 0, .slice none 0 0]) (by simp only [results, Tryz.results79]; go_simp) rfl ⟨⟨4, false, 0, s, [], []⟩, _, rfl, Z2 HW.out, Qr (by unfold QA; decide) Zu (Nat.le_trans HW.out.2 (by decide)), HD4.out.fin (H := w.heap.size) QC (Nat.le_refl _) hpl⟩
 ·subst q5
  go_wp2_with fail
  refine (YT code p _ hc1).mono ?_;rintro e w2 ⟨s, rfl, hs, hd2⟩;have hd3 := HD.out.trans hd2;have HW := hid hs;have HD2 := hid hd3;clear hd2 hd3 hs;go_wp2_with fail
  refine (Vf s _).mono ?_;rintro e w4 ⟨rfl, hb4⟩;have hd6 := HD2.out.step hb4;have hZ := (hd6.block (g := w.heap.size) (by simp) (by omega)).trans (Je (w := w) (o := (.cells #[.int .i64 0, .bool false, .int .i64 0, .string ⟨#[]⟩, .slice none 0 0, .slice none 0 0] 34)) rfl);obtain ⟨z0, z1, z2, z3, z4, z5, zf⟩ := Jf hZ;have zl := Ja hZ;have HD4 := hid hd6.cut;clear hb4 hd6
  go_wp2_with fail
  refine bodyPost_ret (v := .agg #[.int .i64 4, .bool false, .int .i64 0, .string s, .slice none 0 0, .slice none 0 0]) (by simp only [results, Tryz.results79]; go_simp) rfl ⟨⟨4, false, 0, s, [], []⟩, _, rfl, Z2 HW.out, Qr (by unfold QA; decide) Zu (Nat.le_trans HW.out.2 (by decide)), HD4.out.fin (H := w.heap.size) QC (Nat.le_refl _) hpl⟩
 ·subst q6
  have hZ := (HD.out.block (g := w.heap.size) (by simp) (by omega)).trans (Je (w := w) (o := (.cells #[.int .i64 0, .bool false, .int .i64 0, .string ⟨#[]⟩, .slice none 0 0, .slice none 0 0] 34)) rfl);obtain ⟨z0, z1, z2, z3, z4, z5, zf⟩ := Jf hZ;have zl := Ja hZ;go_wp2_with fail
  refine bodyPost_ret (v := .agg #[.int .i64 1, .bool false, .int .i64 0, .string ⟨#[]⟩, .slice none 0 0, .slice none 0 0]) (by simp only [results, Tryz.results79]; go_simp) rfl ⟨⟨1, false, 0, ⟨#[]⟩, [], []⟩, _, rfl, WJ, Qr (by unfold QA; decide) Zu (by decide), HD.out.cut.fin (H := w.heap.size) QC (Nat.le_refl _) hpl⟩
 ·subst q7
  go_wp2_with fail
  refine (YL code p 2 _ hc1 (by omega)).mono ?_;rintro e w2 ⟨x, rfl, hd2⟩;have hd3 := HD.out.trans hd2;have hZ := (hd3.block (g := w.heap.size) (by simp) (by omega)).trans (Je (w := w) (o := (.cells #[.int .i64 0, .bool false, .int .i64 0, .string ⟨#[]⟩, .slice none 0 0, .slice none 0 0] 34)) rfl);obtain ⟨z0, z1, z2, z3, z4, z5, zf⟩ := Jf hZ;have zl := Ja hZ;have HD2 := hid hd3.cut
  clear hd2 hd3;go_wp2_with fail
  refine bodyPost_ret (v := .agg #[.int .i64 2, .bool x, .int .i64 0, .string ⟨#[]⟩, .slice none 0 0, .slice none 0 0]) (by simp only [results, Tryz.results79]; go_simp) rfl ⟨⟨2, x, 0, ⟨#[]⟩, [], []⟩, _, rfl, WR x, Qr (by unfold QA; decide) Zu (by decide), HD2.out.fin (H := w.heap.size) QC (Nat.le_refl _) hpl⟩
 focus
  subst q8
 rotate_left
 all_goals
  go_wp2_with fail
  refine (JfM code p _ hc1).mono ?_;rintro e w2 ⟨z, rfl, hz, hd2⟩;have hall : ∀ x ∈ ([0, 1, -1, 42, 9223372036854775807, -9223372036854775808, z] : List Int), QA x := JhA hz
  have Hall := hid hall;have hd3 := HD.out.trans hd2;have HD2 := hid hd3;have hc2 := hd2.cur;have hpl2 := hc2.lt;clear hd2 hd3 hz hall;go_wp2_with fail
  refine (YB code p ([0, 1, -1, 42, 9223372036854775807, -9223372036854775808, z] : List Int) _ w2.heap.size (w2.alloc (.cells #[.int .i64 0, .int .i64 1, .int .i64 (-1), .int .i64 42, .int .i64 9223372036854775807, .int .i64 (-9223372036854775808), .int .i64 z] 3)) (hc2.below (QI (Below.refl _ _))) (XS w2 ([0, 1, -1, 42, 9223372036854775807, -9223372036854775808, z] : List Int) (by simp) 3 _ rfl) hpl2 (by simp) (by simp)).mono ?_
  rintro e w3 ⟨y, rfl, hy, hd4⟩;have hd5 := HD2.out.trans (Dr.cut hd4);have HY := hid (Hall.out y hy);have HD3 := hid hd5;clear hd4 hd5 hy hc2;go_wp2_with fail
  refine (Ui y _).mono ?_;rintro e w4 ⟨rfl, hb4⟩;have hd6 := HD3.out.step hb4;have hZ := (hd6.block (g := w.heap.size) (by simp) (by omega)).trans (Je (w := w) (o := (.cells #[.int .i64 0, .bool false, .int .i64 0, .string ⟨#[]⟩, .slice none 0 0, .slice none 0 0] 34)) rfl);obtain ⟨z0, z1, z2, z3, z4, z5, zf⟩ := Jf hZ;have zl := Ja hZ;have HD4 := hid hd6.cut;clear hb4 hd6
  go_wp2_with fail
  refine bodyPost_ret (v := .agg #[.int .i64 3, .bool false, .int .i64 y, .string ⟨#[]⟩, .slice none 0 0, .slice none 0 0]) (by simp only [results, Tryz.results79]; go_simp) rfl ⟨⟨3, false, y, ⟨#[]⟩, [], []⟩, _, rfl, JdB HY.out, Qr (by unfold QA; decide) HY.out (by decide), HD4.out.fin (H := w.heap.size) QC (Nat.le_refl _) hpl⟩
theorem Jh9 {n base hi : Nat} {w wF : World} {l : List TreeD} {v : Value} {S : Nat -> Prop} (h : GrowK n base hi w l v) (hF : ∀ q, base <= q -> q < hi -> wF.heap[q]? = w.heap[q]?) (hS : ∀ b, base <= b -> b < hi -> S b) :
  OwnT (n + 1) S wF (JY l) [.int .i64 5, .bool false, .int .i64 0, .string ⟨#[]⟩, .slice none 0 0, v] :=
 OwnT.into ⟨_, _, fun _ => False, fun b => base <= b /\ b < hi, rfl, (show QA 5 from by unfold QA; decide), (show QA 0 from by unfold QA; decide), (show ByteArray.size ⟨#[]⟩ <= 9223372036854775807 from by decide), fun _ h => h.elim, fun b hb => hS b hb.1 hb.2,
  ⟨none, 0, rfl, Nat.le_refl _, by decide, fun h => by simp [JY] at h⟩, h.own.keep (fun b hb => hF b hb.1 hb.2) (fun _ h => h)⟩
theorem GrowK.carryD {code : List UInt8} {p n base hi : Nat} {w w' : World} {l : List TreeD} {v : Value} (h : GrowK n base hi w l v) (hd : Dr code p w w') (hp : p < base) (hh : hi <= w.heap.size) : GrowK n base hi w' l v := h.carry (Nat.le_refl _) (fun g h1 h2 => hd.block (g := g) (by omega) (by omega))
theorem JjJ {w : World} {b : Nat} {a0 a1 a2 a3 a4 a5 v0 v1 v2 v3 v4 v5 : Value} {e : TypeId} (h : w.heap[b]? = some (.cells #[a0, a1, a2, a3, a4, a5] e (0, 0))) :
  ((((((w.setCell ⟨b, 0, none⟩ v0).setCell ⟨b, 1, none⟩ v1).setCell ⟨b, 2, none⟩ v2).setCell ⟨b, 3, none⟩ v3).setCell ⟨b, 4, none⟩ v4).setCell ⟨b, 5, none⟩ v5).heap[b]? = some (.cells #[v0, v1, v2, v3, v4, v5] e (0, 0)) :=
 heap_setCell_same _ b 5 _ _ _ (heap_setCell_same _ b 4 _ _ _ (heap_setCell_same _ b 3 _ _ _ (heap_setCell_same _ b 2 _ _ _ (heap_setCell_same _ b 1 _ _ _ (heap_setCell_same w b 0 _ _ _ h)))))
theorem JfD (k : Nat) (hk : k <= 2) (ih : ∀ (code : List UInt8) (p : Nat) (w : World), CurAt code p w -> Calls Tryz.prog 79 #[.pointer (some ⟨p, 0, none⟩), .int .i64 ((k + 1 : Nat) : Int)] w (DrT (k + 1) code p w))
  (code : List UInt8) (p : Nat) (w : World) (h : CurAt code p w) : Calls Tryz.prog 79 #[.pointer (some ⟨p, 0, none⟩), .int .i64 ((k + 2 : Nat) : Int)] w (DrT (k + 2) code p w) := by
 obtain ⟨i0, hi, hz0, hz1, hz2⟩ := info_parts (show (Tryz.prog.info? 34).map (fun i => (i.zero, i.size, i.bytes)) = some (some (.agg #[.int .i64 0, .bool false, .int .i64 0, .string ⟨#[]⟩, .slice none 0 0, .slice none 0 0]), 6, 88) from by kernel_rfl);have hpl := h.lt;have hc := h.below (QI (o := (.cells #[.int .i64 0, .bool false, .int .i64 0, .string ⟨#[]⟩, .slice none 0 0, .slice none 0 0] 34)) (Below.refl w.heap.size w))
 obtain ⟨D, hD⟩ : ∃ D : Int, D = ((k + 2 : Nat) : Int) := ⟨_, rfl⟩
 have hD1 : 2 <= D := by omega
 have hD4 : D <= 4 := by omega
 obtain ⟨E, hE⟩ : ∃ E : Int, E = ((k + 1 : Nat) : Int) := ⟨_, rfl⟩
 have hDs : Hid (D - 1 = E) := hid (by omega);have hEw : Hid (IntKind.i64.wrap (D - 1) = E) := hid (by rw [IntWalk.i64_in _ (by omega)]; omega);rw [<- hE] at ih;rw [<- hD];clear hD hE;have dD : decide (D <= 1) = false := JmF (by omega);go_enter Tryz.func79, Tryz.ntmps79
 go_wp2_with fail
 refine (JC code p 9 _ hc (by omega)).mono ?_;rintro e w1 ⟨y, rfl, hy0, hy1, -, hd⟩;have hy2 := hy1 (by decide);have hc1 := hd.cur;have HD := hid hd;have hz1' := hd.size;simp at hz1';clear hd hy1 hc;have hy : y = 0 ∨ y = 1 ∨ y = 2 ∨ y = 3 ∨ y = 4 ∨ y = 5 ∨ y = 6 ∨ 7 <= y := by omega
 rcases hy with q0 | q1 | q2 | q3 | q4 | q5 | q6 | q7
 ·subst q0
  have hZ := (HD.out.block (g := w.heap.size) (by simp) (by omega)).trans (Je (w := w) (o := (.cells #[.int .i64 0, .bool false, .int .i64 0, .string ⟨#[]⟩, .slice none 0 0, .slice none 0 0] 34)) rfl);obtain ⟨z0, z1, z2, z3, z4, z5, zf⟩ := Jf hZ;have zl := Ja hZ;go_wp2_with fail
  refine bodyPost_ret (v := .agg #[.int .i64 1, .bool false, .int .i64 0, .string ⟨#[]⟩, .slice none 0 0, .slice none 0 0]) (by simp only [results, Tryz.results79]; go_simp) rfl ⟨⟨1, false, 0, ⟨#[]⟩, [], []⟩, _, rfl, WJ, Qr (by unfold QA; decide) Zu (by decide), HD.out.cut.fin (H := w.heap.size) QC (Nat.le_refl _) hpl⟩
 ·subst q1
  go_wp2_with fail
  refine (YL code p 2 _ hc1 (by omega)).mono ?_;rintro e w2 ⟨x, rfl, hd2⟩;have hd3 := HD.out.trans hd2;have hZ := (hd3.block (g := w.heap.size) (by simp) (by omega)).trans (Je (w := w) (o := (.cells #[.int .i64 0, .bool false, .int .i64 0, .string ⟨#[]⟩, .slice none 0 0, .slice none 0 0] 34)) rfl);obtain ⟨z0, z1, z2, z3, z4, z5, zf⟩ := Jf hZ;have zl := Ja hZ;have HD2 := hid hd3.cut
  clear hd2 hd3;go_wp2_with fail
  refine bodyPost_ret (v := .agg #[.int .i64 2, .bool x, .int .i64 0, .string ⟨#[]⟩, .slice none 0 0, .slice none 0 0]) (by simp only [results, Tryz.results79]; go_simp) rfl ⟨⟨2, x, 0, ⟨#[]⟩, [], []⟩, _, rfl, WR x, Qr (by unfold QA; decide) Zu (by decide), HD2.out.fin (H := w.heap.size) QC (Nat.le_refl _) hpl⟩
 focus
  subst q2
 rotate_left
 focus
  subst q3
 rotate_left
 ·subst q4
  go_wp2_with fail
  refine (YT code p _ hc1).mono ?_;rintro e w2 ⟨s, rfl, hs, hd2⟩;have hd3 := HD.out.trans hd2;have HW := hid hs;have HD2 := hid hd3;clear hd2 hd3 hs;go_wp2_with fail
  refine (Vf s _).mono ?_;rintro e w4 ⟨rfl, hb4⟩;have hd6 := HD2.out.step hb4;have hZ := (hd6.block (g := w.heap.size) (by simp) (by omega)).trans (Je (w := w) (o := (.cells #[.int .i64 0, .bool false, .int .i64 0, .string ⟨#[]⟩, .slice none 0 0, .slice none 0 0] 34)) rfl);obtain ⟨z0, z1, z2, z3, z4, z5, zf⟩ := Jf hZ;have zl := Ja hZ;have HD4 := hid hd6.cut;clear hb4 hd6
  go_wp2_with fail
  refine bodyPost_ret (v := .agg #[.int .i64 4, .bool false, .int .i64 0, .string s, .slice none 0 0, .slice none 0 0]) (by simp only [results, Tryz.results79]; go_simp) rfl ⟨⟨4, false, 0, s, [], []⟩, _, rfl, Z2 HW.out, Qr (by unfold QA; decide) Zu (Nat.le_trans HW.out.2 (by decide)), HD4.out.fin (H := w.heap.size) QC (Nat.le_refl _) hpl⟩
 ·subst q5
  go_wp2_with fail
  refine (YT code p _ hc1).mono ?_;rintro e w2 ⟨s, rfl, hs, hd2⟩;have hd3 := HD.out.trans hd2;have HW := hid hs;have HD2 := hid hd3;clear hd2 hd3 hs;go_wp2_with fail
  refine (Vf s _).mono ?_;rintro e w4 ⟨rfl, hb4⟩;have hd6 := HD2.out.step hb4;have hZ := (hd6.block (g := w.heap.size) (by simp) (by omega)).trans (Je (w := w) (o := (.cells #[.int .i64 0, .bool false, .int .i64 0, .string ⟨#[]⟩, .slice none 0 0, .slice none 0 0] 34)) rfl);obtain ⟨z0, z1, z2, z3, z4, z5, zf⟩ := Jf hZ;have zl := Ja hZ;have HD4 := hid hd6.cut;clear hb4 hd6
  go_wp2_with fail
  refine bodyPost_ret (v := .agg #[.int .i64 4, .bool false, .int .i64 0, .string s, .slice none 0 0, .slice none 0 0]) (by simp only [results, Tryz.results79]; go_simp) rfl ⟨⟨4, false, 0, s, [], []⟩, _, rfl, Z2 HW.out, Qr (by unfold QA; decide) Zu (Nat.le_trans HW.out.2 (by decide)), HD4.out.fin (H := w.heap.size) QC (Nat.le_refl _) hpl⟩
 ·subst q6
  clear hy0 hy2;go_wp2_with fail
  go_loopw [6, 7] (fun s6 s7 wr => ∃ (i c : Nat) (A : Option Addr) (l : List TreeD), i <= 3 /\ s7 = .int .i64 i /\ s6 = .slice A i c /\ l.length = i /\ GrowK (k + 1) w1.heap.size wr.heap.size wr l (.slice A i c) /\ (∀ t ∈ l, Drawn (k + 1) t) /\ wr.heap[w.heap.size]? = some (.cells #[.int .i64 0, .bool false, .int .i64 0, .string ⟨#[]⟩, .slice none 0 0, .slice none 0 0] 34 (0, 0)) /\ Dr code p w wr /\ w1.heap.size <= wr.heap.size) (fun _ s7 _ => 4 - (intOf s7).toNat)
  case atStart =>
   exact ⟨0, 0, _, [], Nat.zero_le _, rfl, rfl, rfl, GrowK.empty rfl (Nat.le_refl _), fun t ht => (by cases ht), (Below.heap_alloc _ _ _ (by omega)).trans ((HD.out.block (g := w.heap.size) (by simp) (by omega)).trans (Je rfl)), HD.out.cut.alloc _, by simp⟩
  case round =>
   obtain ⟨i, c, A, l, hi3, rfl, rfl, hl, hG, hall, hZ, hdr, hws⟩ := hrel;have HG := hid hG;have HA := hid hall;have HZ := hid hZ;have HR := hid hdr;have HL := hid hl;have hcr := hdr.cur;clear hG hall hZ hdr hl hc1;go_wp2_with fail
   refine (JC code p 4 _ hcr (by omega)).mono ?_;rintro e w2 ⟨x, rfl, hx0, hx1, -, hd2⟩;have hx2 := hx1 (by decide);have hc2 := hd2.cur;have HG2 := hid (HG.out.carryD hd2 (by omega) (Nat.le_refl _));have HZ2 := hid ((hd2.block (g := w.heap.size) (by omega) (by omega)).trans HZ.out);have HR2 := hid (HR.out.trans hd2);have hs2 := hd2.size;clear hd2 hx1 hcr;by_cases hlt : (i : Int) < x
   ·have dlt : decide ((i : Int) < x) = true := JmG hlt
    go_wp2_with fail
    rw [hDs.out];refine (ih code p _ hc2).mono ?_;rintro e w9 ⟨t, es, rfl, hT, hO, hd9⟩;obtain ⟨fA4, fc4, fA5, fc5, rfl, -⟩ := hO.flat;have HT := hid hT;have HO := hid hO;have hs9 := hd9.size;have HG9 := HG2.out.carryD hd9 (by omega) hs2;have HZ9 := hid ((hd9.block (g := w.heap.size) (by omega) (by omega)).trans HZ2.out);have HR9 := hid (HR2.out.trans hd9);have hcl := hd9.cur.lt
    obtain ⟨ess, F, e1, e2, e3, e4, e5, e6, e7⟩ := HG9;rw [HL.out] at e3;have E := hid (And.intro e1 (And.intro e2 (And.intro e3 (And.intro e4 (And.intro e5 (And.intro e6 e7))))));have Hown := hid (fun q (hq : (Value.slice A i c).ownBlock = some q) => (e3.lt q hq).1);clear hT hO hd9 hc2 e1 e2 e3 e4 e5 e6 e7;go_wp2_with (at_builtin; refine wpList_append_lies _ rfl (.tmp 53) (.tmp 58) 32 rfl w1.heap.size 34 i0 (.agg #[.int .i64 0, .bool false, .int .i64 0, .string ⟨#[]⟩, .slice none 0 0, .slice none 0 0]) 6 88 Tryz.underlying32 hi hz0 hz1 hz2 rfl (by decide) _ i ess.flatten rfl (E.out.2.2.1.alloc _) _ 1 1 [.int .i64 t.kind, .bool t.flag, .int .i64 t.num, .string t.text, .slice fA4 t.keys.length fc4, .slice fA5 t.kids.length fc5] rfl rfl (World.news_of_block (Je (by simp))) HO.out.one (by decide) (by unfold maxLen; omega) (by omega) (by simp; omega) _ rfl ?_)
    intro g cap w3 hown hgrow hat hlt3;have hs3 := hgrow.size;simp at hs3
    have hP := GrowK.push (n := k + 1) (base := w1.heap.size) (hi := wr.heap.size) (w := w9.alloc (.cells #[.int .i64 t.kind, .bool t.flag, .int .i64 t.num, .string t.text, .slice fA4 t.keys.length fc4, .slice fA5 t.kids.length fc5] 34)) (S := fun b => w2.heap.size <= b /\ b < w9.heap.size) i HL.out (by simp; omega) (HO.out.carry (fun b hb => Below.heap_alloc _ _ b hb.2) (fun b hb => hb)) (fun b hb => by simp; omega) hws ess F E.out.1 E.out.2.1 E.out.2.2.2.1 E.out.2.2.2.2.1 E.out.2.2.2.2.2.1
     (fun j d' es' h1 h2 => (E.out.2.2.2.2.2.2 j d' es' h1 h2).carry (fun b hb => Below.heap_alloc _ _ b (by have := (E.out.2.2.2.2.1 j b hb).2.1; omega)) (fun _ h => h)) hown hgrow (hat.imp id (fun h => by (try simp at h); (try simp); omega)) hlt3
    have HP := hid hP;have hno : ∀ q, q < w1.heap.size -> (Value.slice A i c).ownBlock ≠ some q := fun q hq e => by have := Hown.out q e; omega
    have HZ3 := hid (((hgrow.block w.heap.size (by simp; omega) (fun e => hno _ (by omega) e.symm)).trans (Below.heap_alloc _ _ _ (by omega))).trans HZ9.out);have hb3 : Below w1.heap.size w9 w3 := Below.grown (B := w1.heap.size) ((Below.refl _ _).alloc (by omega) _) hgrow (by simp; omega) (fun q hq => Hown.out q hq);have HR3 := hid (HR9.out.low (hb3.mono (by omega)) hpl);clear hgrow hown hat hP hno
    go_wp2_with fail
    go_roundw
    case rel => exact ⟨i + 1, cap, _, l ++ [t], by omega, by go_num, rfl, by rw [List.length_append, HL.out]; rfl, HP.out, fun u hu => by rcases List.mem_append.1 hu with hu | hu; exact HA.out u hu; (simp at hu; rw [hu]; exact HT.out), HZ3.out, HR3.out, by omega⟩
    case measure => first | omega | (simp [Lib.intOf]; omega) | (simp [intOf]; omega)
   have dlt : decide ((i : Int) < x) = false := JmF hlt;have hl := HL.out;subst hl;have hfit := ((Jck (k := k) (by omega) HA.out).fits (by omega)).1;have HC := hid ((Jh9 (S := fun q => w1.heap.size <= q /\ q < wr.heap.size) HG2.out (wF := w2) (fun _ _ _ => rfl) (fun b h1 h2 => ⟨h1, h2⟩)).toC (lo := 0) (hi := w2.heap.size) (fun b hb => ⟨Nat.zero_le _, by omega⟩));go_wp2_with fail
   refine (JeL (k + 1) l A c w2 0 HC.out hfit).mono ?_;rintro e w5 ⟨cs5, rfl, hO5, hb5⟩;obtain ⟨C4, d4, C5, d5, rfl, -⟩ := hO5.flat;have HO5 := hid hO5;have HD5 := hid (HR2.out.step hb5);have hZ5 := (hb5.block w.heap.size (by omega)).trans HZ2.out;obtain ⟨z0, z1, z2, z3, z4, z5, zf⟩ := Jf hZ5;have zl := Ja hZ5;have HDr := hid (Jck (k := k) (by omega) HA.out);clear hO5 hb5 hZ5 hfit
   go_wp2_with fail
   refine bodyPost_ret (v := .agg #[.int .i64 (JY l).kind, .bool (JY l).flag, .int .i64 (JY l).num, .string (JY l).text, .slice C4 (JY l).keys.length d4, .slice C5 (JY l).kids.length d5]) (by simp only [results, Tryz.results79]; go_simp) rfl ⟨JY l, _, rfl, HDr.out, HO5.out.carry (fun b hb => Aside.block (S := fun b => b = w.heap.size) (w := w5) QC b hb.2 (by have := hb.1; omega)) (fun b hb => by have q1 := hb.1; have q2 := hb.2; (try simp); omega), HD5.out.fin (H := w.heap.size) QC (Nat.le_refl _) hpl⟩
 ·have f0 : (y == 0) = false := JmH (by omega)
  have f1 : (y == 1) = false := JmH (by omega);have f2 : (y == 2) = false := JmH (by omega);have f3 : (y == 3) = false := JmH (by omega);have f4 : (y == 4) = false := JmH (by omega);have f5 : (y == 5) = false := JmH (by omega);have f6 : (y == 6) = false := JmH (by omega);clear hy0 hy2 q7;go_wp2_with fail
  go_loopw [9] (fun s9 wr => ∃ (i c4 c5 : Nat) (A4 A5 : Option Addr) (K : List ByteArray) (V : List TreeD), i <= 4 /\ s9 = .int .i64 i /\ wr.heap[w1.heap.size]? = some (.cells #[.int .i64 6, .bool false, .int .i64 0, .string ⟨#[]⟩, .slice A4 K.length c4, .slice A5 V.length c5] 34 (0, 0)) /\ OwnT (k + 2) (fun q => w1.heap.size < q /\ q < wr.heap.size) wr (QD K V) [.int .i64 6, .bool false, .int .i64 0, .string ⟨#[]⟩, .slice A4 K.length c4, .slice A5 V.length c5] /\ MapD (k + 1) i K V /\ wr.heap[w.heap.size]? = some (.cells #[.int .i64 0, .bool false, .int .i64 0, .string ⟨#[]⟩, .slice none 0 0, .slice none 0 0] 34 (0, 0)) /\ Dr code p w wr) (fun s9 _ => 5 - (intOf s9).toNat)
  case atStart =>
   exact ⟨0, 0, 0, none, none, [], [], Nat.zero_le _, rfl, Je rfl, Qr (by unfold QA; decide) Zu (by decide), MapD.nil _, (Below.heap_alloc _ _ _ (by omega)).trans ((HD.out.block (g := w.heap.size) (by simp) (by omega)).trans (Je rfl)), HD.out.cut.alloc _⟩
  case round =>
   clear f0 f1 f2 f3 f4 f5 f6;obtain ⟨i, c4, c5, A4, A5, K, V, hi4, rfl, hB, hO, hM, hZ, hdr⟩ := hrel;have HB := hid hB;have HO := hid hO;have HM := hid hM;have HZ := hid hZ;have HR := hid hdr;have hcr := hdr.cur;have hbl := Ja hB;clear hB hO hM hZ hdr hc1;go_wp2_with fail
   refine (JC code p 5 _ hcr (by omega)).mono ?_;rintro e w2 ⟨x, rfl, hx0, hx1, -, hd2⟩;have hx2 := hx1 (by decide);have HC2 := hid hd2.cur;have HB2 := hid ((hd2.block (g := w1.heap.size) hbl (by omega)).trans HB.out);have HZ2 := hid ((hd2.block (g := w.heap.size) (by omega) (by omega)).trans HZ.out);have HR2 := hid (HR.out.trans hd2);have hs2 := hd2.size;have HO2 := hid (HO.out.carry (S' := fun q => w1.heap.size < q /\ q < w2.heap.size) (fun b hb => hd2.block (g := b) hb.2 (by have := hb.1; omega)) (fun b hb => ⟨hb.1, by have := hb.2; omega⟩))
   clear hd2 hx1 hcr;obtain ⟨x0, x1, x2', x3, x4, x5, xf⟩ := Jf HB2.out;have xl := Ja HB2.out;by_cases hlt : (i : Int) < x
   ·have dlt : decide ((i : Int) < x) = true := JmG hlt
    have hxp : w1.heap.size ≠ p := by omega
    have hDw := hEw.out;have hz2b : Jl (k + 2) (QD K V) <= 1073741824 /\ QT (k + 2) (QD K V) <= 1048576 := by have h9 := (JcU (HM.out.more (m' := 4) (by omega))).fits (by omega); exact ⟨h9.2.1, h9.1⟩
    obtain ⟨hz2, hn2⟩ := hz2b;go_wp2_with fail
    go_region_law (first | (go_simp; go_at_call 147; refine (YT code p _ (HC2.out.below Jj)).mono ?_; rintro e wa ⟨s, rfl, hs, hda⟩; obtain ⟨p0, p1, p2, p3, p4, p5, pf⟩ := Jf ((hda.block (g := w1.heap.size) xl hxp).trans HB2.out); have pxl : w1.heap.size < wa.heap.size := Nat.lt_of_lt_of_le xl hda.size) | (go_simp; go_at_call 79; refine (ih code p _ (hda.cur.below Jj)).mono ?_; rintro e wb ⟨t, es, rfl, hT, hOt, hdb⟩; obtain ⟨tA4, tc4, tA5, tc5, rfl, -⟩ := hOt.flat; obtain ⟨r0, r1, r2, r3, r4, r5, rf⟩ := Jf ((hdb.block (g := w1.heap.size) pxl hxp).trans ((hda.block (g := w1.heap.size) xl hxp).trans HB2.out)); have rxl : w1.heap.size < wb.heap.size := Nat.lt_of_lt_of_le pxl hdb.size) | (go_simp; go_at_call 149; refine (Jjy (k + 1) (QD K V) t _ _ s _ 0 (((HO2.out.carry (S' := fun q => q < wb.heap.size) (fun b hb => (hdb.block (g := b) (Nat.lt_of_lt_of_le hb.2 hda.size) (by have := hb.1; omega)).trans (hda.block (g := b) hb.2 (by have := hb.1; omega))) (fun b hb => Nat.lt_of_lt_of_le hb.2 (Nat.le_trans hda.size hdb.size))).toC (lo := 0) (hi := wb.heap.size) (fun b hb => ⟨Nat.zero_le _, hb⟩)).now Jj) ((hOt.toC (lo := 0) (hi := wb.heap.size) (fun b hb => ⟨Nat.zero_le _, hb.2⟩)).now Jj) (Nat.le_trans hs.2 (by decide)) hz2 (hT.le (by omega)) hn2 (hT.fits (by omega)).1).mono ?_; rintro e wd ⟨cs3, rfl, hO3, hbd⟩; obtain ⟨K3, V3, hput, hM3⟩ := HM.out.put (n := k + 2) hs hT; rw [hput] at hO3; obtain ⟨B4, b4, B5, b5, rfl, -⟩ := hO3.flat; obtain ⟨v0, v1, v2, v3, v4, v5, vf⟩ := Jf ((hbd.block w1.heap.size rxl).trans ((hdb.block (g := w1.heap.size) pxl hxp).trans ((hda.block (g := w1.heap.size) xl hxp).trans HB2.out))); have vxl : w1.heap.size < wd.heap.size := Nat.lt_of_lt_of_le rxl hbd.size))
    all_goals
     have q1 := hda.size;have q2 := hdb.size;have q3 := hbd.size;have HDa := (HR2.out.step (Jj : Below w2.heap.size w2 _)).trans hda;have HDb := (HDa.step (Jj : Below wa.heap.size wa _)).trans hdb;have HDd := hid (HDb.step hbd);have HZd := hid ((hbd.block w.heap.size (by omega)).trans ((hdb.block (g := w.heap.size) (by (try simp); omega) (by omega)).trans ((hda.block (g := w.heap.size) (by (try simp); omega) (by omega)).trans HZ2.out)))
     have HBd := hid ((hbd.block w1.heap.size rxl).trans ((hdb.block (g := w1.heap.size) pxl hxp).trans ((hda.block (g := w1.heap.size) xl hxp).trans HB2.out)));have HO3 := hid hO3;have HM3 := hid hM3;clear HDa HDb hbd hdb hda hO3 hM3 hput hT hOt hs;go_wp2_with fail
     go_roundw
     case rel => exact ⟨i + 1, b4, b5, B4, B5, K3, V3, by omega, by go_num, JjJ HBd.out, HO3.out.carry (fun b hb => Aside.block (S := fun b => b = w1.heap.size) (w := wd) QC b hb.2 (by have q5 := hb.1; (try simp at q5); omega)) (fun b hb => by have q5 := hb.1; have q6 := hb.2; (try simp at q5); (try simp); omega), HM3.out, Eq.trans (Aside.block (S := fun b => b = w1.heap.size) (w := wd) QC w.heap.size (by omega) (by omega)) HZd.out, HDd.out.fin (H := w1.heap.size) QC (by omega) hpl⟩
     case measure => first | omega | (simp [Lib.intOf]; omega) | (simp [intOf]; omega)
   have dlt : decide ((i : Int) < x) = false := JmF hlt;obtain ⟨z0, z1, z2, z3, z4, z5, zf⟩ := Jf HZ2.out;have zl := Ja HZ2.out;have HDr := hid (JcU (HM.out.more (m' := 4) (by omega)));go_wp2_with fail
   refine bodyPost_ret (v := .agg #[.int .i64 6, .bool false, .int .i64 0, .string ⟨#[]⟩, .slice A4 K.length c4, .slice A5 V.length c5]) (by simp only [results, Tryz.results79]; go_simp) rfl ⟨QD K V, _, rfl, HDr.out, HO2.out.carry (fun b hb => Aside.block (S := fun b => b = w.heap.size) (w := w2) QC b hb.2 (by have := hb.1; omega)) (fun b hb => by have q1 := hb.1; have q2 := hb.2; (try simp); omega), HR2.out.fin (H := w.heap.size) QC (Nat.le_refl _) hpl⟩
 all_goals
  go_wp2_with fail
  refine (JfM code p _ hc1).mono ?_;rintro e w2 ⟨z, rfl, hz, hd2⟩;have hall : ∀ x ∈ ([0, 1, -1, 42, 9223372036854775807, -9223372036854775808, z] : List Int), QA x := JhA hz
  have Hall := hid hall;have hd3 := HD.out.trans hd2;have HD2 := hid hd3;have hc2 := hd2.cur;have hpl2 := hc2.lt;clear hd2 hd3 hz hall;go_wp2_with fail
  refine (YB code p ([0, 1, -1, 42, 9223372036854775807, -9223372036854775808, z] : List Int) _ w2.heap.size (w2.alloc (.cells #[.int .i64 0, .int .i64 1, .int .i64 (-1), .int .i64 42, .int .i64 9223372036854775807, .int .i64 (-9223372036854775808), .int .i64 z] 3)) (hc2.below (QI (Below.refl _ _))) (XS w2 ([0, 1, -1, 42, 9223372036854775807, -9223372036854775808, z] : List Int) (by simp) 3 _ rfl) hpl2 (by simp) (by simp)).mono ?_
  rintro e w3 ⟨y, rfl, hy, hd4⟩;have hd5 := HD2.out.trans (Dr.cut hd4);have HY := hid (Hall.out y hy);have HD3 := hid hd5;clear hd4 hd5 hy hc2;go_wp2_with fail
  refine (Ui y _).mono ?_;rintro e w4 ⟨rfl, hb4⟩;have hd6 := HD3.out.step hb4;have hZ := (hd6.block (g := w.heap.size) (by simp) (by omega)).trans (Je (w := w) (o := (.cells #[.int .i64 0, .bool false, .int .i64 0, .string ⟨#[]⟩, .slice none 0 0, .slice none 0 0] 34)) rfl);obtain ⟨z0, z1, z2, z3, z4, z5, zf⟩ := Jf hZ;have zl := Ja hZ;have HD4 := hid hd6.cut;clear hb4 hd6
  go_wp2_with fail
  refine bodyPost_ret (v := .agg #[.int .i64 3, .bool false, .int .i64 y, .string ⟨#[]⟩, .slice none 0 0, .slice none 0 0]) (by simp only [results, Tryz.results79]; go_simp) rfl ⟨⟨3, false, y, ⟨#[]⟩, [], []⟩, _, rfl, JdB HY.out, Qr (by unfold QA; decide) HY.out (by decide), HD4.out.fin (H := w.heap.size) QC (Nat.le_refl _) hpl⟩
theorem Je5 : ∀ k, k <= 3 -> ∀ (code : List UInt8) (p : Nat) (w : World), CurAt code p w -> Calls Tryz.prog 79 #[.pointer (some ⟨p, 0, none⟩), .int .i64 ((k + 1 : Nat) : Int)] w (DrT (k + 1) code p w)
 | 0, _, code, p, w, h => Jg0 code p w h
 | k + 1, hk, code, p, w, h => JfD k (by omega) (Je5 k (by omega)) code p w h
theorem bb {a b c : World} (h : Below a.heap.size a b) (k : Below b.heap.size b c) : Below a.heap.size a c := h.trans (k.mono h.size)
structure Four (w : World) : Prop where
 pow : Pow w
 err : ErrR w
 tab : Tabs w
 cas : CTab w
theorem Four.below {w w' : World} (h : Four w) (hb : Below w.heap.size w w') : Four w' := ⟨h.pow.below hb, h.err.below hb, h.tab.below hb, h.cas.below hb⟩
theorem Jdk (s : ByteArray) (j : Nat) : QA (JF s j).1 := by
 unfold JF;split
 ·split
  focus
   unfold VC;split
   ·exact QS
   rw [if_pos rfl]
  rotate_left
  focus
   unfold VC;split
   ·exact QS
   rw [if_neg (by decide)]
  rotate_left
  all_goals
   split
   ·unfold QA; simp only; omega
   exact QS
 exact QS
theorem X6 {s : ByteArray} (h : Qa s = true) : Qs s = true := by
 unfold Qa at h;simp only [Bool.and_eq_true, decide_eq_true_eq] at h;unfold Qs;rw [h.1.1.1.1.1.1.1.1.1.2, JmG h.1.1.1.1.1.1.1.1.1.1.2];rfl
theorem Je6 {s : ByteArray} {j : Nat} (h : 0 <= (Jr s j).2) (hs : (Jr s j).1.size <= 400) : Qs (Jr s j).1 = true := by
 have h1 := (JgT (s := s) (j := j) (by omega)).1;unfold Qs;rw [h1, JmG hs];rfl
theorem JhD {s : ByteArray} {t : TreeD} (h : JL s = some t) {N d : Nat} (hd : d <= 8) : VOk (N + 1) d t /\ Jl (N + 1) t = 1 := by
 unfold JL at h;by_cases c1 : s = bs [91, 93]
 ·rw [if_pos c1] at h
  cases h
  exact Yj hd (by unfold Va JY Q6; simp) QL (by unfold JQ JY; simp) rfl rfl QS
 rw [if_neg c1] at h;by_cases c2 : s = bs [123, 125]
 ·rw [if_pos c2] at h
  cases h
  exact Yj hd (by unfold Va QD Q6; simp) QL (by unfold JQ QD; simp) rfl rfl QS
 rw [if_neg c2] at h;by_cases c3 : s = bs [110, 117, 108, 108] ∨ s = bs [126]
 ·rw [if_pos c3] at h
  cases h
  exact Yj hd (by unfold Va UD Q6; simp) QL (by unfold JQ UD; simp) rfl rfl QS
 rw [if_neg c3] at h;by_cases c4 : s = bs [116, 114, 117, 101]
 ·rw [if_pos c4] at h
  cases h
  exact Yj hd (by unfold Va Wx Q6; simp) QL (by unfold JQ Wx; simp) rfl rfl QS
 rw [if_neg c4] at h;by_cases c5 : s = bs [102, 97, 108, 115, 101]
 ·rw [if_pos c5] at h
  cases h
  exact Yj hd (by unfold Va Wx Q6; simp) QL (by unfold JQ Wx; simp) rfl rfl QS
 rw [if_neg c5] at h;by_cases c6 : 0 < s.size /\ Jb s 0 = 34
 ·rw [if_pos c6] at h
  by_cases c7 : (Jr s 0).2 = s.size /\ (Jr s 0).1.size <= 400
  ·rw [if_pos c7] at h
   cases h
   exact Yj hd (by unfold Va VR Q6; simp) (Je6 (by omega) c7.2) (by unfold JQ VR; simp) rfl rfl QS
  rw [if_neg c7] at h; cases h
 rw [if_neg c6] at h;by_cases c8 : (JF s 0).2 = s.size /\ 0 < (JF s 0).2
 ·rw [if_pos c8] at h
  cases h
  exact Yj hd (by unfold Va Jid Q6; simp) QL (by unfold JQ Jid; simp) rfl rfl (Jdk s 0)
 rw [if_neg c8] at h;by_cases c9 : Qa s = true
 ·rw [if_pos c9] at h
  cases h
  exact Yj hd (by unfold Va VR Q6; simp) (X6 c9) (by unfold JQ VR; simp) rfl rfl QS
 ·rw [if_neg c9] at h; cases h
theorem JjN (l : List UInt8) : (bs l).size = l.length := by show l.toArray.size = l.length; simp
theorem Jkd (l : List UInt8) : (trimLeftB l 32).length <= l.length := by
 unfold trimLeftB;exact (List.dropWhile_sublist _).length_le
theorem JaR (s : ByteArray) (i : Nat) : (Qb s i).size <= s.size - i := by
 unfold Qb;rw [JjN];have h1 := Jkd (s.data.toList.drop i);have h2 : s.data.toList.length = s.size := Array.length_toList;rw [List.length_drop] at h1;omega
theorem Jjz {s key rest : ByteArray} (h : Qq s = some (key, rest)) (hk : ¬ 400 < key.size) : Qs key = true := by
 unfold Qq at h;by_cases c1 : 0 < s.size /\ Jb s 0 = 34
 ·rw [if_pos c1] at h
  by_cases c2 : 0 <= (Jr s 0).2 /\ Qc s (Jr s 0).2.toNat = true
  ·rw [if_pos c2] at h
   cases h
   exact Je6 c2.1 (by omega)
  rw [if_neg c2] at h; cases h
 rw [if_neg c1] at h;rcases hf : Un s s.size 0 with _ | i
 ·rw [hf] at h; cases h
 rw [hf] at h;simp only at h;by_cases c3 : Qa (bs (s.data.toList.take i)) = true
 ·rw [if_pos c3] at h
  cases h
  exact X6 c3
 rw [if_neg c3] at h; cases h
theorem JhU {s rest : ByteArray} {k : Nat} (h : Jy s = some (rest, k)) : rest.size <= s.size := by
 unfold Jy at h;by_cases c1 : s = bs [45]
 ·rw [if_pos c1] at h
  cases h
  exact Nat.zero_le _
 rw [if_neg c1] at h;by_cases c2 : 2 <= s.size /\ Jb s 0 = 45 /\ Jb s 1 = 32
 ·rw [if_pos c2] at h
  cases h
  have := JaR s 2;omega
 rw [if_neg c2] at h; cases h
theorem JiU {s rest : ByteArray} {k : Nat} (h : Jy s = some (rest, k)) (hk : k ≠ 0) : rest.size + 2 <= s.size := by
 unfold Jy at h;by_cases c1 : s = bs [45]
 ·rw [if_pos c1] at h
  cases h
  exact absurd rfl hk
 rw [if_neg c1] at h;by_cases c2 : 2 <= s.size /\ Jb s 0 = 45 /\ Jb s 1 = 32
 ·rw [if_pos c2] at h
  cases h
  have := JaR s 2;omega
 rw [if_neg c2] at h; cases h
theorem VH (n d : Nat) (x : LineD) (r : List LineD) (m : Nat) : Jn (n + 1) (.value d) (x :: r) m = (match J1 d m x.at' with
   | some f => .bad f
   | none =>
    if (Jy x.text).isSome then Jn n (.list x.ind d []) (x :: r) (m + 1)
    else if (Qq x.text).isSome then Jn n (.pairs x.ind d [] []) (x :: r) (m + 1)
    else match JL x.text with
     | some t => .good t r (m + 1)
     | none => .bad (Qd 4 x.at')) := rfl
def UT (i : Nat) : List LineD -> Bool
 | [] => false
 | x :: _ => decide (i < x.ind)
theorem VG (n i d a : Nat) (L : List LineD) (m : Nat) : Jn (n + 1) (.below i d a) L m = if UT i L = true then Jn n (.value d) L m else (match J1 d m a with
   | some f => .bad f
   | none => .good UD L (m + 1)) := by
 cases L <;> rfl
def Yz (n i d : Nat) (x : LineD) (r : List LineD) (rest : ByteArray) (k m : Nat) : ResI := if k = 0 then Jn n (.below i (d + 1) x.at') r m else Jn n (.value (d + 1)) (⟨i + k, rest, x.at'⟩ :: r) m
theorem Vb (n i d : Nat) (acc : List TreeD) (x : LineD) (r : List LineD) (m : Nat) : Jn (n + 1) (.list i d acc) (x :: r) m = if x.ind ≠ i then .good (JY acc) (x :: r) m else (match Jy x.text with
   | none => .good (JY acc) (x :: r) m
   | some (rest, k) => match Yz n i d x r rest k m with
    | .bad f => .bad f
    | .good t L' m' => Jn n (.list i d (acc ++ [t])) L' m') := rfl
theorem UM (n i d : Nat) (acc : List TreeD) (m : Nat) : Jn (n + 1) (.list i d acc) [] m = .good (JY acc) [] m := rfl
def Vk (n i d : Nat) (x : LineD) (r : List LineD) (rest : ByteArray) (m : Nat) : ResI := if rest.size = 0 then Jn n (.below i (d + 1) x.at') r m else match J1 (d + 1) m x.at' with
      | some f => .bad f
      | none => match JL rest with
       | none => .bad (Qd 4 x.at')
       | some t => .good t r (m + 1)
theorem QR (n i d : Nat) (ks : List ByteArray) (acc : List TreeD) (x : LineD) (r : List LineD) (m : Nat) : Jn (n + 1) (.pairs i d ks acc) (x :: r) m = if x.ind ≠ i ∨ (Jy x.text).isSome then .good (QD ks acc) (x :: r) m else (match Qq x.text with
   | none => .good (QD ks acc) (x :: r) m
   | some (key, rest) =>
    if 400 < key.size then .bad (Qd 8 x.at')
    else if ks.contains key then .bad (Qd 5 x.at')
    else match Vk n i d x r rest m with
     | .bad f => .bad f
     | .good t L' m' => Jn n (.pairs i d (J3 ks (Qy ks key) key) (J3 acc (Qy ks key) t)) L' m') := rfl
theorem Um (n i d : Nat) (ks : List ByteArray) (acc : List TreeD) (m : Nat) : Jn (n + 1) (.pairs i d ks acc) [] m = .good (QD ks acc) [] m := rfl
theorem Vp {d m a : Nat} (h : J1 d m a = none) : d <= 8 /\ m < 300 := by
 unfold J1 at h;by_cases c1 : 8 < d
 ·rw [if_pos c1] at h; cases h
 rw [if_neg c1] at h;by_cases c2 : 300 <= m
 ·rw [if_pos c2] at h; cases h
 omega
theorem Ud {d m a : Nat} {f : Flt} (h : J1 d m a = some f) : f.code ≠ 0 := by
 unfold J1 at h;by_cases c1 : 8 < d
 ·rw [if_pos c1] at h
  cases h
  exact (show (6 : Int) ≠ 0 by decide)
 rw [if_neg c1] at h;by_cases c2 : 300 <= m
 ·rw [if_pos c2] at h
  cases h
  exact (show (7 : Int) ≠ 0 by decide)
 rw [if_neg c2] at h; cases h
def Jgd (j : JobI) (m : Nat) (t : TreeD) (m' : Nat) : Prop := match j with
 | .value d => ∀ N, N + d = 11 -> VOk N d t /\ m' = m + Jl N t /\ m' <= 300
 | .below _ d _ => ∀ N, N + d = 11 -> VOk N d t /\ m' = m + Jl N t /\ m' <= 300
 | .list _ d acc => ∀ N, N + d = 10 -> ∃ more, t = JY (acc ++ more) /\ (∀ x ∈ more, VOk N (d + 1) x) /\ m' = m + QZ (Jl N) more /\ m' <= 300
 | .pairs _ d ks acc => ∀ N, N + d = 10 -> ks.length = acc.length -> Q4 ks -> (∀ k ∈ ks, Qs k = true) -> (∀ x ∈ acc, VOk N (d + 1) x) -> ∃ ks' l', t = QD ks' l' /\ ks'.length = l'.length /\ Q4 ks' /\ (∀ k ∈ ks', Qs k = true) /\ (∀ x ∈ l', VOk N (d + 1) x) /\
   m' + QZ (Jl N) acc = m + QZ (Jl N) l' /\ m' <= 300
theorem Vj : ∀ (n : Nat) (j : JobI) (L : List LineD) (m : Nat) (t : TreeD) (L' : List LineD) (m' : Nat), Jn n j L m = .good t L' m' -> m <= 300 -> Jgd j m t m'
 | 0, j, L, m, t, L', m', h, _ => by cases h
 | n + 1, .value d, [], m, t, L', m', h, hm => by cases h
 | n + 1, .value d, x :: r, m, t, L', m', h, hm => by
  rw [VH] at h;rcases hb : J1 d m x.at' with _ | f
  ·rw [hb] at h
   simp only at h;obtain ⟨hd, hm3⟩ := Vp hb;intro N hN;obtain ⟨N, rfl⟩ : ∃ M, N = M + 1 := ⟨N - 1, by omega⟩
   by_cases c1 : (Jy x.text).isSome = true
   ·rw [if_pos c1] at h
    obtain ⟨more, g1, g2, g3, g4⟩ := Vj n _ _ _ _ _ _ h (by omega) N (by omega);rw [List.nil_append] at g1;subst g1;refine ⟨Jlg hd g2, ?_, g4⟩;rw [JJ];show m' = m + (1 + QZ (Jl N) more)
    omega
   rw [if_neg c1] at h;by_cases c2 : (Qq x.text).isSome = true
   ·rw [if_pos c2] at h
    obtain ⟨ks, l, g1, g2, g3, g4, g5, g6, g7⟩ := Vj n _ _ _ _ _ _ h (by omega) N (by omega) rfl List.Pairwise.nil (fun k hk => by cases hk) (fun k hk => by cases hk);subst g1;simp only [QZ] at g6;refine ⟨JlS hd g2 g3 g4 g5, ?_, g7⟩;rw [JJ];show m' = m + (1 + QZ (Jl N) l)
    omega
   rw [if_neg c2] at h;rcases hs : JL x.text with _ | u
   ·rw [hs] at h; cases h
   ·rw [hs] at h
    cases h
    have h1 := JhD hs (N := N) hd;exact ⟨h1.1, by rw [h1.2], by omega⟩
  rw [hb] at h; cases h
 | n + 1, .below i d a, L, m, t, L', m', h, hm => by
  rw [VG] at h;by_cases c : UT i L = true
  ·rw [if_pos c] at h
   exact Vj n (.value d) L m t L' m' h hm
  rw [if_neg c] at h;rcases hb : J1 d m a with _ | f
  ·rw [hb] at h
   obtain ⟨hd, hm3⟩ := Vp hb;cases h
   intro N hN;obtain ⟨N, rfl⟩ : ∃ M, N = M + 1 := ⟨N - 1, by omega⟩
   obtain ⟨h1, h2⟩ := Yj (N := N) (d := d) (t := UD) hd (by unfold Va UD Q6; simp) QL (by unfold JQ UD; simp) rfl rfl QS;exact ⟨h1, by rw [h2], by omega⟩
  rw [hb] at h; cases h
 | n + 1, .list i d acc, [], m, t, L', m', h, hm => by
  cases h
  intro N hN;exact ⟨[], by rw [List.append_nil], fun x hx => (by cases hx), rfl, hm⟩
 | n + 1, .list i d acc, x :: r, m, t, L', m', h, hm => by
  rw [Vb] at h
  have stop : ∀ {t L' m'}, ResI.good (JY acc) (x :: r) m = .good t L' m' -> Jgd (.list i d acc) m t m' := fun e => by
   cases e
   intro N hN;exact ⟨[], by rw [List.append_nil], fun x hx => (by cases hx), rfl, hm⟩
  by_cases c1 : x.ind ≠ i
  ·rw [if_pos c1] at h
   exact stop h
  rw [if_neg c1] at h;rcases hi : Jy x.text with _ | ⟨rest, k⟩
  ·rw [hi] at h
   exact stop h
  rw [hi] at h;simp only at h;rcases hr : Yz n i d x r rest k m with f | ⟨u, L1, m1⟩
  ·rw [hr] at h; cases h
  rw [hr] at h;simp only at h
  have hv : ∀ N, N + (d + 1) = 11 -> VOk N (d + 1) u /\ m1 = m + Jl N u /\ m1 <= 300 := by
   unfold Yz at hr;by_cases c2 : k = 0
   ·rw [if_pos c2] at hr
    exact Vj n (.below i (d + 1) x.at') _ _ _ _ _ hr hm
   rw [if_neg c2] at hr;exact Vj n (.value (d + 1)) _ _ _ _ _ hr hm
  intro N hN;obtain ⟨v1, v2, v3⟩ := hv N (by omega);obtain ⟨more, g1, g2, g3, g4⟩ := Vj n _ _ _ _ _ _ h v3 N hN;refine ⟨u :: more, by rw [g1, List.append_assoc]; rfl, fun y hy => ?_, ?_, g4⟩
  ·rcases List.mem_cons.1 hy with rfl | hy
   ·exact v1
   exact g2 y hy
  ·simp only [QZ]; omega
 | n + 1, .pairs i d ks acc, [], m, t, L', m', h, hm => by
  cases h
  intro N hN g1 g2 g3 g4;exact ⟨ks, acc, rfl, g1, g2, g3, g4, rfl, hm⟩
 | n + 1, .pairs i d ks acc, x :: r, m, t, L', m', h, hm => by
  rw [QR] at h
  have stop : ∀ {t L' m'}, ResI.good (QD ks acc) (x :: r) m = .good t L' m' -> Jgd (.pairs i d ks acc) m t m' := fun e => by
   cases e
   intro N hN g1 g2 g3 g4;exact ⟨ks, acc, rfl, g1, g2, g3, g4, rfl, hm⟩
  by_cases c1 : x.ind ≠ i ∨ (Jy x.text).isSome = true
  ·rw [if_pos c1] at h
   exact stop h
  rw [if_neg c1] at h;rcases hi : Qq x.text with _ | ⟨key, rest⟩
  ·rw [hi] at h
   exact stop h
  rw [hi] at h;simp only at h;by_cases c2 : 400 < key.size
  ·rw [if_pos c2] at h; cases h
  rw [if_neg c2] at h;by_cases c3 : ks.contains key = true
  ·rw [if_pos c3] at h; cases h
  rw [if_neg c3] at h;rcases hr : Vk n i d x r rest m with f | ⟨u, L1, m1⟩
  ·rw [hr] at h; cases h
  rw [hr] at h;simp only at h;have hst := Jjz hi c2
  have hv : ∀ N, N + (d + 1) = 11 -> VOk N (d + 1) u /\ m1 = m + Jl N u /\ m1 <= 300 := by
   unfold Vk at hr;by_cases c4 : rest.size = 0
   ·rw [if_pos c4] at hr
    exact Vj n (.below i (d + 1) x.at') _ _ _ _ _ hr hm
   rw [if_neg c4] at hr;rcases hb : J1 (d + 1) m x.at' with _ | f
   ·rw [hb] at hr
    obtain ⟨hd, hm3⟩ := Vp hb;simp only at hr;rcases hs : JL rest with _ | v
    ·rw [hs] at hr; cases hr
    rw [hs] at hr;cases hr
    intro N hN;obtain ⟨N, rfl⟩ : ∃ M, N = M + 1 := ⟨N - 1, by omega⟩
    have h1 := JhD hs (N := N) hd;exact ⟨h1.1, by rw [h1.2], by omega⟩
   rw [hb] at hr; cases hr
  intro N hN hlen hso hks hacc;obtain ⟨v1, v2, v3⟩ := hv N (by omega);have hle := Ua ks key;have hno : Jee ks key = false := by rw [<- QV]; simpa using c3
  have i1 : (J3 ks (Qy ks key) key).length = (J3 acc (Qy ks key) u).length := by rw [QY hle, QY (by omega), hlen]
  have i2 := WL hso hno
  have i3 : ∀ k ∈ J3 ks (Qy ks key) key, Qs k = true := fun k hk => by
   unfold J3 at hk;rcases List.mem_append.1 hk with hk | hk
   ·exact hks k (List.mem_of_mem_take hk)
   rcases List.mem_cons.1 hk with rfl | hk
   ·exact hst
   exact hks k (List.mem_of_mem_drop hk)
  have i4 : ∀ y ∈ J3 acc (Qy ks key) u, VOk N (d + 1) y := fun y hy => by
   unfold J3 at hy;rcases List.mem_append.1 hy with hy | hy
   ·exact hacc y (List.mem_of_mem_take hy)
   rcases List.mem_cons.1 hy with rfl | hy
   ·exact v1
   exact hacc y (List.mem_of_mem_drop hy)
  have z2 := Jld (Jl N) acc (Qy ks key) u;obtain ⟨ks', l', g1, g2, g3, g4, g5, g6, g7⟩ := Vj n _ _ _ _ _ _ h v3 N hN i1 i2 i3 i4;exact ⟨ks', l', g1, g2, g3, g4, g5, by omega, g7⟩
def ZH (i : Nat) : List LineD -> Bool
 | [] => false
 | x :: _ => decide (x.ind = i) && (Jy x.text).isSome
def Wa (i : Nat) : List LineD -> Bool
 | [] => false
 | x :: _ => decide (x.ind = i) && !(Jy x.text).isSome && (Qq x.text).isSome
def Jma (j : JobI) (L L' : List LineD) : Prop := Qh L' <= Qh L /\ match j with
 | .value _ => Qh L' + 3 <= Qh L
 | .below _ _ _ => True
 | .list i _ _ => ZH i L = true -> Qh L' + 3 <= Qh L
 | .pairs i _ _ _ => Wa i L = true -> Qh L' + 3 <= Qh L
theorem J0 (x : LineD) (l : List LineD) : Qh (x :: l) = (x.text.size + 3) + Qh l := rfl
theorem J9 : ∀ (n : Nat) (j : JobI) (L : List LineD) (m : Nat) (t : TreeD) (L' : List LineD) (m' : Nat), Jn n j L m = .good t L' m' -> Jma j L L'
 | 0, j, L, m, t, L', m', h => by cases h
 | n + 1, .value d, [], m, t, L', m', h => by cases h
 | n + 1, .value d, x :: r, m, t, L', m', h => by
  rw [VH] at h;rcases hb : J1 d m x.at' with _ | f
  ·rw [hb] at h
   simp only at h;by_cases c1 : (Jy x.text).isSome = true
   ·rw [if_pos c1] at h
    have g := J9 n _ _ _ _ _ _ h;have g2 := g.2 (by show (decide (x.ind = x.ind) && (Jy x.text).isSome) = true; rw [c1]; simp);exact ⟨g.1, g2⟩
   rw [if_neg c1] at h;by_cases c2 : (Qq x.text).isSome = true
   ·rw [if_pos c2] at h
    have g := J9 n _ _ _ _ _ _ h;have g2 := g.2 (by show (decide (x.ind = x.ind) && !(Jy x.text).isSome && (Qq x.text).isSome) = true; rw [c2]; simp at c1; simp [c1]);exact ⟨g.1, g2⟩
   rw [if_neg c2] at h;rcases hs : JL x.text with _ | u
   ·rw [hs] at h; cases h
   ·rw [hs] at h
    cases h
    unfold Jma;rw [J0];exact ⟨by omega, by simp only; omega⟩
  rw [hb] at h; cases h
 | n + 1, .below i d a, L, m, t, L', m', h => by
  rw [VG] at h;by_cases c : UT i L = true
  ·rw [if_pos c] at h
   exact ⟨(J9 n (.value d) L m t L' m' h).1, trivial⟩
  rw [if_neg c] at h;rcases hb : J1 d m a with _ | f
  ·rw [hb] at h
   cases h
   exact ⟨Nat.le_refl _, trivial⟩
  rw [hb] at h; cases h
 | n + 1, .list i d acc, [], m, t, L', m', h => by
  cases h
  exact ⟨Nat.le_refl _, fun e => by cases e⟩
 | n + 1, .list i d acc, x :: r, m, t, L', m', h => by
  rw [Vb] at h;by_cases c1 : x.ind ≠ i
  ·rw [if_pos c1] at h
   cases h
   exact ⟨Nat.le_refl _, fun e => by simp [ZH, c1] at e⟩
  rw [if_neg c1] at h;rcases hi : Jy x.text with _ | ⟨rest, k⟩
  ·rw [hi] at h
   cases h
   exact ⟨Nat.le_refl _, fun e => by simp [ZH, hi] at e⟩
  rw [hi] at h;simp only at h;rcases hr : Yz n i d x r rest k m with f | ⟨u, L1, m1⟩
  ·rw [hr] at h; cases h
  rw [hr] at h;simp only at h;have hle := JhU hi
  have hv : Qh L1 + 3 <= Qh (x :: r) := by
   unfold Yz at hr;by_cases c2 : k = 0
   ·rw [if_pos c2] at hr
    have := (J9 n (.below i (d + 1) x.at') _ _ _ _ _ hr).1;rw [J0];omega
   rw [if_neg c2] at hr;have := (J9 n (.value (d + 1)) _ _ _ _ _ hr).2;simp only [J0] at this;rw [J0];omega
  have g := (J9 n _ _ _ _ _ _ h).1;exact ⟨by omega, fun _ => by omega⟩
 | n + 1, .pairs i d ks acc, [], m, t, L', m', h => by
  cases h
  exact ⟨Nat.le_refl _, fun e => by cases e⟩
 | n + 1, .pairs i d ks acc, x :: r, m, t, L', m', h => by
  rw [QR] at h;by_cases c1 : x.ind ≠ i ∨ (Jy x.text).isSome = true
  ·rw [if_pos c1] at h
   cases h
   exact ⟨Nat.le_refl _, fun e => by rcases c1 with c1 | c1 <;> simp [Wa, c1] at e⟩
  rw [if_neg c1] at h;rcases hi : Qq x.text with _ | ⟨key, rest⟩
  ·rw [hi] at h
   cases h
   exact ⟨Nat.le_refl _, fun e => by simp [Wa, hi] at e⟩
  rw [hi] at h;simp only at h;by_cases c2 : 400 < key.size
  ·rw [if_pos c2] at h; cases h
  rw [if_neg c2] at h;by_cases c3 : ks.contains key = true
  ·rw [if_pos c3] at h; cases h
  rw [if_neg c3] at h;rcases hr : Vk n i d x r rest m with f | ⟨u, L1, m1⟩
  ·rw [hr] at h; cases h
  rw [hr] at h;simp only at h
  have hv : Qh L1 + 3 <= Qh (x :: r) := by
   unfold Vk at hr;rw [J0];by_cases c4 : rest.size = 0
   ·rw [if_pos c4] at hr
    have := (J9 n (.below i (d + 1) x.at') _ _ _ _ _ hr).1;omega
   rw [if_neg c4] at hr;rcases hb : J1 (d + 1) m x.at' with _ | f
   ·rw [hb] at hr
    simp only at hr;rcases hs : JL rest with _ | v
    ·rw [hs] at hr; cases hr
    rw [hs] at hr;cases hr
    omega
   rw [hb] at hr; cases hr
  have g := (J9 n _ _ _ _ _ _ h).1;exact ⟨by omega, fun _ => by omega⟩
def JG (j : JobI) (L : List LineD) : Nat := match j with
 | .value _ => 3 * Qh L + 3
 | .below _ _ _ => 3 * Qh L + 4
 | .list _ _ _ => 3 * Qh L + 2
 | .pairs _ _ _ _ => 3 * Qh L + 2
def JlE (j : JobI) (L : List LineD) : Prop := match j with
 | .value _ => L ≠ []
 | _ => True
theorem Jke {i : Nat} {L : List LineD} (h : UT i L = true) : L ≠ [] := by
 intro e;rw [e] at h;cases h
theorem QX : ∀ (n : Nat) (j : JobI) (L : List LineD) (m : Nat) (f : Flt), Jn n j L m = .bad f -> JG j L <= n -> JlE j L -> f.code ≠ 0
 | 0, j, L, m, f, _, hn, _ => by cases j <;> (unfold JG at hn; simp only at hn; omega)
 | n + 1, .value d, [], m, f, h, _, hne => absurd rfl hne
 | n + 1, .value d, x :: r, m, f, h, hn, _ => by
  rw [VH] at h;unfold JG at hn;simp only at hn;rcases hb : J1 d m x.at' with _ | f'
  ·rw [hb] at h
   simp only at h;by_cases c1 : (Jy x.text).isSome = true
   ·rw [if_pos c1] at h
    exact QX n _ _ _ _ h (by unfold JG; simp only; omega) trivial
   rw [if_neg c1] at h;by_cases c2 : (Qq x.text).isSome = true
   ·rw [if_pos c2] at h
    exact QX n _ _ _ _ h (by unfold JG; simp only; omega) trivial
   rw [if_neg c2] at h;rcases hs : JL x.text with _ | u
   ·rw [hs] at h
    cases h
    show (4 : Int) ≠ 0
    decide
   ·rw [hs] at h; cases h
  rw [hb] at h;cases h
  exact Ud hb
 | n + 1, .below i d a, L, m, f, h, hn, _ => by
  rw [VG] at h;unfold JG at hn;simp only at hn;by_cases c : UT i L = true
  ·rw [if_pos c] at h
   exact QX n (.value d) L m f h (by unfold JG; simp only; omega) (Jke c)
  rw [if_neg c] at h;rcases hb : J1 d m a with _ | f'
  ·rw [hb] at h; cases h
  rw [hb] at h;cases h
  exact Ud hb
 | n + 1, .list i d acc, [], m, f, h, _, _ => by cases h
 | n + 1, .list i d acc, x :: r, m, f, h, hn, _ => by
  rw [Vb] at h;unfold JG at hn;simp only at hn;by_cases c1 : x.ind ≠ i
  ·rw [if_pos c1] at h; cases h
  rw [if_neg c1] at h;rcases hi : Jy x.text with _ | ⟨rest, k⟩
  ·rw [hi] at h; cases h
  rw [hi] at h;simp only at h;rw [J0] at hn;rcases hr : Yz n i d x r rest k m with f' | ⟨u, L1, m1⟩
  ·rw [hr] at h
   cases h
   unfold Yz at hr;by_cases c2 : k = 0
   ·rw [if_pos c2] at hr
    exact QX n _ _ _ _ hr (by unfold JG; simp only; omega) trivial
   rw [if_neg c2] at hr;have := JiU hi c2;exact QX n _ _ _ _ hr (by unfold JG; simp only [J0]; omega) (fun e => by cases e)
  ·rw [hr] at h
   simp only at h;have hle := JhU hi
   have hv : Qh L1 + 3 <= (x.text.size + 3) + Qh r := by
    unfold Yz at hr;by_cases c2 : k = 0
    ·rw [if_pos c2] at hr
     have := (J9 n (.below i (d + 1) x.at') _ _ _ _ _ hr).1;omega
    rw [if_neg c2] at hr;have := (J9 n (.value (d + 1)) _ _ _ _ _ hr).2;simp only [J0] at this;omega
   exact QX n _ _ _ _ h (by unfold JG; simp only; omega) trivial
 | n + 1, .pairs i d ks acc, [], m, f, h, _, _ => by cases h
 | n + 1, .pairs i d ks acc, x :: r, m, f, h, hn, _ => by
  rw [QR] at h;unfold JG at hn;simp only at hn;by_cases c1 : x.ind ≠ i ∨ (Jy x.text).isSome = true
  ·rw [if_pos c1] at h; cases h
  rw [if_neg c1] at h;rcases hi : Qq x.text with _ | ⟨key, rest⟩
  ·rw [hi] at h; cases h
  rw [hi] at h;simp only at h;rw [J0] at hn;by_cases c2 : 400 < key.size
  ·rw [if_pos c2] at h
   cases h
   show (8 : Int) ≠ 0
   decide
  rw [if_neg c2] at h;by_cases c3 : ks.contains key = true
  ·rw [if_pos c3] at h
   cases h
   show (5 : Int) ≠ 0
   decide
  rw [if_neg c3] at h;rcases hr : Vk n i d x r rest m with f' | ⟨u, L1, m1⟩
  ·rw [hr] at h
   cases h
   unfold Vk at hr;by_cases c4 : rest.size = 0
   ·rw [if_pos c4] at hr
    exact QX n _ _ _ _ hr (by unfold JG; simp only; omega) trivial
   rw [if_neg c4] at hr;rcases hb : J1 (d + 1) m x.at' with _ | f'
   ·rw [hb] at hr
    simp only at hr;rcases hs : JL rest with _ | v
    ·rw [hs] at hr
     cases hr
     show (4 : Int) ≠ 0
     decide
    rw [hs] at hr; cases hr
   rw [hb] at hr;cases hr
   exact Ud hb
  ·rw [hr] at h
   simp only at h
   have hv : Qh L1 <= Qh r := by
    unfold Vk at hr;by_cases c4 : rest.size = 0
    ·rw [if_pos c4] at hr
     exact (J9 n (.below i (d + 1) x.at') _ _ _ _ _ hr).1
    rw [if_neg c4] at hr;rcases hb : J1 (d + 1) m x.at' with _ | f'
    ·rw [hb] at hr
     simp only at hr;rcases hs : JL rest with _ | v
     ·rw [hs] at hr; cases hr
     rw [hs] at hr;cases hr
     exact Nat.le_refl _
    rw [hb] at hr; cases hr
   exact QX n _ _ _ _ h (by unfold JG; simp only; omega) trivial
theorem Jc5 {s : ByteArray} (h : (JD s).1.code = 0) : Uu 10 (JD s).2 = true /\ ZS 10 (JD s).2 := by
 unfold JD at h ⊢;by_cases c1 : (JM s).2.code ≠ 0
 ·rw [if_pos c1] at h
  exact absurd h c1
 rw [if_neg c1] at h ⊢;rcases hL : (JM s).1 with _ | ⟨x, r⟩
 ·rw [hL] at h
  exact absurd (show (4 : Int) = 0 from h) (by decide)
 rw [hL] at h;simp only at h ⊢;by_cases c2 : x.ind ≠ 0
 ·rw [if_pos c2] at h
  exact absurd (show (4 : Int) = 0 from h) (by decide)
 rw [if_neg c2] at h ⊢;rcases hq : Jn (3 * Qh (x :: r) + 3) (.value 1) (x :: r) 0 with f | ⟨t, L', m'⟩
 ·rw [hq] at h
  exact absurd h (QX _ _ _ _ _ hq (Nat.le_refl _) (fun e => by cases e))
 ·rw [hq] at h
  cases L' with
  | nil =>
   simp only;obtain ⟨v1, v2, v3⟩ := Vj _ _ _ _ _ _ _ hq (by omega) 10 rfl;have hdeep := v1.deep;refine ⟨?_, v1.num⟩;unfold Uu;rw [v1.shape, JmG (by omega), JmG (by omega)];rfl
  | cons y L'' => exact absurd (show (4 : Int) = 0 from h) (by decide)
def InAt (ty : TypeId) (b g N cap : Nat) (L : List LineD) (m : Nat) (f : Flt) (w : World) : Prop :=
 ∃ (p : Nat) (cur : Array Value), p + L.length = N /\ N <= cap /\ N <= 20001 /\ g ≠ b /\
  w.heap[b]? = some (.cells #[.slice (some ⟨g, 0, none⟩) N cap, .int .i64 p, .int .i64 m, .int .i64 f.code, .int .i64 f.at', .string f.path] ty (0, 0)) /\
  w.heap[g]? = some (.cells cur 59 (0, 0)) /\
  ∀ i x, L[i]? = some x -> cur[(p + i) * 3]? = some (.int .i64 (x.ind : Nat)) /\ cur[(p + i) * 3 + 1]? = some (.string x.text) /\ cur[(p + i) * 3 + 2]? = some (.int .i64 (x.at' : Nat))
def JcM (s : ByteArray) : Prop := 0 < s.size /\ Jb s (s.size - 1) ≠ 32
def Jlh (x : LineD) : Prop := x.ind + x.text.size <= 20000 /\ x.at' <= 20001 /\ JcM x.text
def InOk (L : List LineD) : Prop := ∀ x ∈ L, Jlh x
theorem InOk.tail {x : LineD} {r : List LineD} (h : InOk (x :: r)) : InOk r := fun y hy => h y (List.mem_cons_of_mem _ hy)
theorem InOk.head {x : LineD} {r : List LineD} (h : InOk (x :: r)) : Jlh x := h x List.mem_cons_self
theorem InOk.cons {x : LineD} {r : List LineD} (h : InOk r) (h1 : Jlh x) : InOk (x :: r) := fun y hy => by
 rcases List.mem_cons.1 hy with rfl | hy
 ·exact h1
 exact h y hy
theorem Jf0 (a : UInt8) : ∀ (l : List UInt8), l.dropWhile (· == a) = [] -> ∀ c ∈ l, c = a
 | [], _, c, hc => by cases hc
 | x :: l, h, c, hc => by
  rw [List.dropWhile_cons] at h;by_cases e : (x == a) = true
  ·rw [if_pos e] at h
   rcases List.mem_cons.1 hc with rfl | hc
   ·exact beq_iff_eq.1 e
   exact Jf0 a l h c hc
  rw [if_neg e] at h; cases h
theorem JeN {s : ByteArray} {i : Nat} (h : JcM s) (hi : i < s.size) : JcM (Qb s i) /\ (Qb s i).size <= s.size - i := by
 obtain ⟨h0, h1⟩ := h;have hl := ZG (s.data.toList.drop i) 32;rw [List.length_drop, Jp] at hl;have hz : (Qb s i).size = (trimLeftB (s.data.toList.drop i) 32).length := size_mk _;have hsuf : trimLeftB (s.data.toList.drop i) 32 = (s.data.toList.drop i).drop ((s.data.toList.drop i).length - (trimLeftB (s.data.toList.drop i) 32).length) := Jc2 _ _;have hlast : s.data.toList[s.size - 1]? = some (s.get! (s.size - 1)) := J7 (by omega)
 have hpos : 0 < (Qb s i).size := by
  rcases Nat.eq_zero_or_pos (Qb s i).size with e | e
  ·exfalso
   have hnil : trimLeftB (s.data.toList.drop i) 32 = [] := List.eq_nil_of_length_eq_zero (by omega)
   have hall : ∀ c ∈ s.data.toList.drop i, c = 32 := by
    intro c hc;unfold trimLeftB at hnil;exact Jf0 _ _ hnil c hc
   have hm : s.get! (s.size - 1) ∈ s.data.toList.drop i := by
    refine List.mem_of_getElem? (i := s.size - 1 - i) ?_;rw [List.getElem?_drop, show i + (s.size - 1 - i) = s.size - 1 by omega];exact hlast
   have := hall _ hm;apply h1;unfold Jb;rw [this];rfl
  exact e
 refine ⟨⟨hpos, fun e => h1 ?_⟩, by omega⟩;have hb : (Qb s i).data.toList[(Qb s i).size - 1]? = some ((Qb s i).get! ((Qb s i).size - 1)) := J7 (by omega);have e2 : (Qb s i).data.toList = trimLeftB (s.data.toList.drop i) 32 := rfl;rw [e2, hsuf, List.drop_drop, List.getElem?_drop, List.length_drop, Jp, <- hz] at hb;rw [show i + (s.size - i - (Qb s i).size) + ((Qb s i).size - 1) = s.size - 1 by omega, hlast] at hb
 unfold Jb at e ⊢;rw [<- Option.some.inj hb] at e;exact e
theorem Jdo {s rest : ByteArray} {k : Nat} (h : Jy s = some (rest, k)) (he : JcM s) : (k = 0 /\ rest = ⟨#[]⟩) ∨ (2 <= k /\ k + rest.size = s.size /\ JcM rest) := by
 unfold Jy at h;by_cases c1 : s = bs [45]
 ·rw [if_pos c1] at h
  cases h
  exact .inl ⟨rfl, rfl⟩
 rw [if_neg c1] at h;by_cases c2 : 2 <= s.size /\ Jb s 0 = 45 /\ Jb s 1 = 32
 ·rw [if_pos c2] at h
  cases h
  have h3 : 2 < s.size := by
   rcases Nat.lt_or_ge 2 s.size with g | g
   ·exact g
   exfalso
   have e : s.size = 2 := by omega
   apply he.2;rw [e];exact c2.2.2
  obtain ⟨g1, g2⟩ := JeN he h3;exact .inr ⟨by omega, by omega, g1⟩
 rw [if_neg c2] at h; cases h
theorem InAt.lt {ty : TypeId} {b g N cap : Nat} {L : List LineD} {m : Nat} {f : Flt} {w : World} (h : InAt ty b g N cap L m f w) : b < w.heap.size /\ g < w.heap.size := by
 obtain ⟨p, cur, -, -, -, -, h1, h2, -⟩ := h;exact ⟨Ja h1, Ja h2⟩
theorem InAt.carry {ty : TypeId} {b g N cap : Nat} {L : List LineD} {m : Nat} {f : Flt} {w w' : World} (h : InAt ty b g N cap L m f w) (hb : w'.heap[b]? = w.heap[b]?) (hg : w'.heap[g]? = w.heap[g]?) : InAt ty b g N cap L m f w' := by
 obtain ⟨p, cur, h1, h2, h3, h4, h5, h6, h7⟩ := h;exact ⟨p, cur, h1, h2, h3, h4, hb.trans h5, hg.trans h6, h7⟩
theorem InAt.below {ty : TypeId} {b g N cap : Nat} {L : List LineD} {m : Nat} {f : Flt} {w w' : World} (h : InAt ty b g N cap L m f w) (hb : Below w.heap.size w w') : InAt ty b g N cap L m f w' :=
 h.carry (hb.block b h.lt.1) (hb.block g h.lt.2)
theorem InAt.past {ty : TypeId} {b g N cap : Nat} {L : List LineD} {m : Nat} {f : Flt} {w w' : World} {S : Nat -> Prop} (h : InAt ty b g N cap L m f w) (hF : Aside S w w') (hb : ¬ S b) (hg : ¬ S g) : InAt ty b g N cap L m f w' :=
 h.carry (hF.block b h.lt.1 hb) (hF.block g h.lt.2 hg)
structure BoxIn (ty : TypeId) (b g N cap p : Nat) (L : List LineD) (m : Nat) (f : Flt) (w : World) : Prop where
 pos : p + L.length = N
 cap' : N <= cap
 small : N <= 20001
 ne : g ≠ b
 row : w.heap[b]? = some (.cells #[.slice (some ⟨g, 0, none⟩) N cap, .int .i64 p, .int .i64 m, .int .i64 f.code, .int .i64 f.at', .string f.path] ty (0, 0))
 lines : g < w.heap.size
 line : ∀ x r, L = x :: r -> w.cell? ⟨g, p * 3, none⟩ = some (.int .i64 (x.ind : Nat)) /\ w.cell? ⟨g, p * 3 + 1, none⟩ = some (.string x.text) /\ w.cell? ⟨g, p * 3 + 2, none⟩ = some (.int .i64 (x.at' : Nat)) /\ ∀ o, w.frozen? ⟨g, o, none⟩ = false
theorem InAt.open {ty : TypeId} {b g N cap : Nat} {L : List LineD} {m : Nat} {f : Flt} {w : World} (h : InAt ty b g N cap L m f w) : ∃ p, BoxIn ty b g N cap p L m f w := by
 obtain ⟨p, cur, h1, h2, h3, h4, h5, h6, h7⟩ := h;refine ⟨p, h1, h2, h3, h4, h5, Ja h6, fun x r hx => ?_⟩;obtain ⟨e1, e2, e3⟩ := h7 0 x (by rw [hx]; rfl);rw [Nat.add_zero] at e1 e2 e3;exact ⟨by rw [cell_of_row _ _ _ _ _ _ h6]; exact e1, by rw [cell_of_row _ _ _ _ _ _ h6]; exact e2, by rw [cell_of_row _ _ _ _ _ _ h6]; exact e3, fun o => QJ h6 o⟩
theorem InAt.turn {ty : TypeId} {b g N cap : Nat} {L L' : List LineD} {m m' : Nat} {f f' : Flt} {w w' : World} (h : InAt ty b g N cap L m f w) (hF : Aside (fun q => q = b) w w') (hL : L' = L ∨ ∃ x, L = x :: L')
  (hr : ∀ p p' : Nat, p + L.length = N -> p' + L'.length = N -> w.heap[b]? = some (.cells #[.slice (some ⟨g, 0, none⟩) N cap, .int .i64 p, .int .i64 m, .int .i64 f.code, .int .i64 f.at', .string f.path] ty (0, 0)) ->
   w'.heap[b]? = some (.cells #[.slice (some ⟨g, 0, none⟩) N cap, .int .i64 p', .int .i64 m', .int .i64 f'.code, .int .i64 f'.at', .string f'.path] ty (0, 0))) : InAt ty b g N cap L' m' f' w' := by
 obtain ⟨p, cur, h1, h2, h3, h4, h5, h6, h7⟩ := h;rcases hL with rfl | ⟨x, rfl⟩
 ·exact ⟨p, cur, h1, h2, h3, h4, hr p p h1 h1 h5, (hF.block g (Ja h6) h4).trans h6, h7⟩
 have e : (p + 1) + L'.length = N := by rw [List.length_cons] at h1; omega
 refine ⟨p + 1, cur, e, h2, h3, h4, hr p (p + 1) h1 e h5, (hF.block g (Ja h6) h4).trans h6, fun i y hy => ?_⟩;have := h7 (i + 1) y (by rw [List.getElem?_cons_succ]; exact hy);rw [show p + 1 + i = p + (i + 1) by omega];exact this
theorem InAt.tellI {ty : TypeId} {b g N cap p : Nat} {x : LineD} {r : List LineD} {m k : Nat} {f : Flt} {w : World} {z : Int} (h : InAt ty b g N cap (x :: r) m f w) (hp : p + (x :: r).length = N) (hz : z = (k : Nat)) :
  InAt ty b g N cap (⟨k, x.text, x.at'⟩ :: r) m f (w.setCell ⟨g, p * 3, none⟩ (.int .i64 z)) := by
 subst hz;obtain ⟨p', cur, h1, h2, h3, h4, h5, h6, h7⟩ := h;obtain rfl : p' = p := by omega
 have k1 := heap_setCell_same w g (p' * 3) _ _ (.int .i64 (k : Nat)) h6;obtain ⟨e1, e2, e3⟩ := h7 0 x rfl;rw [Nat.add_zero] at e1 e2 e3;obtain ⟨l1, -⟩ := Array.getElem?_eq_some_iff.1 e1;refine ⟨p', _, h1, h2, h3, h4, ?_, k1, fun i y hy => ?_⟩
 ·rw [Below.heap_setCell _ _ _ _ (fun e => h4 e.symm)]
  exact h5
 rcases i with _ | i
 ·rw [List.getElem?_cons_zero] at hy
  cases hy
  rw [show p' + 0 = p' from rfl];exact ⟨Array.getElem?_setIfInBounds_self_of_lt l1, by rw [Array.getElem?_setIfInBounds_ne (by omega)]; exact e2, by rw [Array.getElem?_setIfInBounds_ne (by omega)]; exact e3⟩
 have := h7 (i + 1) y (by rw [List.getElem?_cons_succ] at hy ⊢; exact hy);exact ⟨by rw [Array.getElem?_setIfInBounds_ne (by omega)]; exact this.1, by rw [Array.getElem?_setIfInBounds_ne (by omega)]; exact this.2.1, by rw [Array.getElem?_setIfInBounds_ne (by omega)]; exact this.2.2⟩
theorem InAt.tellT {ty : TypeId} {b g N cap p : Nat} {x : LineD} {r : List LineD} {m : Nat} {t : ByteArray} {f : Flt} {w : World} (h : InAt ty b g N cap (x :: r) m f w) (hp : p + (x :: r).length = N) :
  InAt ty b g N cap (⟨x.ind, t, x.at'⟩ :: r) m f (w.setCell ⟨g, p * 3 + 1, none⟩ (.string t)) := by
 obtain ⟨p', cur, h1, h2, h3, h4, h5, h6, h7⟩ := h;obtain rfl : p' = p := by omega
 have k1 := heap_setCell_same w g (p' * 3 + 1) _ _ (.string t) h6;obtain ⟨e1, e2, e3⟩ := h7 0 x rfl;rw [Nat.add_zero] at e1 e2 e3;obtain ⟨l2, -⟩ := Array.getElem?_eq_some_iff.1 e2;refine ⟨p', _, h1, h2, h3, h4, ?_, k1, fun i y hy => ?_⟩
 ·rw [Below.heap_setCell _ _ _ _ (fun e => h4 e.symm)]
  exact h5
 rcases i with _ | i
 ·rw [List.getElem?_cons_zero] at hy
  cases hy
  rw [show p' + 0 = p' from rfl];exact ⟨by rw [Array.getElem?_setIfInBounds_ne (by omega)]; exact e1, Array.getElem?_setIfInBounds_self_of_lt l2, by rw [Array.getElem?_setIfInBounds_ne (by omega)]; exact e3⟩
 have := h7 (i + 1) y (by rw [List.getElem?_cons_succ] at hy ⊢; exact hy);exact ⟨by rw [Array.getElem?_setIfInBounds_ne (by omega)]; exact this.1, by rw [Array.getElem?_setIfInBounds_ne (by omega)]; exact this.2.1, by rw [Array.getElem?_setIfInBounds_ne (by omega)]; exact this.2.2⟩
def US (f : Flt) (code : Int) (a : Nat) : Flt := if f.code = 0 then Qd code a else f
def QU (f : Flt) (L : List LineD) (i : Nat) : Bool := decide (f.code = 0) && (match L with | [] => false | x :: _ => decide (x.ind = i))
def Qo (d m a : Nat) : Flt := (J1 d m a).getD Jv
theorem JlC {w : World} {b : Nat} {a0 a1 a2 a3 a4 a5 v3 v4 v5 : Value} {e : TypeId} (h : w.heap[b]? = some (.cells #[a0, a1, a2, a3, a4, a5] e (0, 0))) : (((w.setCell ⟨b, 3, none⟩ v3).setCell ⟨b, 4, none⟩ v4).setCell ⟨b, 5, none⟩ v5).heap[b]? = some (.cells #[a0, a1, a2, v3, v4, v5] e (0, 0)) :=
 heap_setCell_same _ b 5 _ _ v5 (heap_setCell_same _ b 4 _ _ v4 (heap_setCell_same w b 3 _ _ v3 h))
theorem JlG {w : World} {b : Nat} {a0 a1 a2 a3 a4 a5 v : Value} {e : TypeId} (h : w.heap[b]? = some (.cells #[a0, a1, a2, a3, a4, a5] e (0, 0))) : (w.setCell ⟨b, 2, none⟩ v).heap[b]? = some (.cells #[a0, a1, v, a3, a4, a5] e (0, 0)) := heap_setCell_same w b 2 _ _ v h
theorem Jly {w : World} {b : Nat} {a0 a1 a2 a3 a4 a5 v : Value} {e : TypeId} (h : w.heap[b]? = some (.cells #[a0, a1, a2, a3, a4, a5] e (0, 0))) : (w.setCell ⟨b, 1, none⟩ v).heap[b]? = some (.cells #[a0, v, a2, a3, a4, a5] e (0, 0)) := heap_setCell_same w b 1 _ _ v h
theorem VE (b g N cap : Nat) (L : List LineD) (m : Nat) (f : Flt) (code : Int) (a : Nat) (w : World) (h : InAt 61 b g N cap L m f w) :
  Calls Tryz.prog 52 #[.pointer (some ⟨b, 0, none⟩), .int .i64 code, .int .i64 a] w fun e w' => e = .returned (.tuple #[]) /\ InAt 61 b g N cap L m (US f code a) w' /\ Aside (fun q => q = b) w w' := by
 have H := hid h;obtain ⟨p, hb⟩ := h.open;obtain ⟨a0, a1, a2, a3, a4, a5, af⟩ := Jf hb.row;have l0 := Ja hb.row;obtain ⟨z, hz⟩ : ∃ z, z = f.code := ⟨_, rfl⟩
 rw [<- hz] at a3;have HZ := hid hz;clear hb hz h;by_cases hc : z = 0
 ·have d1 : (z == 0) = true := beq_iff_eq.2 hc
  have hF : Aside (fun q => q = b) w (((w.setCell ⟨b, 3, none⟩ (.int .i64 code)).setCell ⟨b, 4, none⟩ (.int .i64 a)).setCell ⟨b, 5, none⟩ (.string ⟨#[]⟩)) := Jk rfl (Jk rfl (Jk rfl (Aside.refl _ _)))
  have hR := InAt.turn (L' := L) (m' := m) (f' := Qd code a) H.out hF (.inl rfl) (fun p p' h1 h2 hrow => by
   obtain rfl : p' = p := by omega
   exact JlC hrow)
  have HR := hid (And.intro hR hF);have HE : Hid (US f code a = Qd code a) := hid (if_pos (HZ.out.symm.trans hc));obtain rfl := hc;clear hR hF d1;go_enter Tryz.func52, Tryz.ntmps52
  go_wp2_with fail
  exact bodyPost_end (v := .tuple #[]) (by simp only [results, Tryz.results52]; go_simp) rfl ⟨rfl, by rw [HE.out]; exact HR.out.1, HR.out.2⟩
 have d1 : (z == 0) = false := JmH hc;have HE : Hid (US f code a = f) := hid (if_neg (fun e => hc (HZ.out.trans e)));clear hc;go_enter Tryz.func52, Tryz.ntmps52
 go_wp2_with fail
 exact bodyPost_end (v := .tuple #[]) (by simp only [results, Tryz.results52]; go_simp) rfl ⟨rfl, by rw [HE.out]; exact H.out, Aside.refl _ _⟩
theorem VJ (b g N cap : Nat) (L : List LineD) (m i : Nat) (f : Flt) (w : World) (h : InAt 61 b g N cap L m f w) :
  Calls Tryz.prog 178 #[.pointer (some ⟨b, 0, none⟩), .int .i64 i] w fun e w' => e = .returned (.bool (QU f L i)) /\ Below w.heap.size w w' := by
 obtain ⟨p, hb⟩ := h.open;have hpos := hb.pos;have hsm := hb.small;have hcp := hb.cap';have hln := hb.lines;have HLn := hid hb.line;obtain ⟨a0, a1, a2, a3, a4, a5, af⟩ := Jf hb.row;have l0 := Ja hb.row;obtain ⟨z, hz⟩ : ∃ z, z = f.code := ⟨_, rfl⟩
 rw [<- hz] at a3;obtain ⟨r, hr⟩ : ∃ r, r = QU f L i := ⟨_, rfl⟩
 rw [<- hr];have HR := hid hr;have HZ := hid hz;clear hb h hr hz;by_cases hc : z = 0
 rotate_left
 ·have d1 : (z == 0) = false := JmH hc
  have HE : Hid (r = false) := hid (by rw [HR.out]; unfold QU; rw [JmF (fun e => hc (HZ.out.trans e))]; rfl);clear hc;go_enter Tryz.func178, Tryz.ntmps178
  go_wp2_with fail
  refine Jm 33 (by kernel_rfl) (by kernel_rfl) (by decide) ?_
  iterate 33 (apply Exists.intro; refine And.intro ?_ ?_; (focus (intro W hW; (try simp only [Act.put, List.setIfInBounds_toArray, List.set_cons_zero, List.set_cons_succ]); first | (exact wpList_skip rfl ⟨rfl, rfl, Below.refl _ _⟩) | (obtain ⟨hcW, hfW⟩ := JE hW; have hsW := hW.size; (try simp at hsW); (try have hsW0 := Jd hsW); (try (have hsW1 := Jc hsW; (try (have hsW2 := Jc hsW1)))); go_wp2_with fail; exact ⟨rfl, rfl, Jj⟩))))
  intro wd hbwd
  (try simp only [Act.put, List.setIfInBounds_toArray, List.set_cons_zero, List.set_cons_succ])
  (try simp only [List.drop_succ_cons, List.drop_zero])
  go_wp2_with fail
  go_ret
  exact ⟨by rw [HE.out]; rfl, hbwd⟩
 have d1 : (z == 0) = true := beq_iff_eq.2 hc;have hfz : decide (f.code = 0) = true := JmG (HZ.out.symm.trans hc);rcases L with _ | ⟨x, L⟩
 ·have HE : Hid (r = false) := hid (by rw [HR.out]; unfold QU; rw [hfz]; rfl)
  have d2 : decide ((p : Int) < N) = false := JmF (by simp at hpos; omega);have d3 : decide (p < N) = false := JmF (by simp at hpos; omega);obtain rfl := hc;clear d1 hpos HR hfz HLn;go_enter Tryz.func178, Tryz.ntmps178
  go_wp2_with fail
  refine Jm 33 (by kernel_rfl) (by kernel_rfl) (by decide) ?_
  iterate 33 (apply Exists.intro; refine And.intro ?_ ?_; (focus (intro W hW; (try simp only [Act.put, List.setIfInBounds_toArray, List.set_cons_zero, List.set_cons_succ]); first | (exact wpList_skip rfl ⟨rfl, rfl, Below.refl _ _⟩) | (obtain ⟨hcW, hfW⟩ := JE hW; have hsW := hW.size; (try simp at hsW); (try have hsW0 := Jd hsW); (try (have hsW1 := Jc hsW; (try (have hsW2 := Jc hsW1)))); go_wp2_with fail; exact ⟨rfl, rfl, Jj⟩))))
  intro wd hbwd
  (try simp only [Act.put, List.setIfInBounds_toArray, List.set_cons_zero, List.set_cons_succ])
  (try simp only [List.drop_succ_cons, List.drop_zero])
  go_wp2_with fail
  go_ret
  exact ⟨by rw [HE.out]; rfl, hbwd⟩
 ·have HE : Hid (r = decide (x.ind = i)) := hid (by rw [HR.out]; unfold QU; rw [hfz]; rfl)
  obtain ⟨c0, c1, c2, cf⟩ := HLn.out x L rfl;have hlt : (p : Int) < N := by rw [List.length_cons] at hpos; omega
  have hz0 : (0 : Int) <= p := by omega
  have d2 : decide ((p : Int) < N) = true := JmG hlt;obtain ⟨k, hk⟩ : ∃ k, k = x.ind := ⟨_, rfl⟩
  rw [<- hk] at c0 HE;obtain rfl := hc;clear d1 hpos HR hfz HLn hk;by_cases hki : k = i
  ·have d4 : ((k : Int) == (i : Int)) = true := beq_iff_eq.2 (by omega)
   have HE2 : Hid (r = true) := hid (by rw [HE.out]; exact JmG hki);subst hki;go_enter Tryz.func178, Tryz.ntmps178
   go_wp2_with fail
   refine Jm 33 (by kernel_rfl) (by kernel_rfl) (by decide) ?_
   iterate 33 (apply Exists.intro; refine And.intro ?_ ?_; (focus (intro W hW; (try simp only [Act.put, List.setIfInBounds_toArray, List.set_cons_zero, List.set_cons_succ]); first | (exact wpList_skip rfl ⟨rfl, rfl, Below.refl _ _⟩) | (obtain ⟨hcW, hfW⟩ := JE hW; have hsW := hW.size; (try simp at hsW); (try have hsW0 := Jd hsW); (try (have hsW1 := Jc hsW; (try (have hsW2 := Jc hsW1)))); go_wp2_with fail; exact ⟨rfl, rfl, Jj⟩))))
   intro wd hbwd
   (try simp only [Act.put, List.setIfInBounds_toArray, List.set_cons_zero, List.set_cons_succ])
   (try simp only [List.drop_succ_cons, List.drop_zero])
   go_wp2_with fail
   go_ret
   exact ⟨by rw [HE2.out]; first | rfl | simp, hbwd⟩
  have d4 : ((k : Int) == (i : Int)) = false := JmH (by omega);have d5 : (k == i) = false := JmH hki;have HE2 : Hid (r = false) := hid (by rw [HE.out]; exact JmF hki);go_enter Tryz.func178, Tryz.ntmps178
  go_wp2_with fail
  refine Jm 33 (by kernel_rfl) (by kernel_rfl) (by decide) ?_
  iterate 33 (apply Exists.intro; refine And.intro ?_ ?_; (focus (intro W hW; (try simp only [Act.put, List.setIfInBounds_toArray, List.set_cons_zero, List.set_cons_succ]); first | (exact wpList_skip rfl ⟨rfl, rfl, Below.refl _ _⟩) | (obtain ⟨hcW, hfW⟩ := JE hW; have hsW := hW.size; (try simp at hsW); (try have hsW0 := Jd hsW); (try (have hsW1 := Jc hsW; (try (have hsW2 := Jc hsW1)))); go_wp2_with fail; exact ⟨rfl, rfl, Jj⟩))))
  intro wd hbwd
  (try simp only [Act.put, List.setIfInBounds_toArray, List.set_cons_zero, List.set_cons_succ])
  (try simp only [List.drop_succ_cons, List.drop_zero])
  go_wp2_with fail
  go_ret
  exact ⟨by rw [HE2.out]; first | rfl | simp [d5], hbwd⟩
theorem JbX {d m a : Nat} (h : 8 < d) : Qo d m a = Qd 6 a := by unfold Qo J1; rw [if_pos h]; rfl
theorem Jbt {d m a : Nat} (h : ¬ 8 < d) (h2 : 300 <= m) : Qo d m a = Qd 7 a := by unfold Qo J1; rw [if_neg h, if_pos h2]; rfl
theorem Jba {d m a : Nat} (h : ¬ 8 < d) (h2 : ¬ 300 <= m) : Qo d m a = Jv := by unfold Qo J1; rw [if_neg h, if_neg h2]; rfl
theorem WX (b g N cap : Nat) (L : List LineD) (m d a : Nat) (w : World) (h : InAt 61 b g N cap L m Jv w) (hm : m <= 1000) (hd : d <= 1000) :
  Calls Tryz.prog 100 #[.pointer (some ⟨b, 0, none⟩), .int .i64 d, .int .i64 a] w fun e w' => e = .returned (.tuple #[]) /\ InAt 61 b g N cap L (m + 1) (Qo d m a) w' /\ Aside (fun q => q = b) w w' := by
 have hf1 : ∀ (W : World) (f : Flt) (M : Nat), InAt 61 b g N cap L M f W -> InAt 61 b g N cap L (M + 1) f (W.setCell ⟨b, 2, none⟩ (.int .i64 ((M : Int) + 1))) := fun W f M hW =>
  InAt.turn hW (Jk rfl (Aside.refl _ _)) (.inl rfl) (fun p p' h1 h2 hrow => by
   obtain rfl : p' = p := by omega
   exact JlG hrow)
 have HF1 := hid hf1;have H := hid h;clear hf1 h;by_cases h8 : (8 : Int) < d
 focus
  have d8 : decide ((8 : Int) < d) = true := JmG h8;have d8' : decide (8 < d) = true := JmG (by omega);go_enter Tryz.func100, Tryz.ntmps100
  go_wp2_with fail
  refine (VE b g N cap L m Jv 6 a w H.out).mono ?_;rintro e w1 ⟨rfl, hR1, hA1⟩;have HR1 := hid (show InAt 61 b g N cap L m (Qd 6 a) w1 from hR1);have HA1 := hid hA1;obtain ⟨p, hb⟩ := hR1.open;obtain ⟨a0, a1, a2, a3, a4, a5, af⟩ := Jf hb.row;have l0 := Ja hb.row;have HR2 := hid (HF1.out w1 _ m HR1.out);have HA2 := hid (HA1.out.trans (Jk (S := fun q => q = b) (p := ⟨b, 2, none⟩) (u := .int .i64 ((m : Int) + 1)) rfl (Aside.refl _ w1)))
  have HE := hid (JbX (m := m) (a := a) (show 8 < d by omega));clear hb hR1 hA1;by_cases h3 : (300 : Int) < (m : Int) + 1
  ·have d3 : decide ((300 : Int) < (m : Int) + 1) = true := JmG h3
   go_wp2_with fail
   refine (VE b g N cap L (m + 1) (Qd 6 a) 7 a _ HR2.out).mono ?_;rintro e w3 ⟨rfl, hR3, hA3⟩;have HR3 := hid (show InAt 61 b g N cap L (m + 1) (Qd 6 a) w3 from hR3);have HA3 := hid (HA2.out.trans hA3);clear hR3 hA3;go_wp2_with fail
   exact bodyPost_end (v := .tuple #[]) (by simp only [results, Tryz.results100]; go_simp) rfl ⟨rfl, by rw [HE.out]; exact HR3.out, HA3.out⟩
  have d3 : decide ((300 : Int) < (m : Int) + 1) = false := JmF h3
 rotate_left
 focus
  have d8 : decide ((8 : Int) < d) = false := JmF h8;have d8' : decide (8 < d) = false := JmF (by omega);obtain ⟨p, hb⟩ := H.out.open;obtain ⟨a0, a1, a2, a3, a4, a5, af⟩ := Jf hb.row;have l0 := Ja hb.row;have HR2 := hid (HF1.out w _ m H.out);have HA2 := hid (Jk (S := fun q => q = b) (p := ⟨b, 2, none⟩) (u := .int .i64 ((m : Int) + 1)) rfl (Aside.refl _ w))
  clear hb;by_cases h3 : (300 : Int) < (m : Int) + 1
  ·have d3 : decide ((300 : Int) < (m : Int) + 1) = true := JmG h3
   have HE := hid (Jbt (d := d) (m := m) (a := a) (show ¬ 8 < d by omega) (by omega));go_enter Tryz.func100, Tryz.ntmps100
   go_wp2_with fail
   refine (VE b g N cap L (m + 1) Jv 7 a _ HR2.out).mono ?_;rintro e w3 ⟨rfl, hR3, hA3⟩;have HR3 := hid (show InAt 61 b g N cap L (m + 1) (Qd 7 a) w3 from hR3);have HA3 := hid (HA2.out.trans hA3);clear hR3 hA3;go_wp2_with fail
   exact bodyPost_end (v := .tuple #[]) (by simp only [results, Tryz.results100]; go_simp) rfl ⟨rfl, by rw [HE.out]; exact HR3.out, HA3.out⟩
  have d3 : decide ((300 : Int) < (m : Int) + 1) = false := JmF h3;have HE := hid (Jba (d := d) (m := m) (a := a) (show ¬ 8 < d by omega) (by omega));go_enter Tryz.func100, Tryz.ntmps100
 rotate_left
 all_goals
  go_wp2_with fail
  exact bodyPost_end (v := .tuple #[]) (by simp only [results, Tryz.results100]; go_simp) rfl ⟨rfl, by rw [HE.out]; exact HR2.out, HA2.out⟩
theorem VW (b g N cap : Nat) (L : List LineD) (m : Nat) (f : Flt) (code : Int) (a : Nat) (w : World) (h : InAt 67 b g N cap L m f w) :
  Calls Tryz.prog 56 #[.pointer (some ⟨b, 0, none⟩), .int .i64 code, .int .i64 a] w fun e w' => e = .returned (.agg #[.int .i64 0, .bool false, .int .i64 0, .string ⟨#[]⟩, .slice none 0 0, .slice none 0 0]) /\ InAt 67 b g N cap L m (US f code a) w' /\ Aside (fun q => q = b) w w' := by
 have H := hid h;obtain ⟨p, hb⟩ := h.open;obtain ⟨a0, a1, a2, a3, a4, a5, af⟩ := Jf hb.row;have l0 := Ja hb.row;have lg := hb.lines;obtain ⟨z, hz⟩ : ∃ z, z = f.code := ⟨_, rfl⟩
 rw [<- hz] at a3;have HZ := hid hz;clear hb hz h;by_cases hc : z = 0
 ·have d1 : (z == 0) = true := beq_iff_eq.2 hc
  have hF : Aside (fun q => q = b) w (((w.setCell ⟨b, 3, none⟩ (.int .i64 code)).setCell ⟨b, 4, none⟩ (.int .i64 a)).setCell ⟨b, 5, none⟩ (.string ⟨#[]⟩)) := Jk rfl (Jk rfl (Jk rfl (Aside.refl _ _)))
  have hR := InAt.turn (L' := L) (m' := m) (f' := Qd code a) H.out hF (.inl rfl) (fun p p' h1 h2 hrow => by
   obtain rfl : p' = p := by omega
   exact JlC hrow)
  have HR := hid (And.intro hR hF);have HE : Hid (US f code a = Qd code a) := hid (if_pos (HZ.out.symm.trans hc));obtain rfl := hc;clear hR hF d1;go_enter Tryz.func56, Tryz.ntmps56
  go_wp2_with fail
  exact bodyPost_ret (v := .agg #[.int .i64 0, .bool false, .int .i64 0, .string ⟨#[]⟩, .slice none 0 0, .slice none 0 0]) (by simp only [results, Tryz.results56]; go_simp) rfl ⟨rfl, by rw [HE.out]; exact HR.out.1.below Jj, HR.out.2.trans (Aside.of_below Jj)⟩
 have d1 : (z == 0) = false := JmH hc;have HE : Hid (US f code a = f) := hid (if_neg (fun e => hc (HZ.out.trans e)));clear hc;go_enter Tryz.func56, Tryz.ntmps56
 go_wp2_with fail
 exact bodyPost_ret (v := .agg #[.int .i64 0, .bool false, .int .i64 0, .string ⟨#[]⟩, .slice none 0 0, .slice none 0 0]) (by simp only [results, Tryz.results56]; go_simp) rfl ⟨rfl, by rw [HE.out]; exact H.out.below Jj, Aside.of_below Jj⟩
theorem ZY (b g N cap : Nat) (L : List LineD) (m d a : Nat) (w : World) (h : InAt 67 b g N cap L m Jv w) (hm : m <= 1000) (hd : d <= 1000) :
  Calls Tryz.prog 109 #[.pointer (some ⟨b, 0, none⟩), .int .i64 d, .int .i64 a] w fun e w' => e = .returned (.bool (decide ((Qo d m a).code = 0))) /\ (∃ m', InAt 67 b g N cap L m' (Qo d m a) w' /\ ((Qo d m a).code = 0 -> m' = m + 1)) /\ Aside (fun q => q = b) w w' := by
 have hf1 : ∀ (W : World) (f : Flt) (M : Nat), InAt 67 b g N cap L M f W -> InAt 67 b g N cap L (M + 1) f (W.setCell ⟨b, 2, none⟩ (.int .i64 ((M : Int) + 1))) := fun W f M hW =>
  InAt.turn hW (Jk rfl (Aside.refl _ _)) (.inl rfl) (fun p p' h1 h2 hrow => by
   obtain rfl : p' = p := by omega
   exact JlG hrow)
 have HF1 := hid hf1;have H := hid h;clear hf1 h;by_cases h8 : (8 : Int) < d
 ·have d8 : decide ((8 : Int) < d) = true := JmG h8
  have d8' : decide (8 < d) = true := JmG (by omega);have HE := hid (JbX (m := m) (a := a) (show 8 < d by omega));go_enter Tryz.func109, Tryz.ntmps109
  go_wp2_with fail
  refine (VW b g N cap L m Jv 6 a w H.out).mono ?_;rintro e w1 ⟨rfl, hR1, hA1⟩;have HR1 := hid (show InAt 67 b g N cap L m (Qd 6 a) w1 from hR1);have HA1 := hid hA1;clear hR1 hA1;go_wp2_with fail
  exact bodyPost_ret (v := .bool false) (by simp only [results, Tryz.results109]; go_simp) rfl ⟨by rw [HE.out]; rfl, by rw [HE.out]; exact ⟨m, HR1.out, fun e => absurd e (by show ¬ (6 : Int) = 0; decide)⟩, HA1.out⟩
 have d8 : decide ((8 : Int) < d) = false := JmF h8;have d8' : decide (8 < d) = false := JmF (by omega);obtain ⟨p, hb⟩ := H.out.open;obtain ⟨a0, a1, a2, a3, a4, a5, af⟩ := Jf hb.row;have l0 := Ja hb.row;have HR2 := hid (HF1.out w _ m H.out);have HA2 := hid (Jk (S := fun q => q = b) (p := ⟨b, 2, none⟩) (u := .int .i64 ((m : Int) + 1)) rfl (Aside.refl _ w))
 clear hb;by_cases h3 : (300 : Int) < (m : Int) + 1
 ·have d3 : decide ((300 : Int) < (m : Int) + 1) = true := JmG h3
  have HE := hid (Jbt (d := d) (m := m) (a := a) (show ¬ 8 < d by omega) (by omega));go_enter Tryz.func109, Tryz.ntmps109
  go_wp2_with fail
  refine (VW b g N cap L (m + 1) Jv 7 a _ HR2.out).mono ?_;rintro e w3 ⟨rfl, hR3, hA3⟩;have HR3 := hid (show InAt 67 b g N cap L (m + 1) (Qd 7 a) w3 from hR3);have HA3 := hid (HA2.out.trans hA3);clear hR3 hA3;go_wp2_with fail
  exact bodyPost_ret (v := .bool false) (by simp only [results, Tryz.results109]; go_simp) rfl ⟨by rw [HE.out]; rfl, by rw [HE.out]; exact ⟨m + 1, HR3.out, fun _ => rfl⟩, HA3.out⟩
 have d3 : decide ((300 : Int) < (m : Int) + 1) = false := JmF h3;have HE := hid (Jba (d := d) (m := m) (a := a) (show ¬ 8 < d by omega) (by omega));go_enter Tryz.func109, Tryz.ntmps109
 go_wp2_with fail
 exact bodyPost_ret (v := .bool true) (by simp only [results, Tryz.results109]; go_simp) rfl ⟨by rw [HE.out]; rfl, by rw [HE.out]; exact ⟨m + 1, HR2.out, fun _ => rfl⟩, HA2.out⟩
end Go.Proofs.YtohcpifekcehjaaGreatDoor
