/- Written by wip/tools/pack.py: the texts that FnOrder needs, without what it does not need. No conditions. -/
import Derived.Test.YtffelpdefjkeaaaGreatDoorKFnOrder4
import Derived.Test.YtffelpdefjkeaaaGreatDoorKFnOrder2
import Derived.Laws.BitsLemmas
import Derived.Test.YtffelpdefjkeaaaGreatDoorKFnOrder20
import Derived.Test.YtffelpdefjkeaaaGreatDoorKFnOrder7
import Derived.Test.YtffelpdefjkeaaaGreatDoorKFnOrder8
import Derived.Test.YtffelpdefjkeaaaGreatDoorKFnOrder10
import Derived.Test.YtffelpdefjkeaaaGreatDoorKFnOrder1
namespace Go.Proofs.YtffelpdefjkeaaaGreatDoor
open Go.RowKit Go.ChangeShapes Go.WideShapes Go.ChangeAt
def C_Byte (b : UInt8) (cs : List Value) : Prop := cs = [.int .u8 b.toNat]
/-- The cursor over the bytes code lies in block p; its bytes lie in blocks before it. -/
def CurAt (code : List UInt8) (p : Nat) (w : World) : Prop :=
  ∃ A c i h, w.heap[p]? = some (.cells #[.slice A code.length c, .int .i64 (i : Nat), .int .i64 h] 93 (0, 0)) ∧ I64 h ∧ i ≤ code.length ∧ code.length ≤ 1048576 ∧ SlOf C_Byte 1 0 p w code (.slice A code.length c)
structure Dr (code : List UInt8) (p : Nat) (w w' : World) : Prop where
  aside : Aside (fun b => b = p) w w'
  cur : CurAt code p w'
theorem CurAt.lt {code : List UInt8} {p : Nat} {w : World} (h : CurAt code p w) : p < w.heap.size := by
  obtain ⟨A, c, i, x, hg, -⟩ := h
  exact row_lt hg
theorem CurAt.keep {code : List UInt8} {p : Nat} {w w' : World} (h : CurAt code p w) (hb : ∀ b, b ≤ p → w'.heap[b]? = w.heap[b]?) : CurAt code p w' := by
  obtain ⟨A, c, i, x, hg, h1, h2, h3, h4⟩ := h
  exact ⟨A, c, i, x, (hb p (Nat.le_refl _)).trans hg, h1, h2, h3, SlOf.keep h4 (fun b o _ hlt => World.cell?_of_block (hb b (Nat.le_of_lt hlt))) (Nat.le_refl _) (Nat.le_refl _) (fun _ _ _ h => h)⟩
theorem CurAt.below {code : List UInt8} {p : Nat} {w w' : World} (h : CurAt code p w) (hb : Below w.heap.size w w') : CurAt code p w' := h.keep (fun b hle => hb.block b (Nat.lt_of_le_of_lt hle h.lt))
theorem Dr.refl {code : List UInt8} {p : Nat} {w : World} (h : CurAt code p w) : Dr code p w w := ⟨Aside.refl _ _, h⟩
theorem Dr.trans {code : List UInt8} {p : Nat} {a b c : World} (h : Dr code p a b) (k : Dr code p b c) : Dr code p a c := ⟨h.aside.trans k.aside, k.cur⟩
theorem Dr.step {code : List UInt8} {p : Nat} {a b c : World} (h : Dr code p a b) (k : Below b.heap.size b c) : Dr code p a c := ⟨h.aside.trans (Aside.of_below k), h.cur.below k⟩
theorem Dr.cell {code : List UInt8} {p : Nat} {a b : World} (h : Dr code p a b) {g o : Nat} (hg : g < a.heap.size) (hp : g ≠ p) : b.cell? ⟨g, o, none⟩ = a.cell? ⟨g, o, none⟩ := World.cell?_of_block (h.aside.block g hg hp)
theorem Dr.below {code : List UInt8} {p B : Nat} {a b : World} (h : Dr code p a b) (hB : B ≤ a.heap.size) (hp : B ≤ p) : Below B a b := h.aside.below hB (fun b hb => by subst hb; exact hp)
theorem i64_and255 (n : Int) : bits .and .i64 n 255 = n % 256 := by
  have h255 : (BitVec.ofInt 64 255).toNat = 2 ^ 8 - 1 := by decide
  have key : (BitVec.ofInt 64 n &&& BitVec.ofInt 64 255).toNat = (n % ((2 ^ 64 : Nat) : Int)).toNat % 2 ^ 8 := by
    rw [BitVec.toNat_and, BitVec.toNat_ofInt, h255, Nat.and_two_pow_sub_one_eq_mod]
  show IntKind.i64.wrap ((BitVec.ofInt 64 n &&& BitVec.ofInt 64 255).toNat : Nat) = n % 256
  rw [key, IntKind.wrap_i64]
  omega
theorem m255 (n : Int) : 0 ≤ n % 256 ∧ n % 256 ≤ 255 := by omega
theorem w64_I64 (n : Int) : I64 (wrap64 n) := by
  unfold wrap64 I64
  omega
set_option maxHeartbeats 1000000 in
theorem c_l01Byte (code : List UInt8) (p : Nat) (w : World) (h : CurAt code p w) :
    Calls Tryz.prog 110 #[.pointer (some ⟨p, 0, none⟩)] w fun e w' => ∃ x : Int, e = .returned (.int .i64 x) ∧ 0 ≤ x ∧ x ≤ 255 ∧ Dr code p w w' := by
  have hcur := h
  obtain ⟨A, c, i, h0, hg, hh, hi, hn, hs⟩ := h
  obtain ⟨c0, c1, c2, cf⟩ := row3 hg
  have hpl := row_lt hg
  have hand := i64_and255
  have Hs := Lib.hid hs
  go_enter Tryz.func110, Tryz.ntmps110
  go_wp2_with fail
  have hXI := w64_I64 (wrap64 (h0 * 6364136223846793005) + 1442695040888963407)
  generalize wrap64 (wrap64 (h0 * 6364136223846793005) + 1442695040888963407) = X at *
  have hg1 : (w.setCell ⟨p, 2, none⟩ (.int .i64 X)).heap[p]? = some (.cells #[.slice A code.length c, .int .i64 (i : Nat), .int .i64 X] 93 (0, 0)) := heap_setCell_same w p 2 _ _ _ hg
  have hA1 : Aside (fun b => b = p) w (w.setCell ⟨p, 2, none⟩ (.int .i64 X)) := Aside.setCell (p := ⟨p, 2, none⟩) (Aside.refl _ _) rfl
  generalize w.setCell ⟨p, 2, none⟩ (.int .i64 X) = w1 at *
  clear c0 c1 c2 cf hg hs hcur
  obtain ⟨c0, c1, c2, cf⟩ := row3 hg1
  have hpl1 := row_lt hg1
  refine wp_region_det 12 (by kernel_rfl) (by kernel_rfl) (by decide) ?_
  apply Exists.intro
  refine And.intro ?_ ?_
  · (intro W hW; (try simp only [Act.put, List.setIfInBounds_toArray, List.set_cons_zero, List.set_cons_succ]); first | (go_wp2_with fail; exact ⟨rfl, rfl, Below.refl _ _⟩))
  apply Exists.intro
  refine And.intro ?_ ?_
  · (intro W hW; (try simp only [Act.put, List.setIfInBounds_toArray, List.set_cons_zero, List.set_cons_succ]); first | (go_wp2_with fail; exact ⟨rfl, rfl, Below.refl _ _⟩))
  apply Exists.intro
  refine And.intro ?_ ?_
  · (intro W hW; (try simp only [Act.put, List.setIfInBounds_toArray, List.set_cons_zero, List.set_cons_succ]); first | (go_wp2_with fail; exact ⟨rfl, rfl, Below.refl _ _⟩))
  apply Exists.intro
  refine And.intro ?_ ?_
  · (intro W hW; (try simp only [Act.put, List.setIfInBounds_toArray, List.set_cons_zero, List.set_cons_succ]); first | (obtain ⟨hcW, hfW⟩ := bcell hW; have hsW := hW.size; (try simp at hsW); (try have hsW0 := lt_of_succ_le hsW); (try (have hsW1 := lt_pred hsW; (try (have hsW2 := lt_pred hsW1)))); go_wp2_with fail; exact ⟨rfl, rfl, Below.refl _ _⟩))
  apply Exists.intro
  refine And.intro ?_ ?_
  · (intro W hW; (try simp only [Act.put, List.setIfInBounds_toArray, List.set_cons_zero, List.set_cons_succ]); first | (go_wp2_with fail; exact ⟨rfl, rfl, Below.refl _ _⟩))
  apply Exists.intro
  refine And.intro ?_ ?_
  · (intro W hW; (try simp only [Act.put, List.setIfInBounds_toArray, List.set_cons_zero, List.set_cons_succ]); first | (go_wp2_with fail; exact ⟨rfl, rfl, Below.refl _ _⟩))
  apply Exists.intro
  refine And.intro ?_ ?_
  · (intro W hW; (try simp only [Act.put, List.setIfInBounds_toArray, List.set_cons_zero, List.set_cons_succ]); first | (go_wp2_with fail; exact ⟨rfl, rfl, Below.refl _ _⟩))
  apply Exists.intro
  refine And.intro ?_ ?_
  · (intro W hW; (try simp only [Act.put, List.setIfInBounds_toArray, List.set_cons_zero, List.set_cons_succ]); first | (go_wp2_with fail; exact ⟨rfl, rfl, Below.refl _ _⟩))
  apply Exists.intro
  refine And.intro ?_ ?_
  · (intro W hW; (try simp only [Act.put, List.setIfInBounds_toArray, List.set_cons_zero, List.set_cons_succ]); first | (obtain ⟨hcW, hfW⟩ := bcell hW; have hsW := hW.size; (try simp at hsW); (try have hsW0 := lt_of_succ_le hsW); (try (have hsW1 := lt_pred hsW; (try (have hsW2 := lt_pred hsW1)))); go_wp2_with fail; exact ⟨rfl, rfl, Below.refl _ _⟩))
  apply Exists.intro
  refine And.intro ?_ ?_
  · (intro W hW; (try simp only [Act.put, List.setIfInBounds_toArray, List.set_cons_zero, List.set_cons_succ]); first | (go_wp2_with fail; exact ⟨rfl, rfl, Below.refl _ _⟩))
  apply Exists.intro
  refine And.intro ?_ ?_
  · (intro W hW; (try simp only [Act.put, List.setIfInBounds_toArray, List.set_cons_zero, List.set_cons_succ]); first | (go_wp2_with fail; exact ⟨rfl, rfl, Below.refl _ _⟩))
  apply Exists.intro
  refine And.intro ?_ ?_
  · (intro W hW; (try simp only [Act.put, List.setIfInBounds_toArray, List.set_cons_zero, List.set_cons_succ]); first | (go_wp2_with fail; exact ⟨rfl, rfl, Below.refl _ _⟩))
  intro w1 hb
  (first | (have hcu2 := Cum.join hcu hb; (try clear hcu); (try clear hc); (try clear hfz); (try clear hsz); (try clear hs0); (try clear hs1); (try clear hs2); (try clear hs3); (try clear hs4); ) | have hcu2 := Cum.mk hb); have hcu := hcu2; clear hcu2; obtain ⟨hc, hfz⟩ := bcell hcu.h; have hsz := hcu.h.size; (try simp at hsz); (try have hs0 := lt_of_succ_le hsz); (try (have hs1 := lt_pred hsz; (try (have hs2 := lt_pred hs1; (try (have hs3 := lt_pred hs2; (try have hs4 := lt_pred hs3)))))))
  (try simp only [Act.put, List.setIfInBounds_toArray, List.set_cons_zero, List.set_cons_succ])
  (try simp only [List.drop_succ_cons, List.drop_zero])
  have hg2 := (hb.block p hpl1).trans hg1
  have hA2 := hA1.trans (Aside.of_below hb)
  have hpl2 := row_lt hg2
  clear c0 c1 c2 cf hg1 hA1 hpl1 hb
  (try clear hcu); (try clear hc); (try clear hfz); (try clear hsz); (try clear hs0); (try clear hs1); (try clear hs2); (try clear hs3); (try clear hs4)
  obtain ⟨c0, c1, c2, cf⟩ := row3 hg2
  have hki : (i : Int) ≤ 9223372036854775806 := by omega
  have hkn : (code.length : Int) ≤ 9223372036854775806 := by omega
  by_cases hlt : i < code.length
  · have hlt2 : (i : Int) < code.length := by omega
    have hlt0 : (0 : Int) ≤ i := by omega
    go_wp2_with fail
    refine wp_region_det 10 (by kernel_rfl) (by kernel_rfl) (by decide) ?_
    apply Exists.intro
    refine And.intro ?_ ?_
    · (intro W hW; (try simp only [Act.put, List.setIfInBounds_toArray, List.set_cons_zero, List.set_cons_succ]); first | (go_wp2_with fail; exact ⟨rfl, rfl, Below.refl _ _⟩))
    apply Exists.intro
    refine And.intro ?_ ?_
    · (intro W hW; (try simp only [Act.put, List.setIfInBounds_toArray, List.set_cons_zero, List.set_cons_succ]); first | (go_wp2_with fail; exact ⟨rfl, rfl, Below.refl _ _⟩))
    apply Exists.intro
    refine And.intro ?_ ?_
    · (intro W hW; (try simp only [Act.put, List.setIfInBounds_toArray, List.set_cons_zero, List.set_cons_succ]); first | (go_wp2_with fail; exact ⟨rfl, rfl, Below.refl _ _⟩))
    apply Exists.intro
    refine And.intro ?_ ?_
    · (intro W hW; (try simp only [Act.put, List.setIfInBounds_toArray, List.set_cons_zero, List.set_cons_succ]); first | (obtain ⟨hcW, hfW⟩ := bcell hW; have hsW := hW.size; (try simp at hsW); (try have hsW0 := lt_of_succ_le hsW); (try (have hsW1 := lt_pred hsW; (try (have hsW2 := lt_pred hsW1)))); go_wp2_with fail; exact ⟨rfl, rfl, Below.refl _ _⟩))
    apply Exists.intro
    refine And.intro ?_ ?_
    · (intro W hW; (try simp only [Act.put, List.setIfInBounds_toArray, List.set_cons_zero, List.set_cons_succ]); first | (go_wp2_with fail; exact ⟨rfl, rfl, Below.refl _ _⟩))
    apply Exists.intro
    refine And.intro ?_ ?_
    · (intro W hW; (try simp only [Act.put, List.setIfInBounds_toArray, List.set_cons_zero, List.set_cons_succ]); first | (go_wp2_with fail; exact ⟨rfl, rfl, Below.refl _ _⟩))
    apply Exists.intro
    refine And.intro ?_ ?_
    · (intro W hW; (try simp only [Act.put, List.setIfInBounds_toArray, List.set_cons_zero, List.set_cons_succ]); first | (go_wp2_with fail; exact ⟨rfl, rfl, Below.refl _ _⟩))
    apply Exists.intro
    refine And.intro ?_ ?_
    · (intro W hW; (try simp only [Act.put, List.setIfInBounds_toArray, List.set_cons_zero, List.set_cons_succ]); first | (obtain ⟨hcW, hfW⟩ := bcell hW; have hsW := hW.size; (try simp at hsW); (try have hsW0 := lt_of_succ_le hsW); (try (have hsW1 := lt_pred hsW; (try (have hsW2 := lt_pred hsW1)))); go_wp2_with fail; exact ⟨rfl, rfl, Below.refl _ _⟩))
    apply Exists.intro
    refine And.intro ?_ ?_
    · (intro W hW; (try simp only [Act.put, List.setIfInBounds_toArray, List.set_cons_zero, List.set_cons_succ]); first | (go_wp2_with fail; exact ⟨rfl, rfl, Below.refl _ _⟩))
    apply Exists.intro
    refine And.intro ?_ ?_
    · (intro W hW; (try simp only [Act.put, List.setIfInBounds_toArray, List.set_cons_zero, List.set_cons_succ]); first | (go_wp2_with fail; exact ⟨rfl, rfl, Below.refl _ _⟩))
    intro w1 hb
    (first | (have hcu2 := Cum.join hcu hb; (try clear hcu); (try clear hc); (try clear hfz); (try clear hsz); (try clear hs0); (try clear hs1); (try clear hs2); (try clear hs3); (try clear hs4); ) | have hcu2 := Cum.mk hb); have hcu := hcu2; clear hcu2; obtain ⟨hc, hfz⟩ := bcell hcu.h; have hsz := hcu.h.size; (try simp at hsz); (try have hs0 := lt_of_succ_le hsz); (try (have hs1 := lt_pred hsz; (try (have hs2 := lt_pred hs1; (try (have hs3 := lt_pred hs2; (try have hs4 := lt_pred hs3)))))))
    (try simp only [Act.put, List.setIfInBounds_toArray, List.set_cons_zero, List.set_cons_succ])
    (try simp only [List.drop_succ_cons, List.drop_nil])
    have hg3 := (hb.block p hpl2).trans hg2
    have hA3 := hA2.trans (Aside.of_below hb)
    have hpl3 := row_lt hg3
    clear c0 c1 c2 cf hg2 hA2 hpl2 hb
    (try clear hcu); (try clear hc); (try clear hfz); (try clear hsz); (try clear hs0); (try clear hs1); (try clear hs2); (try clear hs3); (try clear hs4)
    obtain ⟨c0, c1, c2, cf⟩ := row3 hg3
    obtain ⟨A', c', hv, -, -, hbytes⟩ := Hs.out
    simp only [Value.slice.injEq, true_and] at hv
    obtain ⟨rfl, rfl⟩ := hv
    obtain ⟨b, o, rfl, -, hbp, hcell⟩ := hbytes (by omega)
    obtain ⟨y, hy⟩ := exists_at hlt
    obtain ⟨es, -, hes, rfl⟩ := hcell i y hy
    have hbw : b < w.heap.size := by omega
    have hbne : ¬ b = p := by omega
    have hby : w1.cell? ⟨b, o + i, none⟩ = some (.int .u8 y.toNat) := by
      rw [World.cell?_of_block (hA3.block b hbw hbne)]
      have := hes 0 (by omega)
      simpa using this
    have hbl3 : b < w1.heap.size := by omega
    have hy8 : (y.toNat : Int) ≤ 255 := by have := y.toNat_lt; omega
    have hy0 : (0 : Int) ≤ y.toNat := by omega
    clear hes hcell hbytes hy
    go_wp2_with fail
    refine wp_region_det 14 (by kernel_rfl) (by kernel_rfl) (by decide) ?_
    apply Exists.intro
    refine And.intro ?_ ?_
    · (intro W hW; (try simp only [Act.put, List.setIfInBounds_toArray, List.set_cons_zero, List.set_cons_succ]); first | (go_wp2_with fail; exact ⟨rfl, rfl, Below.refl _ _⟩))
    apply Exists.intro
    refine And.intro ?_ ?_
    · (intro W hW; (try simp only [Act.put, List.setIfInBounds_toArray, List.set_cons_zero, List.set_cons_succ]); first | (go_wp2_with fail; exact ⟨rfl, rfl, Below.refl _ _⟩))
    apply Exists.intro
    refine And.intro ?_ ?_
    · (intro W hW; (try simp only [Act.put, List.setIfInBounds_toArray, List.set_cons_zero, List.set_cons_succ]); first | (go_wp2_with fail; exact ⟨rfl, rfl, Below.refl _ _⟩))
    apply Exists.intro
    refine And.intro ?_ ?_
    · (intro W hW; (try simp only [Act.put, List.setIfInBounds_toArray, List.set_cons_zero, List.set_cons_succ]); first | (go_wp2_with fail; exact ⟨rfl, rfl, Below.refl _ _⟩))
    apply Exists.intro
    refine And.intro ?_ ?_
    · (intro W hW; (try simp only [Act.put, List.setIfInBounds_toArray, List.set_cons_zero, List.set_cons_succ]); first | (obtain ⟨hcW, hfW⟩ := bcell hW; have hsW := hW.size; (try simp at hsW); (try have hsW0 := lt_of_succ_le hsW); (try (have hsW1 := lt_pred hsW; (try (have hsW2 := lt_pred hsW1)))); go_wp2_with fail; exact ⟨rfl, rfl, Below.refl _ _⟩))
    apply Exists.intro
    refine And.intro ?_ ?_
    · (intro W hW; (try simp only [Act.put, List.setIfInBounds_toArray, List.set_cons_zero, List.set_cons_succ]); first | (go_wp2_with fail; exact ⟨rfl, rfl, Below.refl _ _⟩))
    apply Exists.intro
    refine And.intro ?_ ?_
    · (intro W hW; (try simp only [Act.put, List.setIfInBounds_toArray, List.set_cons_zero, List.set_cons_succ]); first | (go_wp2_with fail; exact ⟨rfl, rfl, Below.refl _ _⟩))
    apply Exists.intro
    refine And.intro ?_ ?_
    · (intro W hW; (try simp only [Act.put, List.setIfInBounds_toArray, List.set_cons_zero, List.set_cons_succ]); first | (go_wp2_with fail; exact ⟨rfl, rfl, Below.refl _ _⟩))
    apply Exists.intro
    refine And.intro ?_ ?_
    · (intro W hW; (try simp only [Act.put, List.setIfInBounds_toArray, List.set_cons_zero, List.set_cons_succ]); first | (obtain ⟨hcW, hfW⟩ := bcell hW; have hsW := hW.size; (try simp at hsW); (try have hsW0 := lt_of_succ_le hsW); (try (have hsW1 := lt_pred hsW; (try (have hsW2 := lt_pred hsW1)))); go_wp2_with fail; exact ⟨rfl, rfl, Below.refl _ _⟩))
    apply Exists.intro
    refine And.intro ?_ ?_
    · (intro W hW; (try simp only [Act.put, List.setIfInBounds_toArray, List.set_cons_zero, List.set_cons_succ]); first | (go_wp2_with fail; exact ⟨rfl, rfl, Below.refl _ _⟩))
    apply Exists.intro
    refine And.intro ?_ ?_
    · (intro W hW; (try simp only [Act.put, List.setIfInBounds_toArray, List.set_cons_zero, List.set_cons_succ]); first | (obtain ⟨hcW, hfW⟩ := bcell hW; have hsW := hW.size; (try simp at hsW); (try have hsW0 := lt_of_succ_le hsW); (try (have hsW1 := lt_pred hsW; (try (have hsW2 := lt_pred hsW1)))); go_wp2_with fail; exact ⟨rfl, rfl, Below.refl _ _⟩))
    apply Exists.intro
    refine And.intro ?_ ?_
    · (intro W hW; (try simp only [Act.put, List.setIfInBounds_toArray, List.set_cons_zero, List.set_cons_succ]); first | (go_wp2_with fail; exact ⟨rfl, rfl, Below.refl _ _⟩))
    apply Exists.intro
    refine And.intro ?_ ?_
    · (intro W hW; (try simp only [Act.put, List.setIfInBounds_toArray, List.set_cons_zero, List.set_cons_succ]); first | (go_wp2_with fail; exact ⟨rfl, rfl, Below.refl _ _⟩))
    apply Exists.intro
    refine And.intro ?_ ?_
    · (intro W hW; (try simp only [Act.put, List.setIfInBounds_toArray, List.set_cons_zero, List.set_cons_succ]); first | (go_wp2_with fail; exact ⟨rfl, rfl, Below.refl _ _⟩))
    intro w1 hb
    (first | (have hcu2 := Cum.join hcu hb; (try clear hcu); (try clear hc); (try clear hfz); (try clear hsz); (try clear hs0); (try clear hs1); (try clear hs2); (try clear hs3); (try clear hs4); ) | have hcu2 := Cum.mk hb); have hcu := hcu2; clear hcu2; obtain ⟨hc, hfz⟩ := bcell hcu.h; have hsz := hcu.h.size; (try simp at hsz); (try have hs0 := lt_of_succ_le hsz); (try (have hs1 := lt_pred hsz; (try (have hs2 := lt_pred hs1; (try (have hs3 := lt_pred hs2; (try have hs4 := lt_pred hs3)))))))
    (try simp only [Act.put, List.setIfInBounds_toArray, List.set_cons_zero, List.set_cons_succ])
    (try simp only [List.drop_succ_cons, List.drop_zero])
    have hg4 := (hb.block p hpl3).trans hg3
    have hA4 := hA3.trans (Aside.of_below hb)
    have hpl4 := row_lt hg4
    clear c0 c1 c2 cf hg3 hA3 hpl3 hb
    (try clear hcu); (try clear hc); (try clear hfz); (try clear hsz); (try clear hs0); (try clear hs1); (try clear hs2); (try clear hs3); (try clear hs4)
    obtain ⟨c0, c1, c2, cf⟩ := row3 hg4
    go_wp2_with fail
    go_ret
    refine ⟨_, rfl, (m255 _).1, (m255 _).2, hA4.setCell (p := ⟨p, 1, none⟩) rfl, _, _, i + 1, X, ?_, hXI, by omega, hn, Hs.out.keep (fun b o _ hlt => World.cell?_of_block ((Aside.setCell (p := ⟨p, 1, none⟩) hA4 rfl).block b (by omega) (by omega))) (Nat.le_refl _) (Nat.le_refl _) (fun _ _ _ h => h)⟩
    rw [show ((i + 1 : Nat) : Int) = (i : Int) + 1 from by omega]
    exact heap_setCell_same _ p 1 _ _ _ hg4
  · have hlt2 : ¬ (i : Int) < code.length := by omega
    go_wp2_with fail
    refine wp_region_det 10 (by kernel_rfl) (by kernel_rfl) (by decide) ?_
    apply Exists.intro
    refine And.intro ?_ ?_
    · (intro W hW; (try simp only [Act.put, List.setIfInBounds_toArray, List.set_cons_zero, List.set_cons_succ]); first | (go_wp2_with fail; exact ⟨rfl, rfl, Below.refl _ _⟩))
    apply Exists.intro
    refine And.intro ?_ ?_
    · (intro W hW; (try simp only [Act.put, List.setIfInBounds_toArray, List.set_cons_zero, List.set_cons_succ]); first | (go_wp2_with fail; exact ⟨rfl, rfl, Below.refl _ _⟩))
    apply Exists.intro
    refine And.intro ?_ ?_
    · (intro W hW; (try simp only [Act.put, List.setIfInBounds_toArray, List.set_cons_zero, List.set_cons_succ]); first | (go_wp2_with fail; exact ⟨rfl, rfl, Below.refl _ _⟩))
    apply Exists.intro
    refine And.intro ?_ ?_
    · (intro W hW; (try simp only [Act.put, List.setIfInBounds_toArray, List.set_cons_zero, List.set_cons_succ]); first | (obtain ⟨hcW, hfW⟩ := bcell hW; have hsW := hW.size; (try simp at hsW); (try have hsW0 := lt_of_succ_le hsW); (try (have hsW1 := lt_pred hsW; (try (have hsW2 := lt_pred hsW1)))); go_wp2_with fail; exact ⟨rfl, rfl, Below.refl _ _⟩))
    apply Exists.intro
    refine And.intro ?_ ?_
    · (intro W hW; (try simp only [Act.put, List.setIfInBounds_toArray, List.set_cons_zero, List.set_cons_succ]); first | (go_wp2_with fail; exact ⟨rfl, rfl, Below.refl _ _⟩))
    apply Exists.intro
    refine And.intro ?_ ?_
    · (intro W hW; (try simp only [Act.put, List.setIfInBounds_toArray, List.set_cons_zero, List.set_cons_succ]); first | (go_wp2_with fail; exact ⟨rfl, rfl, Below.refl _ _⟩))
    apply Exists.intro
    refine And.intro ?_ ?_
    · (intro W hW; (try simp only [Act.put, List.setIfInBounds_toArray, List.set_cons_zero, List.set_cons_succ]); first | (go_wp2_with fail; exact ⟨rfl, rfl, Below.refl _ _⟩))
    apply Exists.intro
    refine And.intro ?_ ?_
    · (intro W hW; (try simp only [Act.put, List.setIfInBounds_toArray, List.set_cons_zero, List.set_cons_succ]); first | (obtain ⟨hcW, hfW⟩ := bcell hW; have hsW := hW.size; (try simp at hsW); (try have hsW0 := lt_of_succ_le hsW); (try (have hsW1 := lt_pred hsW; (try (have hsW2 := lt_pred hsW1)))); go_wp2_with fail; exact ⟨rfl, rfl, Below.refl _ _⟩))
    apply Exists.intro
    refine And.intro ?_ ?_
    · (intro W hW; (try simp only [Act.put, List.setIfInBounds_toArray, List.set_cons_zero, List.set_cons_succ]); first | (go_wp2_with fail; exact ⟨rfl, rfl, Below.refl _ _⟩))
    apply Exists.intro
    refine And.intro ?_ ?_
    · (intro W hW; (try simp only [Act.put, List.setIfInBounds_toArray, List.set_cons_zero, List.set_cons_succ]); first | (go_wp2_with fail; exact ⟨rfl, rfl, Below.refl _ _⟩))
    intro w1 hb
    (first | (have hcu2 := Cum.join hcu hb; (try clear hcu); (try clear hc); (try clear hfz); (try clear hsz); (try clear hs0); (try clear hs1); (try clear hs2); (try clear hs3); (try clear hs4); ) | have hcu2 := Cum.mk hb); have hcu := hcu2; clear hcu2; obtain ⟨hc, hfz⟩ := bcell hcu.h; have hsz := hcu.h.size; (try simp at hsz); (try have hs0 := lt_of_succ_le hsz); (try (have hs1 := lt_pred hsz; (try (have hs2 := lt_pred hs1; (try (have hs3 := lt_pred hs2; (try have hs4 := lt_pred hs3)))))))
    (try simp only [Act.put, List.setIfInBounds_toArray, List.set_cons_zero, List.set_cons_succ])
    (try simp only [List.drop_succ_cons, List.drop_nil])
    have hg3 := (hb.block p hpl2).trans hg2
    have hA3 := hA2.trans (Aside.of_below hb)
    have hpl3 := row_lt hg3
    clear c0 c1 c2 cf hg2 hA2 hpl2 hb
    (try clear hcu); (try clear hc); (try clear hfz); (try clear hsz); (try clear hs0); (try clear hs1); (try clear hs2); (try clear hs3); (try clear hs4)
    obtain ⟨c0, c1, c2, cf⟩ := row3 hg3
    go_wp2_with fail
    go_ret
    exact ⟨_, rfl, (m255 _).1, (m255 _).2, hA3, _, _, i, X, hg3, hXI, hi, hn, Hs.out.keep (fun b o _ hlt => World.cell?_of_block (hA3.block b (by omega) (by omega))) (Nat.le_refl _) (Nat.le_refl _) (fun _ _ _ h => h)⟩
theorem Dr.pre {code : List UInt8} {p : Nat} {a b c : World} (h : Aside (fun b => b = p) a b) (k : Dr code p b c) : Dr code p a c := ⟨h.trans k.aside, k.cur⟩
theorem Dr.alloc {code : List UInt8} {p : Nat} {a b : World} (h : Dr code p a b) (o : Obj) : Dr code p a (b.alloc o) := h.step (ext_alloc (Below.refl _ _))
theorem aside_new {S : Nat → Prop} {a b : World} (h : Aside S a b) {q o : Nat} (hq : a.heap.size ≤ q) (u : Value) : Aside S a (b.setCell ⟨q, o, none⟩ u) :=
  ⟨h.os, h.tape, h.output, by have := h.size; simp [World.setCell]; omega, fun i hi hn => (Below.heap_setCell b ⟨q, o, none⟩ u i (by simp; omega)).trans (h.block i hi hn)⟩
theorem Dr.set {code : List UInt8} {p : Nat} {a b : World} (h : Dr code p a b) (hp : p < a.heap.size) {q o : Nat} (hq : a.heap.size ≤ q) (u : Value) : Dr code p a (b.setCell ⟨q, o, none⟩ u) :=
  ⟨aside_new h.aside hq u, h.cur.keep (fun i hle => Below.heap_setCell b ⟨q, o, none⟩ u i (by simp; omega))⟩
theorem Dr.cut {code : List UInt8} {p : Nat} {a b : World} {o : Obj} (h : Dr code p (a.alloc o) b) : Dr code p a b := Dr.pre (aside_alloc (Aside.refl _ _)) h
theorem Dr.block {code : List UInt8} {p : Nat} {a b : World} (h : Dr code p a b) {g : Nat} (hg : g < a.heap.size) (hp : g ≠ p) : b.heap[g]? = a.heap[g]? := h.aside.block g hg hp
theorem Dr.size {code : List UInt8} {p : Nat} {a b : World} (h : Dr code p a b) : a.heap.size ≤ b.heap.size := h.aside.size
theorem SlOf.dr {D : Type} {C : D → List Value → Prop} {sz lo : Nat} {code : List UInt8} {p : Nat} {a b : World} {l : List D} {v : Value} (h : SlOf C sz lo a.heap.size a l v) (k : Dr code p a b) (hp : p < lo) : SlOf C sz lo b.heap.size b l v :=
  SlOf.keep h (fun g o h1 h2 => k.cell h2 (by omega)) (Nat.le_refl _) k.size (fun _ _ _ h => h)
theorem SlOf.now {D : Type} {C : D → List Value → Prop} {sz lo : Nat} {a b : World} {l : List D} {v : Value} (h : SlOf C sz lo a.heap.size a l v) (hb : Below a.heap.size a b) : SlOf C sz lo b.heap.size b l v :=
  SlOf.keep h (same_below hb) (Nat.le_refl _) hb.size (fun _ _ _ h => h)
theorem sl_lit (w : World) (ss : List ByteArray) (hs : ∀ s ∈ ss, s.size ≤ 9223372036854775807) (hn : ss.length ≤ 9223372036854775807) (ty : TypeId) (cs : Array Value) (hc : cs = (ss.map Value.string).toArray) :
    Sl_Str w.heap.size (w.alloc (.cells cs ty)).heap.size (w.alloc (.cells cs ty)) ss (.slice (some ⟨w.heap.size, 0, none⟩) ss.length ss.length) := by
  subst hc
  refine ⟨_, _, rfl, Nat.le_refl _, hn, fun _ => ⟨w.heap.size, 0, rfl, Nat.le_refl _, by simp, fun i d hd => ⟨[.string d], rfl, fun j hj => ?_, rfl, hs d (List.mem_of_getElem? hd)⟩⟩⟩
  obtain rfl : j = 0 := by omega
  rw [cell_of_row _ _ _ _ _ _ (heap_alloc_new w _)]
  simp [hd]
set_option maxHeartbeats 1000000 in
theorem c_l01Below (code : List UInt8) (p : Nat) (n : Int) (w : World) (h : CurAt code p w) (hn : -9223372036854775808 ≤ n ∧ n ≤ 9223372036854775807) :
    Calls Tryz.prog 74 #[.pointer (some ⟨p, 0, none⟩), .int .i64 n] w fun e w' => ∃ x : Int, e = .returned (.int .i64 x) ∧ 0 ≤ x ∧ (0 < n → x < n) ∧ (n ≤ 0 → x = 0) ∧ Dr code p w w' := by
  obtain ⟨hn1, hn2⟩ := hn
  have H := Lib.hid h
  clear h
  by_cases h0 : n ≤ 0
  · go_enter Tryz.func74, Tryz.ntmps74
    go_wp2_with fail
    go_ret
    exact ⟨0, rfl, Int.le_refl _, fun h => by omega, fun _ => rfl, Dr.refl H.out⟩
  · have h1 : 0 < n := by omega
    by_cases h2 : n ≤ 256
    · go_enter Tryz.func74, Tryz.ntmps74
      go_wp2_with fail
      refine (c_l01Byte code p _ H.out).mono ?_
      rintro e w1 ⟨x, rfl, hx0, hx1, hd⟩
      have HD := Lib.hid hd
      clear hd
      go_wp2_with fail
      go_ret
      exact ⟨_, rfl, Int.emod_nonneg _ (by omega), fun _ => Int.emod_lt_of_pos _ h1, fun h => by omega, HD.out⟩
    · go_enter Tryz.func74, Tryz.ntmps74
      go_wp2_with fail
      refine (c_l01Byte code p _ H.out).mono ?_
      rintro e w1 ⟨x, rfl, hx0, hx1, hd⟩
      have HD := Lib.hid hd
      clear hd
      go_wp2_with fail
      refine (c_l01Byte code p _ HD.out.cur).mono ?_
      rintro e w2 ⟨y, rfl, hy0, hy1, hd⟩
      have HD2 := Lib.hid (HD.out.trans hd)
      clear hd
      go_wp2_with fail
      refine (c_l01Byte code p _ HD2.out.cur).mono ?_
      rintro e w3 ⟨z, rfl, hz0, hz1, hd⟩
      have HD3 := Lib.hid (HD2.out.trans hd)
      clear hd
      go_wp2_with fail
      refine (c_l01Byte code p _ HD3.out.cur).mono ?_
      rintro e w4 ⟨u, rfl, hu0, hu1, hd⟩
      have HD4 := Lib.hid (HD3.out.trans hd)
      clear hd
      go_wp2_with fail
      go_ret
      exact ⟨_, rfl, Int.emod_nonneg _ (by omega), fun _ => Int.emod_lt_of_pos _ h1, fun h => by omega, HD4.out⟩
theorem c_l01Once (code : List UInt8) (p : Nat) (n : Int) (w : World) (h : CurAt code p w) (hn : -9223372036854775808 ≤ n ∧ n ≤ 9223372036854775807) :
    Calls Tryz.prog 51 #[.pointer (some ⟨p, 0, none⟩), .int .i64 n] w fun e w' => ∃ x : Bool, e = .returned (.bool x) ∧ Dr code p w w' := by
  go_enter Tryz.func51, Tryz.ntmps51
  go_wp2_with fail
  refine (c_l01Below code p n _ h hn).mono ?_
  rintro e w1 ⟨x, rfl, -, -, -, hd⟩
  go_wp2_with fail
  go_ret
  exact ⟨_, rfl, hd⟩
set_option maxHeartbeats 1000000 in
theorem c_l01Pick (code : List UInt8) (p : Nat) (l : List ByteArray) (v : Value) (lo : Nat) (w : World) (h : CurAt code p w) (hl : Sl_Str lo w.heap.size w l v) (hp : p < lo) (h1 : 0 < l.length) (h2 : l.length ≤ 1048576) :
    Calls Tryz.prog 88 #[.pointer (some ⟨p, 0, none⟩), v] w fun e w' => ∃ s : ByteArray, e = .returned (.string s) ∧ s ∈ l ∧ Dr code p w w' := by
  have Hl := Lib.hid hl
  obtain ⟨A, c, rfl, hlc, hc, hA⟩ := hl
  obtain ⟨b, o, rfl, hb1, hb2, hcell⟩ := hA h1
  have hi1 : (0 : Int) < l.length := by omega
  have HC := Lib.hid hcell
  clear hA hcell
  go_enter Tryz.func88, Tryz.ntmps88
  go_wp2_with fail
  refine (c_l01Below code p l.length _ h (by omega)).mono ?_
  rintro e w1 ⟨x, rfl, hx0, hx1, -, hd⟩
  have hx2 := hx1 hi1
  obtain ⟨k, rfl⟩ : ∃ k : Nat, x = k := ⟨x.toNat, by omega⟩
  obtain ⟨s, hs⟩ := exists_at (show k < l.length by omega)
  obtain ⟨es, -, hes, rfl, -⟩ := HC.out k s hs
  have hy : w1.cell? ⟨b, o + k, none⟩ = some (.string s) := by
    have := hes 0 (by omega)
    rw [hd.cell hb2 (by omega)]
    simpa using this
  have Hs := Lib.hid (List.mem_of_getElem? hs)
  clear hes hs hx1
  have HD := Lib.hid hd
  clear hd
  go_wp2_with fail
  go_ret
  exact ⟨s, rfl, Hs.out, HD.out⟩
theorem i64_and30 (n : Int) : bits .and .i64 n 1073741823 = n % 1073741824 := by
  have h255 : (BitVec.ofInt 64 1073741823).toNat = 2 ^ 30 - 1 := by decide
  have key : (BitVec.ofInt 64 n &&& BitVec.ofInt 64 1073741823).toNat = (n % ((2 ^ 64 : Nat) : Int)).toNat % 2 ^ 30 := by
    rw [BitVec.toNat_and, BitVec.toNat_ofInt, h255, Nat.and_two_pow_sub_one_eq_mod]
  show IntKind.i64.wrap ((BitVec.ofInt 64 n &&& BitVec.ofInt 64 1073741823).toNat : Nat) = n % 1073741824
  rw [key, IntKind.wrap_i64]
  omega
theorem m30_I64 (n : Int) : I64 (n % 1073741824) := by unfold I64; omega
set_option maxHeartbeats 1000000 in
theorem c_l01New (code : List UInt8) (v : Value) (lo : Nat) (w : World) (hs : SlOf C_Byte 1 lo w.heap.size w code v) (hn : code.length ≤ 1048576) :
    Calls Tryz.prog 44 #[v] w fun e w' => ∃ p : Nat, e = .returned (.pointer (some ⟨p, 0, none⟩)) ∧ w.heap.size ≤ p ∧ CurAt code p w' ∧ Below w.heap.size w w' := by
  have Hs := Lib.hid hs
  obtain ⟨A, c, rfl, hlc, hc, hA⟩ := hs
  have HA := Lib.hid hA
  have hand := i64_and30
  clear hA
  go_enter Tryz.func44, Tryz.ntmps44
  go_wp2_with fail
  go_loopw [3, 4] (fun s3 s4 wr => ∃ (x : Int) (k : Nat), s3 = .int .i64 x ∧ I64 x ∧ s4 = .int .i64 k ∧ k ≤ code.length ∧ wr = w) (fun _ s4 _ => code.length - (intOf s4).toNat)
  case atStart => exact ⟨_, 0, rfl, ⟨by omega, by omega⟩, rfl, Nat.zero_le _, rfl⟩
  case round =>
    obtain ⟨x, k, rfl, hx, rfl, hk, rfl⟩ := hrel
    have Hx := Lib.hid hx
    clear hx
    have fin : CurAt code wr.heap.size (wr.alloc (.cells #[.slice A code.length c, .int .i64 0, .int .i64 x] 93)) :=
      ⟨A, c, 0, x, heap_alloc_new _ _, Hx.out, Nat.zero_le _, hn, Hs.out.keep (fun b o _ hlt => World.cell?_of_block (Below.heap_alloc _ _ _ hlt)) (Nat.zero_le _) (Nat.le_refl _) (fun _ _ _ h => h)⟩
    have Fin := Lib.hid fin
    clear fin
    by_cases hlt : k < code.length
    · by_cases h4 : k < 4000
      · obtain ⟨b, o, rfl, -, hbp, hcell⟩ := HA.out (by omega)
        obtain ⟨y, hy⟩ := exists_at hlt
        obtain ⟨es, -, hes, rfl⟩ := hcell k y hy
        have hby : wr.cell? ⟨b, o + k, none⟩ = some (.int .u8 y.toNat) := by
          have := hes 0 (by omega)
          simpa using this
        have hk0 : (0 : Int) ≤ k := by omega
        have hk1 : (k : Int) < code.length := by omega
        have hk2 : (k : Int) < 4000 := by omega
        have hy8 : (y.toNat : Int) ≤ 255 := by have := y.toNat_lt; omega
        have hy0 : (0 : Int) ≤ y.toNat := by omega
        clear hes hcell hy
        go_wp2_with fail
        go_roundw
        case rel => exact ⟨_, k + 1, rfl, m30_I64 _, by go_num, by omega, by first | trivial | rfl⟩
        case measure => simp [intOf]; omega
      · have hk1 : (k : Int) < code.length := by omega
        have hk2 : ¬ (k : Int) < 4000 := by omega
        go_wp2_with fail
        go_ret
        exact ⟨_, rfl, Nat.le_refl _, Fin.out, bel⟩
    · have hk1 : ¬ (k : Int) < code.length := by omega
      go_wp2_with fail
      go_ret
      exact ⟨_, rfl, Nat.le_refl _, Fin.out, bel⟩
theorem c_laws_big_no (code : List UInt8) (A : Option Addr) (c : Nat) (w : World) (h : code.length ≤ 1048576) :
    Calls Tryz.prog 22 #[.slice A code.length c] w fun e w' => e = .returned (.bool false) ∧ w = w' := by
  have h1 : ¬ (1048576 : Int) < code.length := by omega
  have h2 : decide ((1048576 : Int) < code.length) = false := decide_eq_false h1
  go_enter Tryz.func22, Tryz.ntmps22
  go_wp2_with fail
  go_ret
  exact ⟨by first | rfl | (rw [h2]; rfl), rfl⟩
theorem c_laws_big_yes (code : List UInt8) (A : Option Addr) (c : Nat) (w : World) (h : ¬ code.length ≤ 1048576) :
    Calls Tryz.prog 22 #[.slice A code.length c] w fun e w' => e = .returned (.bool true) ∧ w = w' := by
  have h1 : (1048576 : Int) < code.length := by omega
  have h2 : decide ((1048576 : Int) < code.length) = true := decide_eq_true h1
  go_enter Tryz.func22, Tryz.ntmps22
  go_wp2_with fail
  go_ret
  exact ⟨by first | rfl | (rw [h2]; rfl), rfl⟩
section
variable {H : Type} {enc : TypeId × Value → H} {w : World} {base : Nat} {spare : Nat → Bool} {held : Bool} {fuel : Nat} {cs : List Value} {x : DataW H × List MemPlace} {r : Reach} {b0 : Nat} {v : Value} {d : DataW H} {p : List MemPlace}
set_option maxRecDepth 100000 in
theorem cell_u8 {t : TypeId} (ht : Tryz.prog.underlying t = some (.int .u8)) (h : DataW.trod enc Tryz.prog w base spare held fuel t cs = some x) : ∃ b : UInt8, C_Byte b cs := by
  obtain ⟨n, h1, -, h2⟩ := DataW.trod_int ht h
  have hn : 0 ≤ n ∧ n ≤ 255 := by
    simp [Lit.wf, IntKind.min, IntKind.max, IntKind.signed, IntKind.bits] at h2
    omega
  refine ⟨UInt8.ofNat n.toNat, ?_⟩
  unfold C_Byte
  rw [h1, UInt8.toNat_ofNat']
  congr 2
  omega
set_option maxRecDepth 100000 in
theorem o_bytes (h : DataW.trod enc Tryz.prog w base spare held fuel 37 cs = some x) : ∃ v l, cs = [v] ∧ SlOf C_Byte 1 0 w.heap.size w l v :=
  slice_cells C_Byte Tryz.underlying37 (by kernel_rfl) (by decide) h (fun _ _ _ h' => cell_u8 Tryz.underlying5 h')
abbrev R_bytes (w : World) (l : List UInt8) (v : Value) : Prop := SlOf C_Byte 1 0 w.heap.size w l v
set_option maxRecDepth 100000 in
theorem r_bytes (hv : Value.okWide Tryz.prog w r b0 37 v) (h : DataW.Trod enc Tryz.prog w base spare held 37 v d p) : ∃ x, R_bytes w x v := by
  obtain ⟨a, len, cap, rfl⟩ := okWide_slice Tryz.underlying37 hv
  obtain ⟨fuel, hf⟩ := h
  obtain ⟨v', l, he, hs⟩ := o_bytes hf
  simp [Value.cells] at he
  subst he
  exact ⟨l, hs⟩
end
end Go.Proofs.YtffelpdefjkeaaaGreatDoor
namespace Go.Proofs.YtffelpdefjkeaaaGreatDoor
open Go.RowKit Go.ChangeShapes Go.WideShapes Go.ChangeAt
theorem sl_ints (w : World) (l : List Int) (hn : l.length ≤ 9223372036854775807) (ty : TypeId) (cs : Array Value) (hc : cs = (l.map (Value.int .i64)).toArray) :
    SlOf C_Int 1 w.heap.size (w.alloc (.cells cs ty)).heap.size (w.alloc (.cells cs ty)) l (.slice (some ⟨w.heap.size, 0, none⟩) l.length l.length) := by
  subst hc
  refine ⟨_, _, rfl, Nat.le_refl _, hn, fun _ => ⟨w.heap.size, 0, rfl, Nat.le_refl _, by simp, fun i d hd => ⟨[.int .i64 d], rfl, fun j hj => ?_, rfl⟩⟩⟩
  obtain rfl : j = 0 := by omega
  rw [cell_of_row _ _ _ _ _ _ (heap_alloc_new w _)]
  simp [hd]
set_option maxHeartbeats 1000000 in
theorem c_l01PickInt (code : List UInt8) (p : Nat) (l : List Int) (v : Value) (lo : Nat) (w : World) (h : CurAt code p w) (hl : SlOf C_Int 1 lo w.heap.size w l v) (hp : p < lo) (h1 : 0 < l.length) (h2 : l.length ≤ 1048576) :
    Calls Tryz.prog 75 #[.pointer (some ⟨p, 0, none⟩), v] w fun e w' => ∃ s : Int, e = .returned (.int .i64 s) ∧ s ∈ l ∧ Dr code p w w' := by
  have Hl := Lib.hid hl
  obtain ⟨A, c, rfl, hlc, hc, hA⟩ := hl
  obtain ⟨b, o, rfl, hb1, hb2, hcell⟩ := hA h1
  have hi1 : (0 : Int) < l.length := by omega
  have HC := Lib.hid hcell
  clear hA hcell
  go_enter Tryz.func75, Tryz.ntmps75
  go_wp2_with fail
  refine (c_l01Below code p l.length _ h (by omega)).mono ?_
  rintro e w1 ⟨x, rfl, hx0, hx1, -, hd⟩
  have hx2 := hx1 hi1
  obtain ⟨k, rfl⟩ : ∃ k : Nat, x = k := ⟨x.toNat, by omega⟩
  obtain ⟨s, hs⟩ := exists_at (show k < l.length by omega)
  obtain ⟨es, -, hes, rfl⟩ := HC.out k s hs
  have hy : w1.cell? ⟨b, o + k, none⟩ = some (.int .i64 s) := by
    have := hes 0 (by omega)
    rw [hd.cell hb2 (by omega)]
    simpa using this
  have Hs := Lib.hid (List.mem_of_getElem? hs)
  clear hes hs hx1
  have HD := Lib.hid hd
  clear hd
  go_wp2_with fail
  go_ret
  exact ⟨s, rfl, Hs.out, HD.out⟩
set_option maxHeartbeats 2000000 in
theorem c_l07Rune (code : List UInt8) (p : Nat) (w : World) (h : CurAt code p w) :
    Calls Tryz.prog 137 #[.pointer (some ⟨p, 0, none⟩)] w fun e w' => ∃ x : Int, e = .returned (.int .i64 x) ∧ (-1 ≤ x ∧ x ≤ 1114112) ∧ Dr code p w w' := by
  have hall : ∀ x ∈ ([0, 9, 10, 31, 32, 34, 92, 126, 127, 128, 2047, 2048, 55295, 55296, 57343, 57344, 65533, 65535, 65536, 1114111, 1114112, -1] : List Int), -1 ≤ x ∧ x ≤ 1114112 := by decide
  have Hall := Lib.hid hall
  clear hall
  go_enter Tryz.func137, Tryz.ntmps137
  go_wp2_with fail
  refine (c_l01Below code p 5 _ h (by omega)).mono ?_
  rintro e w1 ⟨x, rfl, hx0, hx1, -, hd⟩
  have hx2 := hx1 (by decide)
  have hc1 := hd.cur
  have hpl := hc1.lt
  have HD := Lib.hid hd
  clear hd hx1
  by_cases q0 : x = 0
  · subst q0
    go_wp2_with fail
    refine (c_l01PickInt code p ([0, 9, 10, 31, 32, 34, 92, 126, 127, 128, 2047, 2048, 55295, 55296, 57343, 57344, 65533, 65535, 65536, 1114111, 1114112, -1] : List Int) _ w1.heap.size (w1.alloc (.cells #[.int .i64 0, .int .i64 9, .int .i64 10, .int .i64 31, .int .i64 32, .int .i64 34, .int .i64 92, .int .i64 126, .int .i64 127, .int .i64 128, .int .i64 2047, .int .i64 2048, .int .i64 55295, .int .i64 55296, .int .i64 57343, .int .i64 57344, .int .i64 65533, .int .i64 65535, .int .i64 65536, .int .i64 1114111, .int .i64 1114112, .int .i64 (-1)] 3)) (hc1.below (ext_alloc (Below.refl _ _))) (sl_ints w1 ([0, 9, 10, 31, 32, 34, 92, 126, 127, 128, 2047, 2048, 55295, 55296, 57343, 57344, 65533, 65535, 65536, 1114111, 1114112, -1] : List Int) (by decide) 3 _ rfl) hpl (by decide) (by decide)).mono ?_
    rintro e w2 ⟨y, rfl, hy, hd2⟩
    have HD2 := Lib.hid (HD.out.trans (Dr.cut hd2))
    have Hy := Lib.hid (Hall.out y hy)
    clear hy hd2
    go_wp2_with fail
    go_ret
    exact ⟨y, rfl, Hy.out, HD2.out⟩
  · by_cases q1 : x = 1
    · subst q1
      go_wp2_with fail
      refine (c_l01Below code p 1114112 _ hc1 (by omega)).mono ?_
      rintro e w2 ⟨y, rfl, hy0, hy1, -, hd2⟩
      have hy2 := hy1 (by decide)
      have HD2 := Lib.hid (HD.out.trans hd2)
      clear hd2 hy1
      go_wp2_with fail
      go_ret
      exact ⟨y, rfl, ⟨by omega, by omega⟩, HD2.out⟩
    · go_wp2_with fail
      refine (c_l01Below code p 95 _ hc1 (by omega)).mono ?_
      rintro e w2 ⟨y, rfl, hy0, hy1, -, hd2⟩
      have hy2 := hy1 (by decide)
      have HD2 := Lib.hid (HD.out.trans hd2)
      clear hd2 hy1
      go_wp2_with fail
      go_ret
      exact ⟨32 + y, rfl, ⟨by omega, by omega⟩, HD2.out⟩
set_option maxHeartbeats 2000000 in
theorem c_l02Num (code : List UInt8) (p : Nat) (w : World) (h : CurAt code p w) :
    Calls Tryz.prog 76 #[.pointer (some ⟨p, 0, none⟩)] w fun e w' => ∃ x : Int, e = .returned (.int .i64 x) ∧ (I64 x) ∧ Dr code p w w' := by
  have hall : ∀ x ∈ ([0, 1, -1, 9223372036854775807, 9223372036854775806, 4611686018427387904, 4611686018427387903, -9223372036854775808, 3037000499, 3037000500] : List Int), I64 x := by unfold I64; decide
  have Hall := Lib.hid hall
  clear hall
  go_enter Tryz.func76, Tryz.ntmps76
  go_wp2_with fail
  refine (c_l01Below code p 5 _ h (by omega)).mono ?_
  rintro e w1 ⟨x, rfl, hx0, hx1, -, hd⟩
  have hx2 := hx1 (by decide)
  have hc1 := hd.cur
  have hpl := hc1.lt
  have HD := Lib.hid hd
  clear hd hx1
  by_cases q0 : x = 0
  · subst q0
    go_wp2_with fail
    refine (c_l01PickInt code p ([0, 1, -1, 9223372036854775807, 9223372036854775806, 4611686018427387904, 4611686018427387903, -9223372036854775808, 3037000499, 3037000500] : List Int) _ w1.heap.size (w1.alloc (.cells #[.int .i64 0, .int .i64 1, .int .i64 (-1), .int .i64 9223372036854775807, .int .i64 9223372036854775806, .int .i64 4611686018427387904, .int .i64 4611686018427387903, .int .i64 (-9223372036854775808), .int .i64 3037000499, .int .i64 3037000500] 3)) (hc1.below (ext_alloc (Below.refl _ _))) (sl_ints w1 ([0, 1, -1, 9223372036854775807, 9223372036854775806, 4611686018427387904, 4611686018427387903, -9223372036854775808, 3037000499, 3037000500] : List Int) (by decide) 3 _ rfl) hpl (by decide) (by decide)).mono ?_
    rintro e w2 ⟨y, rfl, hy, hd2⟩
    have HD2 := Lib.hid (HD.out.trans (Dr.cut hd2))
    have Hy := Lib.hid (Hall.out y hy)
    clear hy hd2
    go_wp2_with fail
    go_ret
    exact ⟨y, rfl, Hy.out, HD2.out⟩
  · by_cases q1 : x = 1
    · subst q1
      go_wp2_with fail
      refine (c_l01Below code p 1000000000 _ hc1 (by omega)).mono ?_
      rintro e w2 ⟨y, rfl, hy0, hy1, -, hd2⟩
      have hy2 := hy1 (by decide)
      have hc2 := hd2.cur
      have HD2 := Lib.hid (HD.out.trans hd2)
      clear hd2 hy1
      go_wp2_with fail
      refine (c_l01Below code p 1000000000 _ hc2 (by omega)).mono ?_
      rintro e w3 ⟨z, rfl, hz0, hz1, -, hd3⟩
      have hz2 := hz1 (by decide)
      have HD3 := Lib.hid (HD2.out.trans hd3)
      clear hd3 hz1
      have m0 : 0 ≤ y * (1 + z) := Int.mul_nonneg hy0 (by omega)
      have m1 : y * (1 + z) ≤ 1000000000 * 1000000001 := Int.mul_le_mul (by omega) (by omega) (by omega) (by decide)
      go_wp2_with fail
      go_ret
      exact ⟨y * (1 + z), rfl, ⟨by omega, by omega⟩, HD3.out⟩
    · go_wp2_with fail
      refine (c_l01Below code p 5000 _ hc1 (by omega)).mono ?_
      rintro e w2 ⟨y, rfl, hy0, hy1, -, hd2⟩
      have hy2 := hy1 (by decide)
      have HD2 := Lib.hid (HD.out.trans hd2)
      clear hd2 hy1
      go_wp2_with fail
      go_ret
      exact ⟨y, rfl, ⟨by omega, by omega⟩, HD2.out⟩
end Go.Proofs.YtffelpdefjkeaaaGreatDoor
namespace Go.Proofs.YtffelpdefjkeaaaGreatDoor
open Go.RowKit
theorem RowE.dr {D : Type} {enc : D → List Value} {sz ty base : Nat} {w w' : World} {l : List D} {v : Value} {code : List UInt8} {p : Nat} (h : RowE enc sz ty base w l v) (k : Dr code p w w') (hp : p < base) : RowE enc sz ty base w' l v :=
  h.carry (fun q hq => k.block (World.ownsRow.lt h q hq).2 (by have := (World.ownsRow.lt h q hq).1; omega))
theorem Dr.low {code : List UInt8} {p : Nat} {a b c : World} (h : Dr code p a b) (k : Below a.heap.size b c) (hp : p < a.heap.size) : Dr code p a c :=
  ⟨⟨k.os.trans h.aside.os, k.tape.trans h.aside.tape, k.output.trans h.aside.output, Nat.le_trans h.aside.size k.size, fun i hi hn => (k.block i hi).trans (h.aside.block i hi hn)⟩, h.cur.keep (fun i hle => k.block i (Nat.lt_of_le_of_lt hle hp))⟩
def lenOf : Value → Nat
  | .slice _ n _ => n
  | _ => 0
end Go.Proofs.YtffelpdefjkeaaaGreatDoor
namespace Go.Proofs.YtffelpdefjkeaaaGreatDoor
open Go.RowKit Go.Lib
def encI (x : Int) : List Value := [.int .i64 x]
theorem encI_len (x : Int) : (encI x).length = 1 := rfl
theorem encI_one (x : Int) : ∀ v ∈ encI x, v.oneCell' = true := by intro v hv; simp [encI] at hv; rw [hv]; rfl
theorem encI_C (x : Int) (es : List Value) (h : C_Int x es) : es = encI x := h
theorem Dr.up {code : List UInt8} {p B : Nat} {a b c : World} (h : Dr code p a b) (k : Below B b c) (hp : p < B) (hB : a.heap.size = B := by rfl) : Dr code p a c := by
  subst hB
  exact h.low k hp
theorem row_ints {w : World} {base k c : Nat} {A : Option Addr} {l : List Int} (h : RowE encI 1 3 base w l (.slice A k c)) : SlOf C_Int 1 0 w.heap.size w l (.slice A k c) := by
  have h1 := h.sl encI_len (C := C_Int) (fun d _ => rfl)
  exact SlOf.keep h1 (fun _ _ _ _ => rfl) (Nat.zero_le _) (Nat.le_refl _) (fun _ _ _ h => h)
set_option maxHeartbeats 4000000 in
set_option maxRecDepth 20000 in
theorem c_l07Text (code : List UInt8) (p most : Nat) (w : World) (h : CurAt code p w) (hm : most ≤ 100) :
    Calls Tryz.prog 111 #[.pointer (some ⟨p, 0, none⟩), .int .i64 most] w fun e w' => ∃ l : List Int, e = .returned (.string ⟨(textsI l).toArray⟩) ∧ l.length ≤ most ∧ Dr code p w w' := by
  have hpl := h.lt
  obtain ⟨i0, hi, hz0, hz1, hz2⟩ := info_parts (show (Tryz.prog.info? 3).map (fun i => (i.zero, i.size, i.bytes)) = some (some (.int .i64 0), 1, 8) from by kernel_rfl)
  have H0 := Lib.hid h
  go_enter Tryz.func111, Tryz.ntmps111
  go_wp2_with fail
  go_loopw [5, 6] (fun s i wr => ∃ (k : Nat) (l : List Int), k ≤ most ∧ l.length = k ∧ i = .int .i64 k ∧ RowE encI 1 3 w.heap.size wr l s ∧ (∀ x ∈ l, -1 ≤ x ∧ x ≤ 1114112) ∧ Dr code p w wr) (fun _ i _ => most - (intOf i).toNat)
  case atStart => exact ⟨0, [], Nat.zero_le _, rfl, rfl, own_empty rfl (Nat.le_refl _), fun x hx => (by cases hx), Dr.alloc (Dr.refl H0.out) _⟩
  case round =>
    obtain ⟨k, l, hk, hl, rfl, hR, hA, hd⟩ := hrel
    obtain ⟨A, c, rfl⟩ := hR.form
    rw [hl] at hR
    have HR := Lib.hid hR
    have HA := Lib.hid hA
    have HD := Lib.hid hd
    have hws := hd.size
    have HL := Lib.hid hl
    clear hR hA hd
    go_wp2_with fail
    refine (c_l01Below code p ((most : Int) + 1) _ HD.out.cur (by omega)).mono ?_
    rintro e w2 ⟨x, rfl, hx0, hx1, -, hd2⟩
    have hx2 := hx1 (by omega)
    have HD2 := Lib.hid (HD.out.trans hd2)
    have HR2 := Lib.hid (HR.out.dr hd2 hpl)
    have hw2 := HD2.out.size
    clear hd2 hx1
    by_cases hlt : (k : Int) < x
    · have hltd : decide ((k : Int) < x) = true := decide_eq_true hlt
      go_wp2_with fail
      refine (c_l07Rune code p _ HD2.out.cur).mono ?_
      rintro e w3 ⟨y, rfl, hy, hd3⟩
      have HY := Lib.hid hy
      have HD3 := Lib.hid (HD2.out.trans hd3)
      have HR3 := Lib.hid (HR2.out.dr hd3 hpl)
      have hw3 := HD3.out.size
      clear hd3 hy
      go_wp2_with (at_builtin; go_loud (refine wpList_append_rows (C := C_Int) rfl (.tmp 16) (.tmp 19) 88 rfl w.heap.size 3 i0 (.int .i64 0) 1 8 Tryz.underlying88 hi hz0 hz1 hz2 rfl (by decide) encI_len encI_one encI_C _ k l rfl HL.out (HR3.out.below bel) [y] (some ⟨_, 0, none⟩) 1 1 _ _ rfl rfl (sl_ints w3 [y] (by simp) 3 _ rfl) (by unfold maxLen; omega) (by omega) (by simp; omega) ?_))
      intro v' w4 hR4 hg4 ha4
      obtain ⟨A4, c4, rfl⟩ := hR4.form
      have hb4 : Below w.heap.size w3 w4 := Below.grown ((bel : Below w3.heap.size w3 _).mono hw3) hg4 (by simp; omega) (fun q hq => (World.ownsRow.lt HR3.out q hq).1)
      have HR4 := Lib.hid hR4
      have HD4 := Lib.hid (HD3.out.up hb4 hpl)
      have hln : (l ++ [y]).length = k + 1 := by rw [List.length_append, HL.out]; rfl
      have HLn := Lib.hid hln
      rw [hln]
      clear hR4 hg4 ha4 hb4 hln
      go_wp2_with fail
      go_roundw
      case rel => exact ⟨k + 1, l ++ [y], by omega, HLn.out, by go_num, by first | exact HR4.out | (rw [← HLn.out]; exact HR4.out), fun z hz => by rcases List.mem_append.1 hz with hz | hz; exact HA.out z hz; (simp at hz; rw [hz]; exact HY.out), HD4.out⟩
      case measure => first | omega | (simp [Lib.intOf]; omega) | (simp [intOf]; omega)
    · have hltd : decide ((k : Int) < x) = false := decide_eq_false hlt
      go_wp2_with fail
      refine (c_spec_RunesText l _ w2 0 (row_ints HR2.out) (fun z hz => by have := HA.out z hz; omega) (by have := HL.out; omega)).mono ?_
      rintro e w5 ⟨rfl, hb5⟩
      have HD5 := Lib.hid (HD2.out.step hb5)
      clear hb5
      go_wp2_with fail
      go_ret
      exact ⟨l, rfl, by have := HL.out; omega, HD5.out⟩
end Go.Proofs.YtffelpdefjkeaaaGreatDoor
namespace Go.Proofs.YtffelpdefjkeaaaGreatDoor
open Go.RowKit Go.Lib
set_option maxHeartbeats 2000000 in
set_option maxRecDepth 20000 in
theorem c_l08Word (code : List UInt8) (p : Nat) (w : World) (h : CurAt code p w) :
    Calls Tryz.prog 77 #[.pointer (some ⟨p, 0, none⟩)] w fun e w' => ∃ s : ByteArray, e = .returned (.string s) ∧ WordOk s ∧ Dr code p w w' := by
  have HA := Lib.hid (words_low (L := ([⟨#[]⟩, ⟨#[110, 117, 108, 108]⟩, ⟨#[116, 114, 117, 101]⟩, ⟨#[126]⟩, ⟨#[45]⟩, ⟨#[45, 32, 97]⟩, ⟨#[97, 58, 32, 98]⟩, ⟨#[97, 32, 35, 98]⟩, ⟨#[49, 50]⟩, ⟨#[45, 48]⟩, ⟨#[48, 48, 55]⟩, ⟨#[120, 10, 121]⟩, ⟨#[32, 97]⟩, ⟨#[97, 32]⟩, ⟨#[34, 113, 34]⟩, ⟨#[91]⟩, ⟨#[123, 125]⟩, ⟨#[107, 58]⟩, ⟨#[35]⟩, ⟨#[53, 48, 48, 109]⟩, ⟨#[50, 71, 105]⟩] : List ByteArray)) (by decide))
  have HB := Lib.hid (words_low (L := ([⟨#[97]⟩, ⟨#[98]⟩, ⟨#[110, 97, 109, 101]⟩, ⟨#[107, 105, 110, 100]⟩, ⟨#[120, 45, 121]⟩, ⟨#[108, 97, 98, 101, 108, 115]⟩] : List ByteArray)) (by decide))
  go_enter Tryz.func77, Tryz.ntmps77
  go_wp2_with fail
  refine (c_l01Below code p 4 _ h (by omega)).mono ?_
  rintro e w1 ⟨x, rfl, hx0, hx1, -, hd⟩
  have hx2 := hx1 (by decide)
  have hc1 := hd.cur
  have hpl := hc1.lt
  have HD := Lib.hid hd
  clear hd hx1
  by_cases q0 : x = 0
  · subst q0
    go_wp2_with fail
    refine (c_l07Text code p 5 _ hc1 (by decide)).mono ?_
    rintro e w2 ⟨l, rfl, hl, hd2⟩
    have HD2 := Lib.hid (HD.out.trans hd2)
    have HL := Lib.hid (word_texts hl)
    clear hd2 hl
    go_wp2_with fail
    go_ret
    exact ⟨_, rfl, HL.out, HD2.out⟩
  · by_cases q1 : x = 1
    · subst q1
      go_wp2_with fail
      refine (c_l01Pick code p ([⟨#[]⟩, ⟨#[110, 117, 108, 108]⟩, ⟨#[116, 114, 117, 101]⟩, ⟨#[126]⟩, ⟨#[45]⟩, ⟨#[45, 32, 97]⟩, ⟨#[97, 58, 32, 98]⟩, ⟨#[97, 32, 35, 98]⟩, ⟨#[49, 50]⟩, ⟨#[45, 48]⟩, ⟨#[48, 48, 55]⟩, ⟨#[120, 10, 121]⟩, ⟨#[32, 97]⟩, ⟨#[97, 32]⟩, ⟨#[34, 113, 34]⟩, ⟨#[91]⟩, ⟨#[123, 125]⟩, ⟨#[107, 58]⟩, ⟨#[35]⟩, ⟨#[53, 48, 48, 109]⟩, ⟨#[50, 71, 105]⟩] : List ByteArray) _ w1.heap.size (w1.alloc (.cells #[.string ⟨#[]⟩, .string ⟨#[110, 117, 108, 108]⟩, .string ⟨#[116, 114, 117, 101]⟩, .string ⟨#[126]⟩, .string ⟨#[45]⟩, .string ⟨#[45, 32, 97]⟩, .string ⟨#[97, 58, 32, 98]⟩, .string ⟨#[97, 32, 35, 98]⟩, .string ⟨#[49, 50]⟩, .string ⟨#[45, 48]⟩, .string ⟨#[48, 48, 55]⟩, .string ⟨#[120, 10, 121]⟩, .string ⟨#[32, 97]⟩, .string ⟨#[97, 32]⟩, .string ⟨#[34, 113, 34]⟩, .string ⟨#[91]⟩, .string ⟨#[123, 125]⟩, .string ⟨#[107, 58]⟩, .string ⟨#[35]⟩, .string ⟨#[53, 48, 48, 109]⟩, .string ⟨#[50, 71, 105]⟩] 9)) (hc1.below (ext_alloc (Below.refl _ _))) (sl_lit w1 ([⟨#[]⟩, ⟨#[110, 117, 108, 108]⟩, ⟨#[116, 114, 117, 101]⟩, ⟨#[126]⟩, ⟨#[45]⟩, ⟨#[45, 32, 97]⟩, ⟨#[97, 58, 32, 98]⟩, ⟨#[97, 32, 35, 98]⟩, ⟨#[49, 50]⟩, ⟨#[45, 48]⟩, ⟨#[48, 48, 55]⟩, ⟨#[120, 10, 121]⟩, ⟨#[32, 97]⟩, ⟨#[97, 32]⟩, ⟨#[34, 113, 34]⟩, ⟨#[91]⟩, ⟨#[123, 125]⟩, ⟨#[107, 58]⟩, ⟨#[35]⟩, ⟨#[53, 48, 48, 109]⟩, ⟨#[50, 71, 105]⟩] : List ByteArray) (fun s hs => Nat.le_trans (HA.out s hs).2 (by decide)) (by decide) 9 _ rfl) hpl (by decide) (by decide)).mono ?_
      rintro e w2 ⟨s, rfl, hs, hd2⟩
      have HD2 := Lib.hid (HD.out.trans (Dr.cut hd2))
      have Hs := Lib.hid (HA.out s hs)
      clear hd2 hs
      go_wp2_with fail
      go_ret
      exact ⟨s, rfl, Hs.out, HD2.out⟩
    · go_wp2_with fail
      refine (c_l01Pick code p ([⟨#[97]⟩, ⟨#[98]⟩, ⟨#[110, 97, 109, 101]⟩, ⟨#[107, 105, 110, 100]⟩, ⟨#[120, 45, 121]⟩, ⟨#[108, 97, 98, 101, 108, 115]⟩] : List ByteArray) _ w1.heap.size (w1.alloc (.cells #[.string ⟨#[97]⟩, .string ⟨#[98]⟩, .string ⟨#[110, 97, 109, 101]⟩, .string ⟨#[107, 105, 110, 100]⟩, .string ⟨#[120, 45, 121]⟩, .string ⟨#[108, 97, 98, 101, 108, 115]⟩] 9)) (hc1.below (ext_alloc (Below.refl _ _))) (sl_lit w1 ([⟨#[97]⟩, ⟨#[98]⟩, ⟨#[110, 97, 109, 101]⟩, ⟨#[107, 105, 110, 100]⟩, ⟨#[120, 45, 121]⟩, ⟨#[108, 97, 98, 101, 108, 115]⟩] : List ByteArray) (fun s hs => Nat.le_trans (HB.out s hs).2 (by decide)) (by decide) 9 _ rfl) hpl (by decide) (by decide)).mono ?_
      rintro e w2 ⟨s, rfl, hs, hd2⟩
      have HD2 := Lib.hid (HD.out.trans (Dr.cut hd2))
      have Hs := Lib.hid (HB.out s hs)
      clear hd2 hs
      go_wp2_with fail
      go_ret
      exact ⟨s, rfl, Hs.out, HD2.out⟩
end Go.Proofs.YtffelpdefjkeaaaGreatDoor
namespace Go.Proofs.YtffelpdefjkeaaaGreatDoor
open Go.RowKit Go.Lib
/-- The reader's box b: the signs L, at sign p, the text's end E, m values counted, the fault f. -/
def RdAtS (L : List SignD) (E : Int) (b : Nat) (p m : Nat) (f : Flt) (w : World) : Prop :=
  ∃ (A : Option Addr) (c : Nat), w.heap[b]? = some (.cells (rdC A L.length c p E m f) 50 (0, 0)) ∧ SignsE 0 w L (.slice A L.length c) ∧ ∀ g, (Value.slice A L.length c).ownBlock = some g → g < b
theorem RdAtS.lt {L : List SignD} {E : Int} {b p m : Nat} {f : Flt} {w : World} (h : RdAtS L E b p m f w) : b < w.heap.size := by
  obtain ⟨A, c, h1, -, -⟩ := h
  exact row_lt h1
theorem RdAtS.below {L : List SignD} {E : Int} {b p m : Nat} {f : Flt} {w w' : World} (h : RdAtS L E b p m f w) (hb : Below w.heap.size w w') : RdAtS L E b p m f w' := by
  obtain ⟨A, c, h1, h2, h3⟩ := h
  exact ⟨A, c, (hb.block b (row_lt h1)).trans h1, h2.below hb, h3⟩
theorem RdAtS.poke {L : List SignD} {E : Int} {b p m p' m' : Nat} {f f' : Flt} {w w' : World} (h : RdAtS L E b p m f w) (hF : Aside (fun q => q = b) w w') (hset : ∀ A c, w.heap[b]? = some (.cells (rdC A L.length c p E m f) 50 (0, 0)) → w'.heap[b]? = some (.cells (rdC A L.length c p' E m' f') 50 (0, 0))) : RdAtS L E b p' m' f' w' := by
  obtain ⟨A, c, h1, h2, h3⟩ := h
  exact ⟨A, c, hset A c h1, h2.carry (fun q hq => hF.block q (World.ownsRow.lt h2 q hq).2 (fun e => absurd (h3 q hq) (by omega))), h3⟩
theorem RdAtS.past {L : List SignD} {E : Int} {b p m : Nat} {f : Flt} {w w' : World} {S : Nat → Prop} (h : RdAtS L E b p m f w) (hF : Aside S w w') (hS : ∀ q, S q → b < q) : RdAtS L E b p m f w' := by
  obtain ⟨A, c, h1, h2, h3⟩ := h
  exact ⟨A, c, (hF.block b (row_lt h1) (fun h => absurd (hS b h) (Nat.lt_irrefl _))).trans h1, h2.carry (fun q hq => hF.block q (World.ownsRow.lt h2 q hq).2 (fun hs => by have := hS q hs; have := h3 q hq; omega)), h3⟩
end Go.Proofs.YtffelpdefjkeaaaGreatDoor
namespace Go.Proofs.YtffelpdefjkeaaaGreatDoor
open Go.RowKit Go.Lib
theorem c_rs_TextTree (t : ByteArray) (w : World) : Calls Tryz.prog 61 #[.string t] w fun e w' => e = .returned (.agg #[.int .i64 4, .bool false, .int .i64 0, .string t, .slice none 0 0, .slice none 0 0]) ∧ Below w.heap.size w w' := by
  go_enter Tryz.func61, Tryz.ntmps61
  go_wp2_with fail
  exact bodyPost_ret (v := .agg #[.int .i64 4, .bool false, .int .i64 0, .string t, .slice none 0 0, .slice none 0 0]) (by simp only [results, Tryz.results61]; go_simp) rfl ⟨rfl, bel⟩
theorem c_rs_IntTree (x : Int) (w : World) : Calls Tryz.prog 60 #[.int .i64 x] w fun e w' => e = .returned (.agg #[.int .i64 3, .bool false, .int .i64 x, .string ⟨#[]⟩, .slice none 0 0, .slice none 0 0]) ∧ Below w.heap.size w w' := by
  go_enter Tryz.func60, Tryz.ntmps60
  go_wp2_with fail
  exact bodyPost_ret (v := .agg #[.int .i64 3, .bool false, .int .i64 x, .string ⟨#[]⟩, .slice none 0 0, .slice none 0 0]) (by simp only [results, Tryz.results60]; go_simp) rfl ⟨rfl, bel⟩
end Go.Proofs.YtffelpdefjkeaaaGreatDoor
