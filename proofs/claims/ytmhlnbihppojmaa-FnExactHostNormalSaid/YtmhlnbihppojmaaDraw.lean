/- The laws' cursor of draws: it lies in a block of its own; each draw changes this block alone. No conditions. -/
import Derived.Test.YtmhlnbihppojmaaOwnE
import Derived.Test.YtmhlnbihppojmaaDet
import Derived.Laws.BitsLemmas
namespace Go.Proofs.Ytmhlnbihppojmaa
open Go.RowKit Go.ChangeShapes Go.WideShapes Go.ChangeAt

def C_Byte (b : UInt8) (cs : List Value) : Prop := cs = [.int .u8 b.toNat]
/-- The cursor over the bytes code lies in block p; its bytes lie in blocks before it. -/
def CurAt (code : List UInt8) (p : Nat) (w : World) : Prop :=
  ∃ A c i h, w.heap[p]? = some (.cells #[.slice A code.length c, .int .i64 (i : Nat), .int .i64 h] 130 (0, 0)) ∧ I64 h ∧ i ≤ code.length ∧ code.length ≤ 1048576 ∧ SlOf C_Byte 1 0 p w code (.slice A code.length c)
structure Dr (code : List UInt8) (p : Nat) (w w' : World) : Prop where
  aside : Aside (fun b => b = p) w w'
  cur : CurAt code p w'
theorem CurAt.lt {code : List UInt8} {p : Nat} {w : World} (h : CurAt code p w) : p < w.heap.size := by
  obtain ⟨A, c, i, x, hg, -⟩ := h
  exact row_lt hg
theorem CurAt.keep {code : List UInt8} {p : Nat} {w w' : World} (h : CurAt code p w) (hb : ∀ b, b ≤ p → w'.heap[b]? = w.heap[b]?) : CurAt code p w' := by
  obtain ⟨A, c, i, x, hg, h1, h2, h3, h4⟩ := h
  exact ⟨A, c, i, x, (hb p (Nat.le_refl _)).trans hg, h1, h2, h3, SlOf.keep h4 (fun b o _ hlt => World.cell?_of_block (hb b (Nat.le_of_lt hlt))) (Nat.le_refl _) (Nat.le_refl _) (fun _ _ _ h => h)⟩
theorem CurAt.below {code : List UInt8} {p : Nat} {w w' : World} (h : CurAt code p w) (hb : Below w.heap.size w w') : CurAt code p w' := h.keep (fun b hle => hb.block b (Nat.lt_of_le_of_lt hle h.lt))
theorem Dr.refl {code : List UInt8} {p : Nat} {w : World} (h : CurAt code p w) : Dr code p w w := ⟨Aside.refl _ _, h⟩
theorem Dr.trans {code : List UInt8} {p : Nat} {a b c : World} (h : Dr code p a b) (k : Dr code p b c) : Dr code p a c := ⟨h.aside.trans k.aside, k.cur⟩
theorem Dr.step {code : List UInt8} {p : Nat} {a b c : World} (h : Dr code p a b) (k : Below b.heap.size b c) : Dr code p a c := ⟨h.aside.trans (Aside.of_below k), h.cur.below k⟩
theorem Dr.cell {code : List UInt8} {p : Nat} {a b : World} (h : Dr code p a b) {g o : Nat} (hg : g < a.heap.size) (hp : g ≠ p) : b.cell? ⟨g, o, none⟩ = a.cell? ⟨g, o, none⟩ := World.cell?_of_block (h.aside.block g hg hp)
theorem Dr.below {code : List UInt8} {p B : Nat} {a b : World} (h : Dr code p a b) (hB : B ≤ a.heap.size) (hp : B ≤ p) : Below B a b := h.aside.below hB (fun b hb => by subst hb; exact hp)
theorem i64_and255 (n : Int) : bits .and .i64 n 255 = n % 256 := by
  have h255 : (BitVec.ofInt 64 255).toNat = 2 ^ 8 - 1 := by decide
  have key : (BitVec.ofInt 64 n &&& BitVec.ofInt 64 255).toNat = (n % ((2 ^ 64 : Nat) : Int)).toNat % 2 ^ 8 := by
    rw [BitVec.toNat_and, BitVec.toNat_ofInt, h255, Nat.and_two_pow_sub_one_eq_mod]
  show IntKind.i64.wrap ((BitVec.ofInt 64 n &&& BitVec.ofInt 64 255).toNat : Nat) = n % 256
  rw [key, IntKind.wrap_i64]
  omega
theorem wrap_I64 (n : Int) : I64 (IntKind.i64.wrap n) := by
  rw [IntKind.wrap_i64]
  unfold I64
  omega
theorem m255 (n : Int) : 0 ≤ n % 256 ∧ n % 256 ≤ 255 := by omega
theorem w64_I64 (n : Int) : I64 (wrap64 n) := by
  unfold wrap64 I64
  omega
set_option maxHeartbeats 1000000 in
theorem c_l01Byte (code : List UInt8) (p : Nat) (w : World) (h : CurAt code p w) :
    Calls Try.prog 159 #[.pointer (some ⟨p, 0, none⟩)] w fun e w' => ∃ x : Int, e = .returned (.int .i64 x) ∧ 0 ≤ x ∧ x ≤ 255 ∧ Dr code p w w' := by
  have hcur := h
  obtain ⟨A, c, i, h0, hg, hh, hi, hn, hs⟩ := h
  obtain ⟨c0, c1, c2, cf⟩ := row3 hg
  have hpl := row_lt hg
  have hand := i64_and255
  have Hs := Lib.hid hs
  go_enter Try.func159, Try.ntmps159
  go_wp2_with fail
  have hXI := w64_I64 (wrap64 (h0 * 6364136223846793005) + 1442695040888963407)
  generalize wrap64 (wrap64 (h0 * 6364136223846793005) + 1442695040888963407) = X at *
  have hg1 : (w.setCell ⟨p, 2, none⟩ (.int .i64 X)).heap[p]? = some (.cells #[.slice A code.length c, .int .i64 (i : Nat), .int .i64 X] 130 (0, 0)) := heap_setCell_same w p 2 _ _ _ hg
  have hA1 : Aside (fun b => b = p) w (w.setCell ⟨p, 2, none⟩ (.int .i64 X)) := Aside.setCell (p := ⟨p, 2, none⟩) (Aside.refl _ _) rfl
  generalize w.setCell ⟨p, 2, none⟩ (.int .i64 X) = w1 at *
  clear c0 c1 c2 cf hg hs hcur
  obtain ⟨c0, c1, c2, cf⟩ := row3 hg1
  have hpl1 := row_lt hg1
  refine wp_region_det 12 (by kernel_rfl) (by kernel_rfl) (by decide) ?_
  apply Exists.intro
  refine And.intro ?_ ?_
  · (intro W hW; (try simp only [Act.put, List.setIfInBounds_toArray, List.set_cons_zero, List.set_cons_succ]); first | (go_wp2_with fail; exact ⟨rfl, rfl, Below.refl _ _⟩))
  apply Exists.intro
  refine And.intro ?_ ?_
  · (intro W hW; (try simp only [Act.put, List.setIfInBounds_toArray, List.set_cons_zero, List.set_cons_succ]); first | (go_wp2_with fail; exact ⟨rfl, rfl, Below.refl _ _⟩))
  apply Exists.intro
  refine And.intro ?_ ?_
  · (intro W hW; (try simp only [Act.put, List.setIfInBounds_toArray, List.set_cons_zero, List.set_cons_succ]); first | (go_wp2_with fail; exact ⟨rfl, rfl, Below.refl _ _⟩))
  apply Exists.intro
  refine And.intro ?_ ?_
  · (intro W hW; (try simp only [Act.put, List.setIfInBounds_toArray, List.set_cons_zero, List.set_cons_succ]); first | (obtain ⟨hcW, hfW⟩ := bcell hW; have hsW := hW.size; (try simp at hsW); (try have hsW0 := lt_of_succ_le hsW); (try (have hsW1 := lt_pred hsW; (try (have hsW2 := lt_pred hsW1)))); go_wp2_with fail; exact ⟨rfl, rfl, Below.refl _ _⟩))
  apply Exists.intro
  refine And.intro ?_ ?_
  · (intro W hW; (try simp only [Act.put, List.setIfInBounds_toArray, List.set_cons_zero, List.set_cons_succ]); first | (go_wp2_with fail; exact ⟨rfl, rfl, Below.refl _ _⟩))
  apply Exists.intro
  refine And.intro ?_ ?_
  · (intro W hW; (try simp only [Act.put, List.setIfInBounds_toArray, List.set_cons_zero, List.set_cons_succ]); first | (go_wp2_with fail; exact ⟨rfl, rfl, Below.refl _ _⟩))
  apply Exists.intro
  refine And.intro ?_ ?_
  · (intro W hW; (try simp only [Act.put, List.setIfInBounds_toArray, List.set_cons_zero, List.set_cons_succ]); first | (go_wp2_with fail; exact ⟨rfl, rfl, Below.refl _ _⟩))
  apply Exists.intro
  refine And.intro ?_ ?_
  · (intro W hW; (try simp only [Act.put, List.setIfInBounds_toArray, List.set_cons_zero, List.set_cons_succ]); first | (go_wp2_with fail; exact ⟨rfl, rfl, Below.refl _ _⟩))
  apply Exists.intro
  refine And.intro ?_ ?_
  · (intro W hW; (try simp only [Act.put, List.setIfInBounds_toArray, List.set_cons_zero, List.set_cons_succ]); first | (obtain ⟨hcW, hfW⟩ := bcell hW; have hsW := hW.size; (try simp at hsW); (try have hsW0 := lt_of_succ_le hsW); (try (have hsW1 := lt_pred hsW; (try (have hsW2 := lt_pred hsW1)))); go_wp2_with fail; exact ⟨rfl, rfl, Below.refl _ _⟩))
  apply Exists.intro
  refine And.intro ?_ ?_
  · (intro W hW; (try simp only [Act.put, List.setIfInBounds_toArray, List.set_cons_zero, List.set_cons_succ]); first | (go_wp2_with fail; exact ⟨rfl, rfl, Below.refl _ _⟩))
  apply Exists.intro
  refine And.intro ?_ ?_
  · (intro W hW; (try simp only [Act.put, List.setIfInBounds_toArray, List.set_cons_zero, List.set_cons_succ]); first | (go_wp2_with fail; exact ⟨rfl, rfl, Below.refl _ _⟩))
  apply Exists.intro
  refine And.intro ?_ ?_
  · (intro W hW; (try simp only [Act.put, List.setIfInBounds_toArray, List.set_cons_zero, List.set_cons_succ]); first | (go_wp2_with fail; exact ⟨rfl, rfl, Below.refl _ _⟩))
  intro w1 hb
  (first | (have hcu2 := Cum.join hcu hb; (try clear hcu); (try clear hc); (try clear hfz); (try clear hsz); (try clear hs0); (try clear hs1); (try clear hs2); (try clear hs3); (try clear hs4); ) | have hcu2 := Cum.mk hb); have hcu := hcu2; clear hcu2; obtain ⟨hc, hfz⟩ := bcell hcu.h; have hsz := hcu.h.size; (try simp at hsz); (try have hs0 := lt_of_succ_le hsz); (try (have hs1 := lt_pred hsz; (try (have hs2 := lt_pred hs1; (try (have hs3 := lt_pred hs2; (try have hs4 := lt_pred hs3)))))))
  (try simp only [Act.put, List.setIfInBounds_toArray, List.set_cons_zero, List.set_cons_succ])
  (try simp only [List.drop_succ_cons, List.drop_zero])
  have hg2 := (hb.block p hpl1).trans hg1
  have hA2 := hA1.trans (Aside.of_below hb)
  have hpl2 := row_lt hg2
  clear c0 c1 c2 cf hg1 hA1 hpl1 hb
  (try clear hcu); (try clear hc); (try clear hfz); (try clear hsz); (try clear hs0); (try clear hs1); (try clear hs2); (try clear hs3); (try clear hs4)
  obtain ⟨c0, c1, c2, cf⟩ := row3 hg2
  have hki : (i : Int) ≤ 9223372036854775806 := by omega
  have hkn : (code.length : Int) ≤ 9223372036854775806 := by omega
  by_cases hlt : i < code.length
  · have hlt2 : (i : Int) < code.length := by omega
    have hlt0 : (0 : Int) ≤ i := by omega
    go_wp2_with fail
    refine wp_region_det 10 (by kernel_rfl) (by kernel_rfl) (by decide) ?_
    apply Exists.intro
    refine And.intro ?_ ?_
    · (intro W hW; (try simp only [Act.put, List.setIfInBounds_toArray, List.set_cons_zero, List.set_cons_succ]); first | (go_wp2_with fail; exact ⟨rfl, rfl, Below.refl _ _⟩))
    apply Exists.intro
    refine And.intro ?_ ?_
    · (intro W hW; (try simp only [Act.put, List.setIfInBounds_toArray, List.set_cons_zero, List.set_cons_succ]); first | (go_wp2_with fail; exact ⟨rfl, rfl, Below.refl _ _⟩))
    apply Exists.intro
    refine And.intro ?_ ?_
    · (intro W hW; (try simp only [Act.put, List.setIfInBounds_toArray, List.set_cons_zero, List.set_cons_succ]); first | (go_wp2_with fail; exact ⟨rfl, rfl, Below.refl _ _⟩))
    apply Exists.intro
    refine And.intro ?_ ?_
    · (intro W hW; (try simp only [Act.put, List.setIfInBounds_toArray, List.set_cons_zero, List.set_cons_succ]); first | (obtain ⟨hcW, hfW⟩ := bcell hW; have hsW := hW.size; (try simp at hsW); (try have hsW0 := lt_of_succ_le hsW); (try (have hsW1 := lt_pred hsW; (try (have hsW2 := lt_pred hsW1)))); go_wp2_with fail; exact ⟨rfl, rfl, Below.refl _ _⟩))
    apply Exists.intro
    refine And.intro ?_ ?_
    · (intro W hW; (try simp only [Act.put, List.setIfInBounds_toArray, List.set_cons_zero, List.set_cons_succ]); first | (go_wp2_with fail; exact ⟨rfl, rfl, Below.refl _ _⟩))
    apply Exists.intro
    refine And.intro ?_ ?_
    · (intro W hW; (try simp only [Act.put, List.setIfInBounds_toArray, List.set_cons_zero, List.set_cons_succ]); first | (go_wp2_with fail; exact ⟨rfl, rfl, Below.refl _ _⟩))
    apply Exists.intro
    refine And.intro ?_ ?_
    · (intro W hW; (try simp only [Act.put, List.setIfInBounds_toArray, List.set_cons_zero, List.set_cons_succ]); first | (go_wp2_with fail; exact ⟨rfl, rfl, Below.refl _ _⟩))
    apply Exists.intro
    refine And.intro ?_ ?_
    · (intro W hW; (try simp only [Act.put, List.setIfInBounds_toArray, List.set_cons_zero, List.set_cons_succ]); first | (obtain ⟨hcW, hfW⟩ := bcell hW; have hsW := hW.size; (try simp at hsW); (try have hsW0 := lt_of_succ_le hsW); (try (have hsW1 := lt_pred hsW; (try (have hsW2 := lt_pred hsW1)))); go_wp2_with fail; exact ⟨rfl, rfl, Below.refl _ _⟩))
    apply Exists.intro
    refine And.intro ?_ ?_
    · (intro W hW; (try simp only [Act.put, List.setIfInBounds_toArray, List.set_cons_zero, List.set_cons_succ]); first | (go_wp2_with fail; exact ⟨rfl, rfl, Below.refl _ _⟩))
    apply Exists.intro
    refine And.intro ?_ ?_
    · (intro W hW; (try simp only [Act.put, List.setIfInBounds_toArray, List.set_cons_zero, List.set_cons_succ]); first | (go_wp2_with fail; exact ⟨rfl, rfl, Below.refl _ _⟩))
    intro w1 hb
    (first | (have hcu2 := Cum.join hcu hb; (try clear hcu); (try clear hc); (try clear hfz); (try clear hsz); (try clear hs0); (try clear hs1); (try clear hs2); (try clear hs3); (try clear hs4); ) | have hcu2 := Cum.mk hb); have hcu := hcu2; clear hcu2; obtain ⟨hc, hfz⟩ := bcell hcu.h; have hsz := hcu.h.size; (try simp at hsz); (try have hs0 := lt_of_succ_le hsz); (try (have hs1 := lt_pred hsz; (try (have hs2 := lt_pred hs1; (try (have hs3 := lt_pred hs2; (try have hs4 := lt_pred hs3)))))))
    (try simp only [Act.put, List.setIfInBounds_toArray, List.set_cons_zero, List.set_cons_succ])
    (try simp only [List.drop_succ_cons, List.drop_nil])
    have hg3 := (hb.block p hpl2).trans hg2
    have hA3 := hA2.trans (Aside.of_below hb)
    have hpl3 := row_lt hg3
    clear c0 c1 c2 cf hg2 hA2 hpl2 hb
    (try clear hcu); (try clear hc); (try clear hfz); (try clear hsz); (try clear hs0); (try clear hs1); (try clear hs2); (try clear hs3); (try clear hs4)
    obtain ⟨c0, c1, c2, cf⟩ := row3 hg3

    obtain ⟨A', c', hv, -, -, hbytes⟩ := Hs.out
    simp only [Value.slice.injEq, true_and] at hv
    obtain ⟨rfl, rfl⟩ := hv
    obtain ⟨b, o, rfl, -, hbp, hcell⟩ := hbytes (by omega)
    obtain ⟨y, hy⟩ := exists_at hlt
    obtain ⟨es, -, hes, rfl⟩ := hcell i y hy
    have hbw : b < w.heap.size := by omega
    have hbne : ¬ b = p := by omega
    have hby : w1.cell? ⟨b, o + i, none⟩ = some (.int .u8 y.toNat) := by
      rw [World.cell?_of_block (hA3.block b hbw hbne)]
      have := hes 0 (by omega)
      simpa using this
    have hbl3 : b < w1.heap.size := by omega
    have hy8 : (y.toNat : Int) ≤ 255 := by have := y.toNat_lt; omega
    have hy0 : (0 : Int) ≤ y.toNat := by omega
    clear hes hcell hbytes hy
    go_wp2_with fail
    refine wp_region_det 14 (by kernel_rfl) (by kernel_rfl) (by decide) ?_
    apply Exists.intro
    refine And.intro ?_ ?_
    · (intro W hW; (try simp only [Act.put, List.setIfInBounds_toArray, List.set_cons_zero, List.set_cons_succ]); first | (go_wp2_with fail; exact ⟨rfl, rfl, Below.refl _ _⟩))
    apply Exists.intro
    refine And.intro ?_ ?_
    · (intro W hW; (try simp only [Act.put, List.setIfInBounds_toArray, List.set_cons_zero, List.set_cons_succ]); first | (go_wp2_with fail; exact ⟨rfl, rfl, Below.refl _ _⟩))
    apply Exists.intro
    refine And.intro ?_ ?_
    · (intro W hW; (try simp only [Act.put, List.setIfInBounds_toArray, List.set_cons_zero, List.set_cons_succ]); first | (go_wp2_with fail; exact ⟨rfl, rfl, Below.refl _ _⟩))
    apply Exists.intro
    refine And.intro ?_ ?_
    · (intro W hW; (try simp only [Act.put, List.setIfInBounds_toArray, List.set_cons_zero, List.set_cons_succ]); first | (go_wp2_with fail; exact ⟨rfl, rfl, Below.refl _ _⟩))
    apply Exists.intro
    refine And.intro ?_ ?_
    · (intro W hW; (try simp only [Act.put, List.setIfInBounds_toArray, List.set_cons_zero, List.set_cons_succ]); first | (obtain ⟨hcW, hfW⟩ := bcell hW; have hsW := hW.size; (try simp at hsW); (try have hsW0 := lt_of_succ_le hsW); (try (have hsW1 := lt_pred hsW; (try (have hsW2 := lt_pred hsW1)))); go_wp2_with fail; exact ⟨rfl, rfl, Below.refl _ _⟩))
    apply Exists.intro
    refine And.intro ?_ ?_
    · (intro W hW; (try simp only [Act.put, List.setIfInBounds_toArray, List.set_cons_zero, List.set_cons_succ]); first | (go_wp2_with fail; exact ⟨rfl, rfl, Below.refl _ _⟩))
    apply Exists.intro
    refine And.intro ?_ ?_
    · (intro W hW; (try simp only [Act.put, List.setIfInBounds_toArray, List.set_cons_zero, List.set_cons_succ]); first | (go_wp2_with fail; exact ⟨rfl, rfl, Below.refl _ _⟩))
    apply Exists.intro
    refine And.intro ?_ ?_
    · (intro W hW; (try simp only [Act.put, List.setIfInBounds_toArray, List.set_cons_zero, List.set_cons_succ]); first | (go_wp2_with fail; exact ⟨rfl, rfl, Below.refl _ _⟩))
    apply Exists.intro
    refine And.intro ?_ ?_
    · (intro W hW; (try simp only [Act.put, List.setIfInBounds_toArray, List.set_cons_zero, List.set_cons_succ]); first | (obtain ⟨hcW, hfW⟩ := bcell hW; have hsW := hW.size; (try simp at hsW); (try have hsW0 := lt_of_succ_le hsW); (try (have hsW1 := lt_pred hsW; (try (have hsW2 := lt_pred hsW1)))); go_wp2_with fail; exact ⟨rfl, rfl, Below.refl _ _⟩))
    apply Exists.intro
    refine And.intro ?_ ?_
    · (intro W hW; (try simp only [Act.put, List.setIfInBounds_toArray, List.set_cons_zero, List.set_cons_succ]); first | (go_wp2_with fail; exact ⟨rfl, rfl, Below.refl _ _⟩))
    apply Exists.intro
    refine And.intro ?_ ?_
    · (intro W hW; (try simp only [Act.put, List.setIfInBounds_toArray, List.set_cons_zero, List.set_cons_succ]); first | (obtain ⟨hcW, hfW⟩ := bcell hW; have hsW := hW.size; (try simp at hsW); (try have hsW0 := lt_of_succ_le hsW); (try (have hsW1 := lt_pred hsW; (try (have hsW2 := lt_pred hsW1)))); go_wp2_with fail; exact ⟨rfl, rfl, Below.refl _ _⟩))
    apply Exists.intro
    refine And.intro ?_ ?_
    · (intro W hW; (try simp only [Act.put, List.setIfInBounds_toArray, List.set_cons_zero, List.set_cons_succ]); first | (go_wp2_with fail; exact ⟨rfl, rfl, Below.refl _ _⟩))
    apply Exists.intro
    refine And.intro ?_ ?_
    · (intro W hW; (try simp only [Act.put, List.setIfInBounds_toArray, List.set_cons_zero, List.set_cons_succ]); first | (go_wp2_with fail; exact ⟨rfl, rfl, Below.refl _ _⟩))
    apply Exists.intro
    refine And.intro ?_ ?_
    · (intro W hW; (try simp only [Act.put, List.setIfInBounds_toArray, List.set_cons_zero, List.set_cons_succ]); first | (go_wp2_with fail; exact ⟨rfl, rfl, Below.refl _ _⟩))
    intro w1 hb
    (first | (have hcu2 := Cum.join hcu hb; (try clear hcu); (try clear hc); (try clear hfz); (try clear hsz); (try clear hs0); (try clear hs1); (try clear hs2); (try clear hs3); (try clear hs4); ) | have hcu2 := Cum.mk hb); have hcu := hcu2; clear hcu2; obtain ⟨hc, hfz⟩ := bcell hcu.h; have hsz := hcu.h.size; (try simp at hsz); (try have hs0 := lt_of_succ_le hsz); (try (have hs1 := lt_pred hsz; (try (have hs2 := lt_pred hs1; (try (have hs3 := lt_pred hs2; (try have hs4 := lt_pred hs3)))))))
    (try simp only [Act.put, List.setIfInBounds_toArray, List.set_cons_zero, List.set_cons_succ])
    (try simp only [List.drop_succ_cons, List.drop_zero])
    have hg4 := (hb.block p hpl3).trans hg3
    have hA4 := hA3.trans (Aside.of_below hb)
    have hpl4 := row_lt hg4
    clear c0 c1 c2 cf hg3 hA3 hpl3 hb
    (try clear hcu); (try clear hc); (try clear hfz); (try clear hsz); (try clear hs0); (try clear hs1); (try clear hs2); (try clear hs3); (try clear hs4)
    obtain ⟨c0, c1, c2, cf⟩ := row3 hg4

    go_wp2_with fail
    go_ret
    refine ⟨_, rfl, (m255 _).1, (m255 _).2, hA4.setCell (p := ⟨p, 1, none⟩) rfl, _, _, i + 1, X, ?_, hXI, by omega, hn, Hs.out.keep (fun b o _ hlt => World.cell?_of_block ((Aside.setCell (p := ⟨p, 1, none⟩) hA4 rfl).block b (by omega) (by omega))) (Nat.le_refl _) (Nat.le_refl _) (fun _ _ _ h => h)⟩
    rw [show ((i + 1 : Nat) : Int) = (i : Int) + 1 from by omega]
    exact heap_setCell_same _ p 1 _ _ _ hg4
  · have hlt2 : ¬ (i : Int) < code.length := by omega
    go_wp2_with fail
    refine wp_region_det 10 (by kernel_rfl) (by kernel_rfl) (by decide) ?_
    apply Exists.intro
    refine And.intro ?_ ?_
    · (intro W hW; (try simp only [Act.put, List.setIfInBounds_toArray, List.set_cons_zero, List.set_cons_succ]); first | (go_wp2_with fail; exact ⟨rfl, rfl, Below.refl _ _⟩))
    apply Exists.intro
    refine And.intro ?_ ?_
    · (intro W hW; (try simp only [Act.put, List.setIfInBounds_toArray, List.set_cons_zero, List.set_cons_succ]); first | (go_wp2_with fail; exact ⟨rfl, rfl, Below.refl _ _⟩))
    apply Exists.intro
    refine And.intro ?_ ?_
    · (intro W hW; (try simp only [Act.put, List.setIfInBounds_toArray, List.set_cons_zero, List.set_cons_succ]); first | (go_wp2_with fail; exact ⟨rfl, rfl, Below.refl _ _⟩))
    apply Exists.intro
    refine And.intro ?_ ?_
    · (intro W hW; (try simp only [Act.put, List.setIfInBounds_toArray, List.set_cons_zero, List.set_cons_succ]); first | (obtain ⟨hcW, hfW⟩ := bcell hW; have hsW := hW.size; (try simp at hsW); (try have hsW0 := lt_of_succ_le hsW); (try (have hsW1 := lt_pred hsW; (try (have hsW2 := lt_pred hsW1)))); go_wp2_with fail; exact ⟨rfl, rfl, Below.refl _ _⟩))
    apply Exists.intro
    refine And.intro ?_ ?_
    · (intro W hW; (try simp only [Act.put, List.setIfInBounds_toArray, List.set_cons_zero, List.set_cons_succ]); first | (go_wp2_with fail; exact ⟨rfl, rfl, Below.refl _ _⟩))
    apply Exists.intro
    refine And.intro ?_ ?_
    · (intro W hW; (try simp only [Act.put, List.setIfInBounds_toArray, List.set_cons_zero, List.set_cons_succ]); first | (go_wp2_with fail; exact ⟨rfl, rfl, Below.refl _ _⟩))
    apply Exists.intro
    refine And.intro ?_ ?_
    · (intro W hW; (try simp only [Act.put, List.setIfInBounds_toArray, List.set_cons_zero, List.set_cons_succ]); first | (go_wp2_with fail; exact ⟨rfl, rfl, Below.refl _ _⟩))
    apply Exists.intro
    refine And.intro ?_ ?_
    · (intro W hW; (try simp only [Act.put, List.setIfInBounds_toArray, List.set_cons_zero, List.set_cons_succ]); first | (obtain ⟨hcW, hfW⟩ := bcell hW; have hsW := hW.size; (try simp at hsW); (try have hsW0 := lt_of_succ_le hsW); (try (have hsW1 := lt_pred hsW; (try (have hsW2 := lt_pred hsW1)))); go_wp2_with fail; exact ⟨rfl, rfl, Below.refl _ _⟩))
    apply Exists.intro
    refine And.intro ?_ ?_
    · (intro W hW; (try simp only [Act.put, List.setIfInBounds_toArray, List.set_cons_zero, List.set_cons_succ]); first | (go_wp2_with fail; exact ⟨rfl, rfl, Below.refl _ _⟩))
    apply Exists.intro
    refine And.intro ?_ ?_
    · (intro W hW; (try simp only [Act.put, List.setIfInBounds_toArray, List.set_cons_zero, List.set_cons_succ]); first | (go_wp2_with fail; exact ⟨rfl, rfl, Below.refl _ _⟩))
    intro w1 hb
    (first | (have hcu2 := Cum.join hcu hb; (try clear hcu); (try clear hc); (try clear hfz); (try clear hsz); (try clear hs0); (try clear hs1); (try clear hs2); (try clear hs3); (try clear hs4); ) | have hcu2 := Cum.mk hb); have hcu := hcu2; clear hcu2; obtain ⟨hc, hfz⟩ := bcell hcu.h; have hsz := hcu.h.size; (try simp at hsz); (try have hs0 := lt_of_succ_le hsz); (try (have hs1 := lt_pred hsz; (try (have hs2 := lt_pred hs1; (try (have hs3 := lt_pred hs2; (try have hs4 := lt_pred hs3)))))))
    (try simp only [Act.put, List.setIfInBounds_toArray, List.set_cons_zero, List.set_cons_succ])
    (try simp only [List.drop_succ_cons, List.drop_nil])
    have hg3 := (hb.block p hpl2).trans hg2
    have hA3 := hA2.trans (Aside.of_below hb)
    have hpl3 := row_lt hg3
    clear c0 c1 c2 cf hg2 hA2 hpl2 hb
    (try clear hcu); (try clear hc); (try clear hfz); (try clear hsz); (try clear hs0); (try clear hs1); (try clear hs2); (try clear hs3); (try clear hs4)
    obtain ⟨c0, c1, c2, cf⟩ := row3 hg3

    go_wp2_with fail
    go_ret
    exact ⟨_, rfl, (m255 _).1, (m255 _).2, hA3, _, _, i, X, hg3, hXI, hi, hn, Hs.out.keep (fun b o _ hlt => World.cell?_of_block (hA3.block b (by omega) (by omega))) (Nat.le_refl _) (Nat.le_refl _) (fun _ _ _ h => h)⟩
theorem Dr.pre {code : List UInt8} {p : Nat} {a b c : World} (h : Aside (fun b => b = p) a b) (k : Dr code p b c) : Dr code p a c := ⟨h.trans k.aside, k.cur⟩
theorem Dr.alloc {code : List UInt8} {p : Nat} {a b : World} (h : Dr code p a b) (o : Obj) : Dr code p a (b.alloc o) := h.step (ext_alloc (Below.refl _ _))
theorem aside_new {S : Nat → Prop} {a b : World} (h : Aside S a b) {q o : Nat} (hq : a.heap.size ≤ q) (u : Value) : Aside S a (b.setCell ⟨q, o, none⟩ u) :=
  ⟨h.os, h.tape, h.output, by have := h.size; simp [World.setCell]; omega, fun i hi hn => (Below.heap_setCell b ⟨q, o, none⟩ u i (by simp; omega)).trans (h.block i hi hn)⟩
theorem Dr.set {code : List UInt8} {p : Nat} {a b : World} (h : Dr code p a b) (hp : p < a.heap.size) {q o : Nat} (hq : a.heap.size ≤ q) (u : Value) : Dr code p a (b.setCell ⟨q, o, none⟩ u) :=
  ⟨aside_new h.aside hq u, h.cur.keep (fun i hle => Below.heap_setCell b ⟨q, o, none⟩ u i (by simp; omega))⟩
theorem Dr.cut {code : List UInt8} {p : Nat} {a b : World} {o : Obj} (h : Dr code p (a.alloc o) b) : Dr code p a b := Dr.pre (aside_alloc (Aside.refl _ _)) h
theorem Dr.block {code : List UInt8} {p : Nat} {a b : World} (h : Dr code p a b) {g : Nat} (hg : g < a.heap.size) (hp : g ≠ p) : b.heap[g]? = a.heap[g]? := h.aside.block g hg hp
theorem Dr.size {code : List UInt8} {p : Nat} {a b : World} (h : Dr code p a b) : a.heap.size ≤ b.heap.size := h.aside.size
theorem SlOf.dr {D : Type} {C : D → List Value → Prop} {sz lo : Nat} {code : List UInt8} {p : Nat} {a b : World} {l : List D} {v : Value} (h : SlOf C sz lo a.heap.size a l v) (k : Dr code p a b) (hp : p < lo) : SlOf C sz lo b.heap.size b l v :=
  SlOf.keep h (fun g o h1 h2 => k.cell h2 (by omega)) (Nat.le_refl _) k.size (fun _ _ _ h => h)
theorem SlOf.now {D : Type} {C : D → List Value → Prop} {sz lo : Nat} {a b : World} {l : List D} {v : Value} (h : SlOf C sz lo a.heap.size a l v) (hb : Below a.heap.size a b) : SlOf C sz lo b.heap.size b l v :=
  SlOf.keep h (same_below hb) (Nat.le_refl _) hb.size (fun _ _ _ h => h)
theorem sl_lit (w : World) (ss : List ByteArray) (hs : ∀ s ∈ ss, s.size ≤ 9223372036854775807) (hn : ss.length ≤ 9223372036854775807) (ty : TypeId) (cs : Array Value) (hc : cs = (ss.map Value.string).toArray) :
    Sl_Str w.heap.size (w.alloc (.cells cs ty)).heap.size (w.alloc (.cells cs ty)) ss (.slice (some ⟨w.heap.size, 0, none⟩) ss.length ss.length) := by
  subst hc
  refine ⟨_, _, rfl, Nat.le_refl _, hn, fun _ => ⟨w.heap.size, 0, rfl, Nat.le_refl _, by simp, fun i d hd => ⟨[.string d], rfl, fun j hj => ?_, rfl, hs d (List.mem_of_getElem? hd)⟩⟩⟩
  obtain rfl : j = 0 := by omega
  rw [cell_of_row _ _ _ _ _ _ (heap_alloc_new w _)]
  simp [hd]
set_option maxHeartbeats 1000000 in
theorem c_l01Below (code : List UInt8) (p : Nat) (n : Int) (w : World) (h : CurAt code p w) (hn : -9223372036854775808 ≤ n ∧ n ≤ 9223372036854775807) :
    Calls Try.prog 105 #[.pointer (some ⟨p, 0, none⟩), .int .i64 n] w fun e w' => ∃ x : Int, e = .returned (.int .i64 x) ∧ 0 ≤ x ∧ (0 < n → x < n) ∧ (n ≤ 0 → x = 0) ∧ Dr code p w w' := by
  obtain ⟨hn1, hn2⟩ := hn
  have H := Lib.hid h
  clear h
  by_cases h0 : n ≤ 0
  · go_enter Try.func105, Try.ntmps105
    go_wp2_with fail
    go_ret
    exact ⟨0, rfl, Int.le_refl _, fun h => by omega, fun _ => rfl, Dr.refl H.out⟩
  · have h1 : 0 < n := by omega
    by_cases h2 : n ≤ 256
    · go_enter Try.func105, Try.ntmps105
      go_wp2_with fail
      refine (c_l01Byte code p _ H.out).mono ?_
      rintro e w1 ⟨x, rfl, hx0, hx1, hd⟩
      have HD := Lib.hid hd
      clear hd
      go_wp2_with fail
      go_ret
      exact ⟨_, rfl, Int.emod_nonneg _ (by omega), fun _ => Int.emod_lt_of_pos _ h1, fun h => by omega, HD.out⟩
    · go_enter Try.func105, Try.ntmps105
      go_wp2_with fail
      refine (c_l01Byte code p _ H.out).mono ?_
      rintro e w1 ⟨x, rfl, hx0, hx1, hd⟩
      have HD := Lib.hid hd
      clear hd
      go_wp2_with fail
      refine (c_l01Byte code p _ HD.out.cur).mono ?_
      rintro e w2 ⟨y, rfl, hy0, hy1, hd⟩
      have HD2 := Lib.hid (HD.out.trans hd)
      clear hd
      go_wp2_with fail
      refine (c_l01Byte code p _ HD2.out.cur).mono ?_
      rintro e w3 ⟨z, rfl, hz0, hz1, hd⟩
      have HD3 := Lib.hid (HD2.out.trans hd)
      clear hd
      go_wp2_with fail
      refine (c_l01Byte code p _ HD3.out.cur).mono ?_
      rintro e w4 ⟨u, rfl, hu0, hu1, hd⟩
      have HD4 := Lib.hid (HD3.out.trans hd)
      clear hd
      go_wp2_with fail
      go_ret
      exact ⟨_, rfl, Int.emod_nonneg _ (by omega), fun _ => Int.emod_lt_of_pos _ h1, fun h => by omega, HD4.out⟩
theorem c_l01Once (code : List UInt8) (p : Nat) (n : Int) (w : World) (h : CurAt code p w) (hn : -9223372036854775808 ≤ n ∧ n ≤ 9223372036854775807) :
    Calls Try.prog 107 #[.pointer (some ⟨p, 0, none⟩), .int .i64 n] w fun e w' => ∃ x : Bool, e = .returned (.bool x) ∧ Dr code p w w' := by
  go_enter Try.func107, Try.ntmps107
  go_wp2_with fail
  refine (c_l01Below code p n _ h hn).mono ?_
  rintro e w1 ⟨x, rfl, -, -, -, hd⟩
  go_wp2_with fail
  go_ret
  exact ⟨_, rfl, hd⟩
set_option maxHeartbeats 1000000 in
theorem c_l01Pick (code : List UInt8) (p : Nat) (l : List ByteArray) (v : Value) (lo : Nat) (w : World) (h : CurAt code p w) (hl : Sl_Str lo w.heap.size w l v) (hp : p < lo) (h1 : 0 < l.length) (h2 : l.length ≤ 1048576) :
    Calls Try.prog 210 #[.pointer (some ⟨p, 0, none⟩), v] w fun e w' => ∃ s : ByteArray, e = .returned (.string s) ∧ s ∈ l ∧ Dr code p w w' := by
  have Hl := Lib.hid hl
  obtain ⟨A, c, rfl, hlc, hc, hA⟩ := hl
  obtain ⟨b, o, rfl, hb1, hb2, hcell⟩ := hA h1
  have hi1 : (0 : Int) < l.length := by omega
  have HC := Lib.hid hcell
  clear hA hcell
  go_enter Try.func210, Try.ntmps210
  go_wp2_with fail
  refine (c_l01Below code p l.length _ h (by omega)).mono ?_
  rintro e w1 ⟨x, rfl, hx0, hx1, -, hd⟩
  have hx2 := hx1 hi1
  obtain ⟨k, rfl⟩ : ∃ k : Nat, x = k := ⟨x.toNat, by omega⟩
  obtain ⟨s, hs⟩ := exists_at (show k < l.length by omega)
  obtain ⟨es, -, hes, rfl, -⟩ := HC.out k s hs
  have hy : w1.cell? ⟨b, o + k, none⟩ = some (.string s) := by
    have := hes 0 (by omega)
    rw [hd.cell hb2 (by omega)]
    simpa using this
  have Hs := Lib.hid (List.mem_of_getElem? hs)
  clear hes hs hx1
  have HD := Lib.hid hd
  clear hd
  go_wp2_with fail
  go_ret
  exact ⟨s, rfl, Hs.out, HD.out⟩
theorem c_l14Key (code : List UInt8) (p : Nat) (w : World) (h : CurAt code p w) :
    Calls Try.prog 194 #[.pointer (some ⟨p, 0, none⟩)] w fun e w' => ∃ s : ByteArray, e = .returned (.string s) ∧ s.size ≤ 9223372036854775807 ∧ Dr code p w w' := by
  have hpl := h.lt
  have hall : ∀ s ∈ ([⟨#[122, 111, 110, 101]⟩, ⟨#[100, 105, 115, 107]⟩, ⟨#[97, 112, 112]⟩, ⟨#[116, 105, 101, 114]⟩, ⟨#[97, 46, 98, 47, 99]⟩, ⟨#[90, 111, 110, 101]⟩] : List ByteArray), s.size ≤ 9223372036854775807 := by decide
  have Hall := Lib.hid hall
  clear hall
  go_enter Try.func194, Try.ntmps194
  go_wp2_with fail
  refine (c_l01Pick code p [⟨#[122, 111, 110, 101]⟩, ⟨#[100, 105, 115, 107]⟩, ⟨#[97, 112, 112]⟩, ⟨#[116, 105, 101, 114]⟩, ⟨#[97, 46, 98, 47, 99]⟩, ⟨#[90, 111, 110, 101]⟩] _ w.heap.size (w.alloc (.cells #[.string ⟨#[122, 111, 110, 101]⟩, .string ⟨#[100, 105, 115, 107]⟩, .string ⟨#[97, 112, 112]⟩, .string ⟨#[116, 105, 101, 114]⟩, .string ⟨#[97, 46, 98, 47, 99]⟩, .string ⟨#[90, 111, 110, 101]⟩] 9)) (h.below (ext_alloc (Below.refl _ _))) (sl_lit w [⟨#[122, 111, 110, 101]⟩, ⟨#[100, 105, 115, 107]⟩, ⟨#[97, 112, 112]⟩, ⟨#[116, 105, 101, 114]⟩, ⟨#[97, 46, 98, 47, 99]⟩, ⟨#[90, 111, 110, 101]⟩] Hall.out (by decide) 9 _ rfl) hpl (by decide) (by decide)).mono ?_
  rintro e w1 ⟨s, rfl, hs, hd⟩
  have HD := Lib.hid (Dr.cut hd)
  have Hs := Lib.hid (Hall.out s hs)
  clear hd hs
  go_wp2_with fail
  go_ret
  exact ⟨s, rfl, Hs.out, HD.out⟩
theorem c_l14Value (code : List UInt8) (p : Nat) (w : World) (h : CurAt code p w) :
    Calls Try.prog 195 #[.pointer (some ⟨p, 0, none⟩)] w fun e w' => ∃ s : ByteArray, e = .returned (.string s) ∧ s.size ≤ 9223372036854775807 ∧ Dr code p w w' := by
  have hpl := h.lt
  have hall : ∀ s ∈ ([⟨#[97]⟩, ⟨#[98]⟩, ⟨#[99]⟩, ⟨#[]⟩, ⟨#[115, 115, 100]⟩, ⟨#[118, 49, 46, 50]⟩] : List ByteArray), s.size ≤ 9223372036854775807 := by decide
  have Hall := Lib.hid hall
  clear hall
  go_enter Try.func195, Try.ntmps195
  go_wp2_with fail
  refine (c_l01Pick code p [⟨#[97]⟩, ⟨#[98]⟩, ⟨#[99]⟩, ⟨#[]⟩, ⟨#[115, 115, 100]⟩, ⟨#[118, 49, 46, 50]⟩] _ w.heap.size (w.alloc (.cells #[.string ⟨#[97]⟩, .string ⟨#[98]⟩, .string ⟨#[99]⟩, .string ⟨#[]⟩, .string ⟨#[115, 115, 100]⟩, .string ⟨#[118, 49, 46, 50]⟩] 9)) (h.below (ext_alloc (Below.refl _ _))) (sl_lit w [⟨#[97]⟩, ⟨#[98]⟩, ⟨#[99]⟩, ⟨#[]⟩, ⟨#[115, 115, 100]⟩, ⟨#[118, 49, 46, 50]⟩] Hall.out (by decide) 9 _ rfl) hpl (by decide) (by decide)).mono ?_
  rintro e w1 ⟨s, rfl, hs, hd⟩
  have HD := Lib.hid (Dr.cut hd)
  have Hs := Lib.hid (Hall.out s hs)
  clear hd hs
  go_wp2_with fail
  go_ret
  exact ⟨s, rfl, Hs.out, HD.out⟩
theorem i64_and30 (n : Int) : bits .and .i64 n 1073741823 = n % 1073741824 := by
  have h255 : (BitVec.ofInt 64 1073741823).toNat = 2 ^ 30 - 1 := by decide
  have key : (BitVec.ofInt 64 n &&& BitVec.ofInt 64 1073741823).toNat = (n % ((2 ^ 64 : Nat) : Int)).toNat % 2 ^ 30 := by
    rw [BitVec.toNat_and, BitVec.toNat_ofInt, h255, Nat.and_two_pow_sub_one_eq_mod]
  show IntKind.i64.wrap ((BitVec.ofInt 64 n &&& BitVec.ofInt 64 1073741823).toNat : Nat) = n % 1073741824
  rw [key, IntKind.wrap_i64]
  omega
theorem m30_I64 (n : Int) : I64 (n % 1073741824) := by unfold I64; omega
set_option maxHeartbeats 1000000 in
theorem c_l01New (code : List UInt8) (v : Value) (lo : Nat) (w : World) (hs : SlOf C_Byte 1 lo w.heap.size w code v) (hn : code.length ≤ 1048576) :
    Calls Try.prog 61 #[v] w fun e w' => ∃ p : Nat, e = .returned (.pointer (some ⟨p, 0, none⟩)) ∧ w.heap.size ≤ p ∧ CurAt code p w' ∧ Below w.heap.size w w' := by
  have Hs := Lib.hid hs
  obtain ⟨A, c, rfl, hlc, hc, hA⟩ := hs
  have HA := Lib.hid hA
  have hand := i64_and30
  clear hA
  go_enter Try.func61, Try.ntmps61
  go_wp2_with fail
  go_loopw [3, 4] (fun s3 s4 wr => ∃ (x : Int) (k : Nat), s3 = .int .i64 x ∧ I64 x ∧ s4 = .int .i64 k ∧ k ≤ code.length ∧ wr = w) (fun _ s4 _ => code.length - (intOf s4).toNat)
  case atStart => exact ⟨_, 0, rfl, ⟨by omega, by omega⟩, rfl, Nat.zero_le _, rfl⟩
  case round =>
    obtain ⟨x, k, rfl, hx, rfl, hk, rfl⟩ := hrel
    have Hx := Lib.hid hx
    clear hx
    have fin : CurAt code wr.heap.size (wr.alloc (.cells #[.slice A code.length c, .int .i64 0, .int .i64 x] 130)) :=
      ⟨A, c, 0, x, heap_alloc_new _ _, Hx.out, Nat.zero_le _, hn, Hs.out.keep (fun b o _ hlt => World.cell?_of_block (Below.heap_alloc _ _ _ hlt)) (Nat.zero_le _) (Nat.le_refl _) (fun _ _ _ h => h)⟩
    have Fin := Lib.hid fin
    clear fin
    by_cases hlt : k < code.length
    · by_cases h4 : k < 4000
      · obtain ⟨b, o, rfl, -, hbp, hcell⟩ := HA.out (by omega)
        obtain ⟨y, hy⟩ := exists_at hlt
        obtain ⟨es, -, hes, rfl⟩ := hcell k y hy
        have hby : wr.cell? ⟨b, o + k, none⟩ = some (.int .u8 y.toNat) := by
          have := hes 0 (by omega)
          simpa using this
        have hk0 : (0 : Int) ≤ k := by omega
        have hk1 : (k : Int) < code.length := by omega
        have hk2 : (k : Int) < 4000 := by omega
        have hy8 : (y.toNat : Int) ≤ 255 := by have := y.toNat_lt; omega
        have hy0 : (0 : Int) ≤ y.toNat := by omega
        clear hes hcell hy
        go_wp2_with fail
        go_roundw
        case rel => exact ⟨_, k + 1, rfl, m30_I64 _, by go_num, by omega, by first | trivial | rfl⟩
        case measure => simp [intOf]; omega
      · have hk1 : (k : Int) < code.length := by omega
        have hk2 : ¬ (k : Int) < 4000 := by omega
        go_wp2_with fail
        go_ret
        exact ⟨_, rfl, Nat.le_refl _, Fin.out, (by repeat (first | (with_reducible exact Below.refl _ _) | (with_reducible refine ext_alloc ?_) | ((with_reducible refine ext_setCell ?_ ?_); focus (simp; (try omega))) | (with_reducible refine below_drewN ?_ _) | (with_reducible refine Below.drew ?_) | (with_reducible (apply ext_step; assumption))))⟩
    · have hk1 : ¬ (k : Int) < code.length := by omega
      go_wp2_with fail
      go_ret
      exact ⟨_, rfl, Nat.le_refl _, Fin.out, (by repeat (first | (with_reducible exact Below.refl _ _) | (with_reducible refine ext_alloc ?_) | ((with_reducible refine ext_setCell ?_ ?_); focus (simp; (try omega))) | (with_reducible refine below_drewN ?_ _) | (with_reducible refine Below.drew ?_) | (with_reducible (apply ext_step; assumption))))⟩
theorem c_laws_big_no (code : List UInt8) (A : Option Addr) (c : Nat) (w : World) (h : code.length ≤ 1048576) :
    Calls Try.prog 22 #[.slice A code.length c] w fun e w' => e = .returned (.bool false) ∧ w = w' := by
  have h1 : ¬ (1048576 : Int) < code.length := by omega
  have h2 : decide ((1048576 : Int) < code.length) = false := decide_eq_false h1
  go_enter Try.func22, Try.ntmps22
  go_wp2_with fail
  go_ret
  exact ⟨by first | rfl | (rw [h2]; rfl), rfl⟩
theorem c_laws_big_yes (code : List UInt8) (A : Option Addr) (c : Nat) (w : World) (h : ¬ code.length ≤ 1048576) :
    Calls Try.prog 22 #[.slice A code.length c] w fun e w' => e = .returned (.bool true) ∧ w = w' := by
  have h1 : (1048576 : Int) < code.length := by omega
  have h2 : decide ((1048576 : Int) < code.length) = true := decide_eq_true h1
  go_enter Try.func22, Try.ntmps22
  go_wp2_with fail
  go_ret
  exact ⟨by first | rfl | (rw [h2]; rfl), rfl⟩
section
variable {H : Type} {enc : TypeId × Value → H} {w : World} {base : Nat} {spare : Nat → Bool} {held : Bool} {fuel : Nat} {cs : List Value} {x : DataW H × List MemPlace} {r : Reach} {b0 : Nat} {v : Value} {d : DataW H} {p : List MemPlace}
set_option maxRecDepth 100000 in
theorem cell_u8 {t : TypeId} (ht : Try.prog.underlying t = some (.int .u8)) (h : DataW.trod enc Try.prog w base spare held fuel t cs = some x) : ∃ b : UInt8, C_Byte b cs := by
  obtain ⟨n, h1, -, h2⟩ := DataW.trod_int ht h
  have hn : 0 ≤ n ∧ n ≤ 255 := by
    simp [Lit.wf, IntKind.min, IntKind.max, IntKind.signed, IntKind.bits] at h2
    omega
  refine ⟨UInt8.ofNat n.toNat, ?_⟩
  unfold C_Byte
  rw [h1, UInt8.toNat_ofNat']
  congr 2
  omega
set_option maxRecDepth 100000 in
theorem o_bytes (h : DataW.trod enc Try.prog w base spare held fuel 40 cs = some x) : ∃ v l, cs = [v] ∧ SlOf C_Byte 1 0 w.heap.size w l v :=
  slice_cells C_Byte Try.underlying40 (by kernel_rfl) (by decide) h (fun _ _ _ h' => cell_u8 Try.underlying5 h')
abbrev R_bytes (w : World) (l : List UInt8) (v : Value) : Prop := SlOf C_Byte 1 0 w.heap.size w l v
set_option maxRecDepth 100000 in
theorem r_bytes (hv : Value.okWide Try.prog w r b0 40 v) (h : DataW.Trod enc Try.prog w base spare held 40 v d p) : ∃ x, R_bytes w x v := by
  obtain ⟨a, len, cap, rfl⟩ := okWide_slice Try.underlying40 hv
  obtain ⟨fuel, hf⟩ := h
  obtain ⟨v', l, he, hs⟩ := o_bytes hf
  simp [Value.cells] at he
  subst he
  exact ⟨l, hs⟩
end
end Go.Proofs.Ytmhlnbihppojmaa
