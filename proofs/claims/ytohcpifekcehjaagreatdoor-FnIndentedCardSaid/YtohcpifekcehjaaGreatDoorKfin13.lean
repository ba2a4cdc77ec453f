/- Steps to FnIndented. No conditions. -/
import Derived.Test.YtohcpifekcehjaaGreatDoorKfin12
import Derived.Deep.RegionLaw
import Derived.Test.YtohcpifekcehjaaGreatDoorKfin5
import Derived.Test.YtohcpifekcehjaaGreatDoorKfin6
import Derived.Test.YtohcpifekcehjaaGreatDoorKfin1
import Derived.Test.YtohcpifekcehjaaGreatDoorKfin3
import Derived.Test.YtohcpifekcehjaaGreatDoorKfin7
set_option maxHeartbeats 16000000
set_option maxRecDepth 20000
namespace Go.Proofs.YtohcpifekcehjaaGreatDoor
open Go.RowKit Go.Lib
theorem set6f {w : World} {b : Nat} {a0 a1 a2 a3 a4 a5 v3 v4 v5 : Value} {e : TypeId} (h : w.heap[b]? = some (.cells #[a0, a1, a2, a3, a4, a5] e (0, 0))) : (((w.setCell ⟨b, 3, none⟩ v3).setCell ⟨b, 4, none⟩ v4).setCell ⟨b, 5, none⟩ v5).heap[b]? = some (.cells #[a0, a1, a2, v3, v4, v5] e (0, 0)) :=
 heap_setCell_same _ b 5 _ _ v5 (heap_setCell_same _ b 4 _ _ v4 (heap_setCell_same w b 3 _ _ v3 h))
theorem set6m {w : World} {b : Nat} {a0 a1 a2 a3 a4 a5 v : Value} {e : TypeId} (h : w.heap[b]? = some (.cells #[a0, a1, a2, a3, a4, a5] e (0, 0))) : (w.setCell ⟨b, 2, none⟩ v).heap[b]? = some (.cells #[a0, a1, v, a3, a4, a5] e (0, 0)) := heap_setCell_same w b 2 _ _ v h
theorem set6p {w : World} {b : Nat} {a0 a1 a2 a3 a4 a5 v : Value} {e : TypeId} (h : w.heap[b]? = some (.cells #[a0, a1, a2, a3, a4, a5] e (0, 0))) : (w.setCell ⟨b, 1, none⟩ v).heap[b]? = some (.cells #[a0, v, a2, a3, a4, a5] e (0, 0)) := heap_setCell_same w b 1 _ _ v h
theorem c_in_fail (b g N cap : Nat) (L : List LineD) (m : Nat) (f : Flt) (code : Int) (a : Nat) (w : World) (h : InAt 61 b g N cap L m f w) :
  Calls Tryz.prog 52 #[.pointer (some ⟨b, 0, none⟩), .int .i64 code, .int .i64 a] w fun e w' => e = .returned (.tuple #[]) /\ InAt 61 b g N cap L m (failF f code a) w' /\ Aside (fun q => q = b) w w' := by
 have H := hid h
 obtain ⟨p, hb⟩ := h.open
 obtain ⟨a0, a1, a2, a3, a4, a5, af⟩ := row6 hb.row
 have l0 := row_lt hb.row
 obtain ⟨z, hz⟩ : ∃ z, z = f.code := ⟨_, rfl⟩
 rw [<- hz] at a3
 have HZ := hid hz
 clear hb hz h
 by_cases hc : z = 0
 ·have d1 : (z == 0) = true := beq_iff_eq.2 hc
  have hF : Aside (fun q => q = b) w (((w.setCell ⟨b, 3, none⟩ (.int .i64 code)).setCell ⟨b, 4, none⟩ (.int .i64 a)).setCell ⟨b, 5, none⟩ (.string ⟨#[]⟩)) := aside_set rfl (aside_set rfl (aside_set rfl (Aside.refl _ _)))
  have hR := InAt.turn (L' := L) (m' := m) (f' := fltA code a) H.out hF (.inl rfl) (fun p p' h1 h2 hrow => by
   obtain rfl : p' = p := by omega
   exact set6f hrow)
  have HR := hid (And.intro hR hF)
  have HE : Hid (failF f code a = fltA code a) := hid (if_pos (HZ.out.symm.trans hc))
  obtain rfl := hc
  clear hR hF d1
  go_enter Tryz.func52, Tryz.ntmps52
  go_wp2_with fail
  exact bodyPost_end (v := .tuple #[]) (by simp only [results, Tryz.results52]; go_simp) rfl ⟨rfl, by rw [HE.out]; exact HR.out.1, HR.out.2⟩
 ·have d1 : (z == 0) = false := beq_eq_false_iff_ne.2 hc
  have HE : Hid (failF f code a = f) := hid (if_neg (fun e => hc (HZ.out.trans e)))
  clear hc
  go_enter Tryz.func52, Tryz.ntmps52
  go_wp2_with fail
  exact bodyPost_end (v := .tuple #[]) (by simp only [results, Tryz.results52]; go_simp) rfl ⟨rfl, by rw [HE.out]; exact H.out, Aside.refl _ _⟩
theorem c_in_here (b g N cap : Nat) (L : List LineD) (m i : Nat) (f : Flt) (w : World) (h : InAt 61 b g N cap L m f w) :
  Calls Tryz.prog 178 #[.pointer (some ⟨b, 0, none⟩), .int .i64 i] w fun e w' => e = .returned (.bool (hereB f L i)) /\ Below w.heap.size w w' := by
 obtain ⟨p, hb⟩ := h.open
 have hpos := hb.pos
 have hsm := hb.small
 have hcp := hb.cap'
 have hln := hb.lines
 have HLn := hid hb.line
 obtain ⟨a0, a1, a2, a3, a4, a5, af⟩ := row6 hb.row
 have l0 := row_lt hb.row
 obtain ⟨z, hz⟩ : ∃ z, z = f.code := ⟨_, rfl⟩
 rw [<- hz] at a3
 obtain ⟨r, hr⟩ : ∃ r, r = hereB f L i := ⟨_, rfl⟩
 rw [<- hr]
 have HR := hid hr
 have HZ := hid hz
 clear hb h hr hz
 by_cases hc : z = 0
 rotate_left
 ·have d1 : (z == 0) = false := beq_eq_false_iff_ne.2 hc
  have HE : Hid (r = false) := hid (by rw [HR.out]; unfold hereB; rw [decide_eq_false (fun e => hc (HZ.out.trans e))]; rfl)
  clear hc
  go_enter Tryz.func178, Tryz.ntmps178
  go_wp2_with fail
  refine wp_region_det 33 (by kernel_rfl) (by kernel_rfl) (by decide) ?_
  iterate 33 (apply Exists.intro; refine And.intro ?_ ?_; (focus (intro W hW; (try simp only [Act.put, List.setIfInBounds_toArray, List.set_cons_zero, List.set_cons_succ]); first | (exact wpList_skip rfl ⟨rfl, rfl, Below.refl _ _⟩) | (obtain ⟨hcW, hfW⟩ := bcell hW; have hsW := hW.size; (try simp at hsW); (try have hsW0 := lt_of_succ_le hsW); (try (have hsW1 := lt_pred hsW; (try (have hsW2 := lt_pred hsW1)))); go_wp2_with fail; exact ⟨rfl, rfl, bel⟩))))
  intro wd hbwd
  (try simp only [Act.put, List.setIfInBounds_toArray, List.set_cons_zero, List.set_cons_succ])
  (try simp only [List.drop_succ_cons, List.drop_zero])
  go_wp2_with fail
  go_ret
  exact ⟨by rw [HE.out]; rfl, hbwd⟩
 have d1 : (z == 0) = true := beq_iff_eq.2 hc
 have hfz : decide (f.code = 0) = true := decide_eq_true (HZ.out.symm.trans hc)
 rcases L with _ | ⟨x, L⟩
 ·have HE : Hid (r = false) := hid (by rw [HR.out]; unfold hereB; rw [hfz]; rfl)
  have d2 : decide ((p : Int) < N) = false := decide_eq_false (by simp at hpos; omega)
  have d3 : decide (p < N) = false := decide_eq_false (by simp at hpos; omega)
  obtain rfl := hc
  clear d1 hpos HR hfz HLn
  go_enter Tryz.func178, Tryz.ntmps178
  go_wp2_with fail
  refine wp_region_det 33 (by kernel_rfl) (by kernel_rfl) (by decide) ?_
  iterate 33 (apply Exists.intro; refine And.intro ?_ ?_; (focus (intro W hW; (try simp only [Act.put, List.setIfInBounds_toArray, List.set_cons_zero, List.set_cons_succ]); first | (exact wpList_skip rfl ⟨rfl, rfl, Below.refl _ _⟩) | (obtain ⟨hcW, hfW⟩ := bcell hW; have hsW := hW.size; (try simp at hsW); (try have hsW0 := lt_of_succ_le hsW); (try (have hsW1 := lt_pred hsW; (try (have hsW2 := lt_pred hsW1)))); go_wp2_with fail; exact ⟨rfl, rfl, bel⟩))))
  intro wd hbwd
  (try simp only [Act.put, List.setIfInBounds_toArray, List.set_cons_zero, List.set_cons_succ])
  (try simp only [List.drop_succ_cons, List.drop_zero])
  go_wp2_with fail
  go_ret
  exact ⟨by rw [HE.out]; rfl, hbwd⟩
 ·have HE : Hid (r = decide (x.ind = i)) := hid (by rw [HR.out]; unfold hereB; rw [hfz]; rfl)
  obtain ⟨c0, c1, c2, cf⟩ := HLn.out x L rfl
  have hlt : (p : Int) < N := by rw [List.length_cons] at hpos; omega
  have hz0 : (0 : Int) <= p := by omega
  have d2 : decide ((p : Int) < N) = true := decide_eq_true hlt
  obtain ⟨k, hk⟩ : ∃ k, k = x.ind := ⟨_, rfl⟩
  rw [<- hk] at c0 HE
  obtain rfl := hc
  clear d1 hpos HR hfz HLn hk
  by_cases hki : k = i
  ·have d4 : ((k : Int) == (i : Int)) = true := beq_iff_eq.2 (by omega)
   have HE2 : Hid (r = true) := hid (by rw [HE.out]; exact decide_eq_true hki)
   subst hki
   go_enter Tryz.func178, Tryz.ntmps178
   go_wp2_with fail
   refine wp_region_det 33 (by kernel_rfl) (by kernel_rfl) (by decide) ?_
   iterate 33 (apply Exists.intro; refine And.intro ?_ ?_; (focus (intro W hW; (try simp only [Act.put, List.setIfInBounds_toArray, List.set_cons_zero, List.set_cons_succ]); first | (exact wpList_skip rfl ⟨rfl, rfl, Below.refl _ _⟩) | (obtain ⟨hcW, hfW⟩ := bcell hW; have hsW := hW.size; (try simp at hsW); (try have hsW0 := lt_of_succ_le hsW); (try (have hsW1 := lt_pred hsW; (try (have hsW2 := lt_pred hsW1)))); go_wp2_with fail; exact ⟨rfl, rfl, bel⟩))))
   intro wd hbwd
   (try simp only [Act.put, List.setIfInBounds_toArray, List.set_cons_zero, List.set_cons_succ])
   (try simp only [List.drop_succ_cons, List.drop_zero])
   go_wp2_with fail
   go_ret
   exact ⟨by rw [HE2.out]; first | rfl | simp, hbwd⟩
  ·have d4 : ((k : Int) == (i : Int)) = false := beq_eq_false_iff_ne.2 (by omega)
   have d5 : (k == i) = false := beq_eq_false_iff_ne.2 hki
   have HE2 : Hid (r = false) := hid (by rw [HE.out]; exact decide_eq_false hki)
   go_enter Tryz.func178, Tryz.ntmps178
   go_wp2_with fail
   refine wp_region_det 33 (by kernel_rfl) (by kernel_rfl) (by decide) ?_
   iterate 33 (apply Exists.intro; refine And.intro ?_ ?_; (focus (intro W hW; (try simp only [Act.put, List.setIfInBounds_toArray, List.set_cons_zero, List.set_cons_succ]); first | (exact wpList_skip rfl ⟨rfl, rfl, Below.refl _ _⟩) | (obtain ⟨hcW, hfW⟩ := bcell hW; have hsW := hW.size; (try simp at hsW); (try have hsW0 := lt_of_succ_le hsW); (try (have hsW1 := lt_pred hsW; (try (have hsW2 := lt_pred hsW1)))); go_wp2_with fail; exact ⟨rfl, rfl, bel⟩))))
   intro wd hbwd
   (try simp only [Act.put, List.setIfInBounds_toArray, List.set_cons_zero, List.set_cons_succ])
   (try simp only [List.drop_succ_cons, List.drop_zero])
   go_wp2_with fail
   go_ret
   exact ⟨by rw [HE2.out]; first | rfl | simp [d5], hbwd⟩
theorem begin_deep {d m a : Nat} (h : 8 < d) : beginX d m a = fltA 6 a := by unfold beginX beginF; rw [if_pos h]; rfl
theorem begin_many {d m a : Nat} (h : ¬ 8 < d) (h2 : 300 <= m) : beginX d m a = fltA 7 a := by unfold beginX beginF; rw [if_neg h, if_pos h2]; rfl
theorem begin_fine {d m a : Nat} (h : ¬ 8 < d) (h2 : ¬ 300 <= m) : beginX d m a = flt0 := by unfold beginX beginF; rw [if_neg h, if_neg h2]; rfl
theorem c_in_begin (b g N cap : Nat) (L : List LineD) (m d a : Nat) (w : World) (h : InAt 61 b g N cap L m flt0 w) (hm : m <= 1000) (hd : d <= 1000) :
  Calls Tryz.prog 100 #[.pointer (some ⟨b, 0, none⟩), .int .i64 d, .int .i64 a] w fun e w' => e = .returned (.tuple #[]) /\ InAt 61 b g N cap L (m + 1) (beginX d m a) w' /\ Aside (fun q => q = b) w w' := by
 have hf1 : ∀ (W : World) (f : Flt) (M : Nat), InAt 61 b g N cap L M f W -> InAt 61 b g N cap L (M + 1) f (W.setCell ⟨b, 2, none⟩ (.int .i64 ((M : Int) + 1))) := fun W f M hW =>
  InAt.turn hW (aside_set rfl (Aside.refl _ _)) (.inl rfl) (fun p p' h1 h2 hrow => by
   obtain rfl : p' = p := by omega
   exact set6m hrow)
 have HF1 := hid hf1
 have H := hid h
 clear hf1 h
 by_cases h8 : (8 : Int) < d
 ·have d8 : decide ((8 : Int) < d) = true := decide_eq_true h8
  have d8' : decide (8 < d) = true := decide_eq_true (by omega)
  go_enter Tryz.func100, Tryz.ntmps100
  go_wp2_with fail
  refine (c_in_fail b g N cap L m flt0 6 a w H.out).mono ?_
  rintro e w1 ⟨rfl, hR1, hA1⟩
  have HR1 := hid (show InAt 61 b g N cap L m (fltA 6 a) w1 from hR1)
  have HA1 := hid hA1
  obtain ⟨p, hb⟩ := hR1.open
  obtain ⟨a0, a1, a2, a3, a4, a5, af⟩ := row6 hb.row
  have l0 := row_lt hb.row
  have HR2 := hid (HF1.out w1 _ m HR1.out)
  have HA2 := hid (HA1.out.trans (aside_set (S := fun q => q = b) (p := ⟨b, 2, none⟩) (u := .int .i64 ((m : Int) + 1)) rfl (Aside.refl _ w1)))
  have HE := hid (begin_deep (m := m) (a := a) (show 8 < d by omega))
  clear hb hR1 hA1
  by_cases h3 : (300 : Int) < (m : Int) + 1
  ·have d3 : decide ((300 : Int) < (m : Int) + 1) = true := decide_eq_true h3
   go_wp2_with fail
   refine (c_in_fail b g N cap L (m + 1) (fltA 6 a) 7 a _ HR2.out).mono ?_
   rintro e w3 ⟨rfl, hR3, hA3⟩
   have HR3 := hid (show InAt 61 b g N cap L (m + 1) (fltA 6 a) w3 from hR3)
   have HA3 := hid (HA2.out.trans hA3)
   clear hR3 hA3
   go_wp2_with fail
   exact bodyPost_end (v := .tuple #[]) (by simp only [results, Tryz.results100]; go_simp) rfl ⟨rfl, by rw [HE.out]; exact HR3.out, HA3.out⟩
  ·have d3 : decide ((300 : Int) < (m : Int) + 1) = false := decide_eq_false h3
   go_wp2_with fail
   exact bodyPost_end (v := .tuple #[]) (by simp only [results, Tryz.results100]; go_simp) rfl ⟨rfl, by rw [HE.out]; exact HR2.out, HA2.out⟩
 ·have d8 : decide ((8 : Int) < d) = false := decide_eq_false h8
  have d8' : decide (8 < d) = false := decide_eq_false (by omega)
  obtain ⟨p, hb⟩ := H.out.open
  obtain ⟨a0, a1, a2, a3, a4, a5, af⟩ := row6 hb.row
  have l0 := row_lt hb.row
  have HR2 := hid (HF1.out w _ m H.out)
  have HA2 := hid (aside_set (S := fun q => q = b) (p := ⟨b, 2, none⟩) (u := .int .i64 ((m : Int) + 1)) rfl (Aside.refl _ w))
  clear hb
  by_cases h3 : (300 : Int) < (m : Int) + 1
  ·have d3 : decide ((300 : Int) < (m : Int) + 1) = true := decide_eq_true h3
   have HE := hid (begin_many (d := d) (m := m) (a := a) (show ¬ 8 < d by omega) (by omega))
   go_enter Tryz.func100, Tryz.ntmps100
   go_wp2_with fail
   refine (c_in_fail b g N cap L (m + 1) flt0 7 a _ HR2.out).mono ?_
   rintro e w3 ⟨rfl, hR3, hA3⟩
   have HR3 := hid (show InAt 61 b g N cap L (m + 1) (fltA 7 a) w3 from hR3)
   have HA3 := hid (HA2.out.trans hA3)
   clear hR3 hA3
   go_wp2_with fail
   exact bodyPost_end (v := .tuple #[]) (by simp only [results, Tryz.results100]; go_simp) rfl ⟨rfl, by rw [HE.out]; exact HR3.out, HA3.out⟩
  ·have d3 : decide ((300 : Int) < (m : Int) + 1) = false := decide_eq_false h3
   have HE := hid (begin_fine (d := d) (m := m) (a := a) (show ¬ 8 < d by omega) (by omega))
   go_enter Tryz.func100, Tryz.ntmps100
   go_wp2_with fail
   exact bodyPost_end (v := .tuple #[]) (by simp only [results, Tryz.results100]; go_simp) rfl ⟨rfl, by rw [HE.out]; exact HR2.out, HA2.out⟩
def lenL (L : List LineD) : Nat := L.length
def LessN (j : JobI) (L L' : List LineD) : Prop := lenL L' <= lenL L /\ match j with
 | .value _ => lenL L' + 1 <= lenL L
 | .below _ _ _ => True
 | .list i _ _ => headItem i L = true -> lenL L' + 1 <= lenL L
 | .pairs i _ _ _ => headKey i L = true -> lenL L' + 1 <= lenL L
theorem len_cons (x : LineD) (l : List LineD) : lenL (x :: l) = lenL l + 1 := rfl
theorem readK_len : ∀ (n : Nat) (j : JobI) (L : List LineD) (m : Nat) (t : TreeD) (L' : List LineD) (m' : Nat), readK n j L m = .good t L' m' -> LessN j L L'
 | 0, j, L, m, t, L', m', h => by cases h
 | n + 1, .value d, [], m, t, L', m', h => by cases h
 | n + 1, .value d, x :: r, m, t, L', m', h => by
  rw [readK_value] at h
  rcases hb : beginF d m x.at' with _ | f
  ·rw [hb] at h
   simp only at h
   by_cases c1 : (itemB x.text).isSome = true
   ·rw [if_pos c1] at h
    have g := readK_len n _ _ _ _ _ _ h
    have g2 := g.2 (by show (decide (x.ind = x.ind) && (itemB x.text).isSome) = true; rw [c1]; simp)
    exact ⟨g.1, g2⟩
   rw [if_neg c1] at h
   by_cases c2 : (keyB x.text).isSome = true
   ·rw [if_pos c2] at h
    have g := readK_len n _ _ _ _ _ _ h
    have g2 := g.2 (by show (decide (x.ind = x.ind) && !(itemB x.text).isSome && (keyB x.text).isSome) = true; rw [c2]; simp at c1; simp [c1])
    exact ⟨g.1, g2⟩
   rw [if_neg c2] at h
   rcases hs : scalB x.text with _ | u
   ·rw [hs] at h; cases h
   ·rw [hs] at h
    cases h
    unfold LessN
    rw [len_cons]
    exact ⟨by omega, by simp only; omega⟩
  ·rw [hb] at h; cases h
 | n + 1, .below i d a, L, m, t, L', m', h => by
  rw [readK_below] at h
  by_cases c : below? i L = true
  ·rw [if_pos c] at h
   exact ⟨(readK_len n (.value d) L m t L' m' h).1, trivial⟩
  ·rw [if_neg c] at h
   rcases hb : beginF d m a with _ | f
   ·rw [hb] at h
    cases h
    exact ⟨Nat.le_refl _, trivial⟩
   ·rw [hb] at h; cases h
 | n + 1, .list i d acc, [], m, t, L', m', h => by
  cases h
  exact ⟨Nat.le_refl _, fun e => by cases e⟩
 | n + 1, .list i d acc, x :: r, m, t, L', m', h => by
  rw [readK_list] at h
  by_cases c1 : x.ind ≠ i
  ·rw [if_pos c1] at h
   cases h
   exact ⟨Nat.le_refl _, fun e => by simp [headItem, c1] at e⟩
  rw [if_neg c1] at h
  rcases hi : itemB x.text with _ | ⟨rest, k⟩
  ·rw [hi] at h
   cases h
   exact ⟨Nat.le_refl _, fun e => by simp [headItem, hi] at e⟩
  rw [hi] at h
  simp only at h
  rcases hr : itemJ n i d x r rest k m with f | ⟨u, L1, m1⟩
  ·rw [hr] at h; cases h
  rw [hr] at h
  simp only at h
  have hv : lenL L1 + 1 <= lenL (x :: r) := by
   unfold itemJ at hr
   by_cases c2 : k = 0
   ·rw [if_pos c2] at hr
    have := (readK_len n (.below i (d + 1) x.at') _ _ _ _ _ hr).1
    rw [len_cons]
    omega
   ·rw [if_neg c2] at hr
    have := (readK_len n (.value (d + 1)) _ _ _ _ _ hr).2
    simp only [len_cons] at this
    rw [len_cons]
    omega
  have g := (readK_len n _ _ _ _ _ _ h).1
  exact ⟨by omega, fun _ => by omega⟩
 | n + 1, .pairs i d ks acc, [], m, t, L', m', h => by
  cases h
  exact ⟨Nat.le_refl _, fun e => by cases e⟩
 | n + 1, .pairs i d ks acc, x :: r, m, t, L', m', h => by
  rw [readK_pairs] at h
  by_cases c1 : x.ind ≠ i ∨ (itemB x.text).isSome = true
  ·rw [if_pos c1] at h
   cases h
   exact ⟨Nat.le_refl _, fun e => by rcases c1 with c1 | c1 <;> simp [headKey, c1] at e⟩
  rw [if_neg c1] at h
  rcases hi : keyB x.text with _ | ⟨key, rest⟩
  ·rw [hi] at h
   cases h
   exact ⟨Nat.le_refl _, fun e => by simp [headKey, hi] at e⟩
  rw [hi] at h
  simp only at h
  by_cases c2 : 400 < key.size
  ·rw [if_pos c2] at h; cases h
  rw [if_neg c2] at h
  by_cases c3 : ks.contains key = true
  ·rw [if_pos c3] at h; cases h
  rw [if_neg c3] at h
  rcases hr : pairJ n i d x r rest m with f | ⟨u, L1, m1⟩
  ·rw [hr] at h; cases h
  rw [hr] at h
  simp only at h
  have hv : lenL L1 + 1 <= lenL (x :: r) := by
   unfold pairJ at hr
   rw [len_cons]
   by_cases c4 : rest.size = 0
   ·rw [if_pos c4] at hr
    have := (readK_len n (.below i (d + 1) x.at') _ _ _ _ _ hr).1
    omega
   ·rw [if_neg c4] at hr
    rcases hb : beginF (d + 1) m x.at' with _ | f
    ·rw [hb] at hr
     simp only at hr
     rcases hs : scalB rest with _ | v
     ·rw [hs] at hr; cases hr
     ·rw [hs] at hr
      cases hr
      omega
    ·rw [hb] at hr; cases hr
  have g := (readK_len n _ _ _ _ _ _ h).1
  exact ⟨by omega, fun _ => by omega⟩
theorem readK_len_value {n d m m' : Nat} {L L' : List LineD} {t : TreeD} (h : readK n (.value d) L m = .good t L' m') : L'.length < L.length := by
 have := (readK_len n _ _ _ _ _ _ h).2
 unfold lenL at this
 exact this
theorem readK_len_le {n m m' : Nat} {j : JobI} {L L' : List LineD} {t : TreeD} (h : readK n j L m = .good t L' m') : L'.length <= L.length := by
 have := (readK_len n _ _ _ _ _ _ h).1
 unfold lenL at this
 exact this
theorem readK_grow {n d m m' : Nat} {L L' : List LineD} {t : TreeD} (h : readK n (.value d) L m = .good t L' m') (hm : m <= 300) (hd : d <= 9) : m + 1 <= m' /\ m' <= 300 := by
 obtain ⟨-, h2, h3⟩ := readK_ok n _ _ _ _ _ _ h hm (11 - d) (by omega)
 obtain ⟨N, hN⟩ : ∃ N, 11 - d = N + 1 := ⟨10 - d, by omega⟩
 rw [hN] at h2
 unfold sizeT at h2
 omega
theorem readK_growB {n i d a m m' : Nat} {L L' : List LineD} {t : TreeD} (h : readK n (.below i d a) L m = .good t L' m') (hm : m <= 300) (hd : d <= 9) : m + 1 <= m' /\ m' <= 300 := by
 obtain ⟨-, h2, h3⟩ := readK_ok n _ _ _ _ _ _ h hm (11 - d) (by omega)
 obtain ⟨N, hN⟩ : ∃ N, 11 - d = N + 1 := ⟨10 - d, by omega⟩
 rw [hN] at h2
 unfold sizeT at h2
 omega
def TreeV (cs : List Value) : Prop := ∃ (k : Int) (fl : Bool) (nu : Int) (t : ByteArray) (A4 : Option Addr) (n4 c4 : Nat) (A5 : Option Addr) (n5 c5 : Nat), cs = [.int .i64 k, .bool fl, .int .i64 nu, .string t, .slice A4 n4 c4, .slice A5 n5 c5]
theorem TreeV.one {cs : List Value} (h : TreeV cs) : ∀ u ∈ cs, u.oneCell' = true := by
 obtain ⟨k, fl, nu, t, A4, n4, c4, A5, n5, c5, rfl⟩ := h
 intro u hu
 simp at hu
 rcases hu with rfl | rfl | rfl | rfl | rfl | rfl <;> rfl
def OutI (ty : TypeId) (b g N cap nT : Nat) (r : ResI) (w : World) (e : Ending) (w' : World) : Prop :=
 ∃ (cs : List Value) (L' : List LineD) (m' : Nat) (f' : Flt), e = .returned (.agg cs.toArray) /\ TreeV cs /\ InAt ty b g N cap L' m' f' w' /\ InOk L' /\ Aside (fun q => q = b ∨ q = g) w w' /\
  match r with
  | .bad f => f' = f /\ f.code ≠ 0
  | .good t L m => f' = flt0 /\ L' = L /\ m' = m /\ OwnT nT (fun x => w.heap.size <= x /\ x < w'.heap.size) w' t cs
def resT : ResI -> Option TreeD
 | .bad _ => none
 | .good t _ _ => some t
structure KidsE (nT base : Nat) (wx : World) (c : Option (List TreeD)) (v : Value) (ess : List (List Value)) : Prop where
 six : ∀ es ∈ ess, es.length = 6
 row : wx.ownsRow base 34 6 v ess.length ess.flatten
 hi : ∀ q, v.ownBlock = some q -> q < wx.heap.size
 good : ∀ acc, c = some acc -> acc.length = ess.length /\ ∃ F : Nat -> Nat -> Prop, (∀ i b, F i b -> base <= b /\ b < wx.heap.size /\ v.ownBlock ≠ some b) /\ (∀ i j b, F i b -> F j b -> i = j) /\ ∀ i d es, acc[i]? = some d -> ess[i]? = some es -> OwnT nT (F i) wx d es
theorem KidsE.nil (nT base : Nat) (wx : World) : KidsE nT base wx (some []) (.slice none 0 0) [] :=
 ⟨fun _ h => (by cases h), World.ownsRow_nil _ _ _ _, fun _ h => (by cases h), fun acc h => by
  cases h
  exact ⟨rfl, fun _ _ => False, fun _ _ h => h.elim, fun _ _ _ h => h.elim, fun i d es h => (by simp at h)⟩⟩
theorem KidsE.grow {nT base : Nat} {wx : World} {acc : List TreeD} {v : Value} {ess : List (List Value)} (h : KidsE nT base wx (some acc) v ess) : GrowK nT base wx.heap.size wx acc v := by
 obtain ⟨hl, F, h1, h2, h3⟩ := h.good acc rfl
 exact ⟨ess, F, hl.symm, h.six, by rw [hl]; exact h.row, h.hi, h1, h2, h3⟩
theorem KidsE.form {nT base : Nat} {wx : World} {c : Option (List TreeD)} {v : Value} {ess : List (List Value)} (h : KidsE nT base wx c v ess) : ∃ A cp, v = .slice A ess.length cp := own_form h.row
theorem KidsE.carry {nT base : Nat} {wx wy : World} {c : Option (List TreeD)} {v : Value} {ess : List (List Value)} (h : KidsE nT base wx c v ess) (hs : wx.heap.size <= wy.heap.size) (hb : ∀ q, base <= q -> q < wx.heap.size -> wy.heap[q]? = wx.heap[q]?) : KidsE nT base wy c v ess :=
 ⟨h.six, ownsRow_carry h.row (fun q hq => hb q (h.row.lt q hq).1 (h.hi q hq)), fun q hq => Nat.lt_of_lt_of_le (h.hi q hq) hs, fun acc hc => by
  obtain ⟨hl, F, h1, h2, h3⟩ := h.good acc hc
  exact ⟨hl, F, fun i b hF => ⟨(h1 i b hF).1, Nat.lt_of_lt_of_le (h1 i b hF).2.1 hs, (h1 i b hF).2.2⟩, h2, fun i d es hd he => (h3 i d es hd he).carry (fun b hF => hb b (h1 i b hF).1 (h1 i b hF).2.1) (fun _ h => h)⟩⟩
def comb2 : Option (List TreeD) -> Option TreeD -> Option (List TreeD)
 | some acc, some t => some (acc ++ [t])
 | _, _ => none
theorem KidsE.push {nT base g cap s9 : Nat} {wr w2 : World} {c : Option (List TreeD)} {t : Option TreeD} {v : Value} {ess : List (List Value)} {cs : List Value} (h : KidsE nT base wr c v ess) (hcs : cs.length = 6)
  (hkeep : ∀ q, base <= q -> q < wr.heap.size -> v.ownBlock ≠ some q -> w2.heap[q]? = wr.heap[q]?) (hbase : base <= wr.heap.size) (hs9 : wr.heap.size <= s9) (hs2 : s9 <= w2.heap.size)
  (hown : ∀ u, t = some u -> OwnT nT (fun x => wr.heap.size <= x /\ x < s9) w2 u cs)
  (ho : w2.ownsRow base 34 6 (.slice (some ⟨g, 0, none⟩) (ess.length + 1) cap) (ess.length + 1) (ess.flatten ++ cs)) (hat : v.ownBlock = some g ∨ s9 <= g) (hg : g < w2.heap.size) :
  KidsE nT base w2 (comb2 c t) (.slice (some ⟨g, 0, none⟩) (ess.length + 1) cap) (ess ++ [cs]) := by
 refine ⟨?_, by simpa using ho, ?_, ?_⟩
 ·intro x hx
  rcases List.mem_append.1 hx with hx | hx
  ·exact h.six x hx
  ·simp at hx; subst hx; exact hcs
 ·intro q hq
  simp [Value.ownBlock] at hq
  omega
 ·intro acc2 hc2
  rcases c with _ | acc
  ·cases hc2
  rcases t with _ | u
  ·cases hc2
  cases hc2
  obtain ⟨hl, F, h5, h6, h7⟩ := h.good acc rfl
  have hu := hown u rfl
  refine ⟨by simp [hl], fun i b => (i < acc.length /\ F i b) ∨ (i = acc.length /\ wr.heap.size <= b /\ b < s9), ?_, ?_, ?_⟩
  ·rintro i b (⟨hi, hF⟩ | ⟨hi, hF1, hF2⟩)
   ·obtain ⟨f1, f2, f3⟩ := h5 i b hF
    refine ⟨f1, by omega, fun e => ?_⟩
    simp [Value.ownBlock] at e
    rcases hat with hat | hat
    ·rw [hat, e] at f3; exact f3 rfl
    ·omega
   ·refine ⟨by omega, by omega, fun e => ?_⟩
    simp [Value.ownBlock] at e
    rcases hat with hat | hat
    ·have := h.hi g hat; omega
    ·omega
  ·rintro i j b (⟨hi, hF⟩ | ⟨hi, hF, -⟩) (⟨hj, hG⟩ | ⟨hj, hG, -⟩)
   ·exact h6 i j b hF hG
   ·have := (h5 i b hF).2.1; omega
   ·have := (h5 j b hG).2.1; omega
   ·omega
  ·intro i d' es' hd' hes'
   by_cases hlt : i < acc.length
   ·rw [List.getElem?_append_left hlt] at hd'
    rw [List.getElem?_append_left (by omega)] at hes'
    exact (h7 i d' es' hd' hes').carry (fun b hF => hkeep b (h5 i b hF).1 (h5 i b hF).2.1 (h5 i b hF).2.2) (fun b hF => .inl ⟨hlt, hF⟩)
   ·have hil : i = acc.length := by
     have := (List.getElem?_eq_some_iff.1 hd').1
     simp at this
     omega
    subst hil
    rw [List.getElem?_append_right (by omega)] at hd'
    rw [List.getElem?_append_right (by omega)] at hes'
    simp at hd'
    simp [hl] at hes'
    subst hd' hes'
    exact hu.carry (fun _ _ => rfl) (fun b hF => .inr ⟨rfl, hF.1, hF.2⟩)
structure LBoxI (b g : Nat) (kind : Int) (w wx : World) (vk v : Value) : Prop where
 zero : wx.heap[w.heap.size]? = some (.cells #[.int .i64 0, .bool false, .int .i64 0, .string ⟨#[]⟩, .slice none 0 0, .slice none 0 0] 34 (0, 0))
 list : wx.heap[w.heap.size + 1]? = some (.cells #[.int .i64 kind, .bool false, .int .i64 0, .string ⟨#[]⟩, vk, v] 34 (0, 0))
 aside : Aside (fun q => q = b ∨ q = g ∨ w.heap.size <= q) w wx
theorem LBoxI.same {b g : Nat} {kind : Int} {w wx wy : World} {vk v : Value} {S : Nat -> Prop} (h : LBoxI b g kind w wx vk v) (hF : Aside S wx wy) (hS : ∀ q, S q -> q = b ∨ q = g ∨ w.heap.size + 2 <= q) (hb : b < w.heap.size) (hg : g < w.heap.size) : LBoxI b g kind w wy vk v :=
 ⟨(hF.block _ (row_lt h.zero) (fun hq => by have := hS _ hq; omega)).trans h.zero, (hF.block _ (row_lt h.list) (fun hq => by have := hS _ hq; omega)).trans h.list, h.aside.join hF (fun q hq _ => by have := hS q hq; omega)⟩
theorem Aside.low2 {b g : Nat} {a c : World} (h : Aside (fun q => q = b ∨ q = g ∨ a.heap.size <= q) a c) : Aside (fun q => q = b ∨ q = g) a c :=
 ⟨h.os, h.tape, h.output, h.size, fun i hi hn => h.block i hi (fun hq => hq.elim (fun e => hn (.inl e)) (fun hq => hq.elim (fun e => hn (.inr e)) (fun hq => absurd hi (by omega))))⟩
def inM (N b : Nat) (w : World) : Nat := match w.cell? ⟨b, 3, none⟩ with
 | some (.int _ z) => if z = 0 then (match w.cell? ⟨b, 1, none⟩ with | some (.int _ y) => N + 1 - y.toNat | _ => 0) else 0
 | _ => 0
theorem InAt.meas {ty : TypeId} {b g N cap : Nat} {L : List LineD} {m : Nat} {f : Flt} {w : World} (h : InAt ty b g N cap L m f w) : inM N b w = if f.code = 0 then L.length + 1 else 0 := by
 obtain ⟨p, hb⟩ := h.open
 obtain ⟨a0, a1, a2, a3, a4, a5, af⟩ := row6 hb.row
 have := hb.pos
 unfold inM
 rw [a3, a1]
 simp only [Int.toNat_natCast]
 split
 ·omega
 ·rfl
def ListI (ty : TypeId) (b g N cap i n d nT : Nat) (r : ResI) (w wx : World) : Prop :=
 ∃ (c : Option (List TreeD)) (v : Value) (ess : List (List Value)) (L : List LineD) (m : Nat) (f : Flt), LBoxI b g 5 w wx (.slice none 0 0) v /\ KidsE nT (w.heap.size + 2) wx c v ess /\ InAt ty b g N cap L m f wx /\ InOk L /\ ess.length <= 301 /\
  match c with
  | some acc => f = flt0 /\ m <= 300 /\ acc.length <= m /\ ∃ k, needI (.list i d acc) L <= k /\ k <= n /\ r = readK k (.list i d acc) L m
  | none => f.code ≠ 0 /\ r = .bad f
def headB (s : ByteArray) : Bool := firstBad.any fun c => decide (byteI s 0 = (c.toNat : Int))
def digK (s : ByteArray) (i : Nat) : Bool := allR i fun j => digitB (byteI s j)
def plnW (s : ByteArray) : Bool := decide (s = bs [110, 117, 108, 108]) || decide (s = bs [126]) || decide (s = bs [116, 114, 117, 101]) || decide (s = bs [102, 97, 108, 115, 101])
theorem figs_dig (s : ByteArray) : figsB s = digK s s.size := by
 rw [Bool.eq_iff_iff]
 unfold figsB digK allR
 simp only [List.all_eq_true, List.mem_range, Bool.and_eq_true, decide_eq_true_eq]
 constructor
 ·intro h i hi
  have hm : s.get! i ∈ s.data.toList := List.mem_of_getElem? (byte_list hi)
  have := h _ hm
  unfold digitB byteI
  exact decide_eq_true (by omega)
 ·intro h c hc
  obtain ⟨i, hi, e⟩ := List.getElem_of_mem hc
  have hl : i < s.size := by rw [list_size] at hi; exact hi
  have e2 := byte_list hl
  rw [List.getElem?_eq_getElem hi, e] at e2
  cases e2
  have h2 := h i hl
  unfold digitB byteI at h2
  have := of_decide_eq_true h2
  omega
theorem plain_eq (s : ByteArray) : plainB s = (inB s.size 1 400 && utf8B s && !headB s && !decide (byteI s 0 = 32) && !decide (byteI s (s.size - 1) = 32) && allR s.size (plainC s) && !digK s s.size && !plnW s) := by
 have e : inB s.size 1 400 = (decide (1 <= s.size) && decide (s.size <= 400)) := by
  unfold inB
  rw [Bool.eq_iff_iff]
  simp only [Bool.and_eq_true, decide_eq_true_eq]
  omega
 unfold plainB plnW
 rw [figs_dig, e]
 show _ = (_ && _ && _ && !headB s && _ && _ && _ && _ && _)
 simp only [Bool.not_or, Bool.and_assoc]
 rfl
theorem plain_no {s : ByteArray} (h : inB s.size 1 400 = false ∨ utf8B s = false ∨ headB s = true ∨ byteI s 0 = 32 ∨ byteI s (s.size - 1) = 32) : plainB s = false := by
 rw [plain_eq]
 rcases h with h | h | h | h | h <;> simp [h]
theorem plain_at {s : ByteArray} {i : Nat} (hi : i < s.size) (h : plainC s i = false) : plainB s = false := by
 rw [plain_eq, allR_bad _ i _ hi h]
 simp
theorem plain_all {s : ByteArray} (h1 : inB s.size 1 400 = true) (h2 : utf8B s = true) (h3 : headB s = false) (h4 : byteI s 0 ≠ 32) (h5 : byteI s (s.size - 1) ≠ 32) (h6 : allR s.size (plainC s) = true) : plainB s = (!digK s s.size && !plnW s) := by
 rw [plain_eq, h1, h2, h3, h6]
 simp [h4, h5]
structure TxtNe (x y : ByteArray) : Prop where
 dec : decide (x = y) = false
 lst : (x.toList == y.toList) = false
theorem TxtNe.of {x y : ByteArray} (h : ¬ x = y) : TxtNe x y := ⟨decide_eq_false h, beq_eq_false_iff_ne.2 (fun e => h (by
 rw [ByteArray.toList_eq, ByteArray.toList_eq] at e
 cases x; cases y
 congr 1
 exact Array.toList_inj.1 e))⟩
theorem bs_list (l : List UInt8) : (bs l).toList = l := by rw [ByteArray.toList_eq]; rfl
theorem is_word (s : ByteArray) (l : List UInt8) : decide (s = bs l) = (s.toList == l) := by
 by_cases e : s = bs l
 ·subst e
  rw [bs_list]
  simp
 ·have := (TxtNe.of e).lst
  rw [bs_list] at this
  rw [decide_eq_false e, this]
theorem pre_two (s : ByteArray) (a b : UInt8) : Lib.hasPrefix s.data.toList [a, b] = decide (2 <= s.size /\ byteI s 0 = (a.toNat : Int) /\ byteI s 1 = (b.toNat : Int)) := by
 unfold hasPrefix
 rw [Bool.eq_iff_iff, List.isPrefixOf_iff_prefix, List.prefix_iff_eq_take, decide_eq_true_eq]
 rw [<- list_size]
 rcases hl : s.data.toList with _ | ⟨x, _ | ⟨y, l⟩⟩
 ·simp
 ·simp
 ·have e0 := @byte_list s 0 (by rw [<- list_size, hl]; simp)
  have e1 := @byte_list s 1 (by rw [<- list_size, hl]; simp)
  rw [hl] at e0 e1
  simp only [List.getElem?_cons_zero, List.getElem?_cons_succ, Option.some.injEq] at e0 e1
  unfold byteI
  rw [<- e0, <- e1]
  simp only [List.length_cons, List.length_nil, List.take_succ_cons, List.take_zero, List.cons.injEq, and_true]
  constructor
  ·rintro ⟨h1, h2⟩
   rw [h1, h2]
   exact ⟨by omega, rfl, rfl⟩
  ·rintro ⟨-, h1, h2⟩
   exact ⟨(UInt8.toNat_inj.1 (by omega)).symm, (UInt8.toNat_inj.1 (by omega)).symm⟩
theorem pre_one (s : ByteArray) (a : UInt8) : Lib.hasPrefix s.data.toList [a] = decide (0 < s.size /\ byteI s 0 = (a.toNat : Int)) := by
 unfold hasPrefix
 rw [Bool.eq_iff_iff, List.isPrefixOf_iff_prefix, List.prefix_iff_eq_take, decide_eq_true_eq]
 rw [<- list_size]
 rcases hl : s.data.toList with _ | ⟨x, l⟩
 ·simp
 ·have e0 := @byte_list s 0 (by rw [<- list_size, hl]; simp)
  rw [hl] at e0
  simp only [List.getElem?_cons_zero, Option.some.injEq] at e0
  unfold byteI
  rw [<- e0]
  simp only [List.length_cons, List.length_nil, List.take_succ_cons, List.take_zero, List.cons.injEq, and_true]
  constructor
  ·intro h1
   rw [h1]
   exact ⟨by omega, rfl⟩
  ·rintro ⟨-, h1⟩
   exact (UInt8.toNat_inj.1 (by omega)).symm
theorem findE_some {s : ByteArray} {i : Nat} : ∀ (f k : Nat), k + f = s.size -> k <= i -> i < s.size -> (∀ j, k <= j -> j < i -> endsB s j = false) -> endsB s i = true -> findE s f k = some i
 | 0, k, h, hk, hi, _, _ => by omega
 | f + 1, k, h, hk, hi, hn, he => by
  unfold findE
  rw [if_pos (by omega)]
  by_cases e : k = i
  ·subst e
   rw [if_pos he]
  ·rw [if_neg (by rw [hn k (Nat.le_refl _) (by omega)]; decide)]
   exact findE_some f (k + 1) (by omega) (by omega) hi (fun j h1 h2 => hn j (by omega) h2) he
theorem findE_none {s : ByteArray} : ∀ (f k : Nat), (∀ j, k <= j -> j < s.size -> endsB s j = false) -> findE s f k = none
 | 0, k, _ => rfl
 | f + 1, k, hn => by
  unfold findE
  by_cases e : k < s.size
  ·rw [if_pos e, if_neg (by rw [hn k (Nat.le_refl _) e]; decide)]
   exact findE_none f (k + 1) (fun j h1 h2 => hn j (by omega) h2)
  ·rw [if_neg e]
def keyV : Option (ByteArray × ByteArray) -> Value
 | none => .tuple #[.string ⟨#[]⟩, .string ⟨#[]⟩, .bool false]
 | some (k, r) => .tuple #[.string k, .string r, .bool true]
def itemV : Option (ByteArray × Nat) -> Value
 | none => .tuple #[.string ⟨#[]⟩, .int .i64 0, .bool false]
 | some (r, k) => .tuple #[.string r, .int .i64 k, .bool true]
theorem key_quot {s : ByteArray} {e : Nat} (h : 0 < s.size) (hq : byteI s 0 = 34) (hz : (quotB s 0).2 = (e : Int)) (he : endsB s e = true) : keyB s = some ((quotB s 0).1, tailL s (e + 1)) := by
 unfold keyB
 rw [if_pos ⟨h, hq⟩, hz, if_pos ⟨by omega, by rw [Int.toNat_natCast]; exact he⟩, Int.toNat_natCast]
theorem key_quot_no {s : ByteArray} (h : 0 < s.size) (hq : byteI s 0 = 34) (he : (quotB s 0).2 < 0 ∨ endsB s (quotB s 0).2.toNat = false) : keyB s = none := by
 unfold keyB
 rw [if_pos ⟨h, hq⟩, if_neg]
 rintro ⟨h1, h2⟩
 rcases he with h3 | h3
 ·omega
 ·rw [h3] at h2; cases h2
theorem key_plain {s : ByteArray} {i : Nat} (hq : ¬ (0 < s.size /\ byteI s 0 = 34)) (hi : i < s.size) (hn : ∀ j, j < i -> endsB s j = false) (he : endsB s i = true) : keyB s = if plainB (s.extract 0 i) then some (s.extract 0 i, tailL s (i + 1)) else none := by
 unfold keyB
 rw [if_neg hq, findE_some s.size 0 (Nat.zero_add _) (Nat.zero_le _) hi (fun j _ h => hn j h) he, extract_upto]
 rfl
theorem key_none {s : ByteArray} (hq : ¬ (0 < s.size /\ byteI s 0 = 34)) (hn : ∀ j, j < s.size -> endsB s j = false) : keyB s = none := by
 unfold keyB
 rw [if_neg hq, findE_none s.size 0 (fun j _ h => hn j h)]
theorem tail_eq (s : ByteArray) (i : Nat) : bs (trimLeftB (s.extract i s.size).data.toList 32) = tailL s i := by
 unfold tailL
 rw [extract_eq, List.take_of_length_le (by rw [List.length_drop, list_size]; exact Nat.le_refl _)]
theorem item_one {s : ByteArray} (h : s = bs [45]) : itemB s = some (bs [], 0) := by unfold itemB; rw [if_pos h]
theorem item_some {s : ByteArray} (h : ¬ s = bs [45]) (h2 : 2 <= s.size) (h0 : byteI s 0 = 45) (h1 : byteI s 1 = 32) : itemB s = some (tailL s 2, s.size - (tailL s 2).size) := by unfold itemB; rw [if_neg h, if_pos ⟨h2, h0, h1⟩]
theorem item_none {s : ByteArray} (h : ¬ s = bs [45]) (h2 : ¬ (2 <= s.size /\ byteI s 0 = 45 /\ byteI s 1 = 32)) : itemB s = none := by unfold itemB; rw [if_neg h, if_neg h2]
theorem tail_size (s : ByteArray) (i : Nat) : (tailL s i).size <= s.size := by
 unfold tailL
 have h := trimL_len (s.data.toList.drop i) 32
 rw [List.length_drop, list_size] at h
 have e : (bs (trimLeftB (s.data.toList.drop i) 32)).size = (trimLeftB (s.data.toList.drop i) 32).length := size_mk _
 omega
theorem c_impl_ItemOf (s : ByteArray) (w : World) (hs : s.size <= 1048576) :
  Calls Tryz.prog 101 #[.string s] w fun e w' => e = .returned (itemV (itemB s)) /\ w = w' := by
 by_cases h : s = (⟨#[45]⟩ : ByteArray)
 ·have HF := item_one h
  subst h
  rw [HF]
  go_enter Tryz.func101, Tryz.ntmps101
  go_wp2_with fail
  exact bodyPost_ret (v := .tuple #[.string ⟨#[]⟩, .int .i64 0, .bool true]) (by simp only [results, Tryz.results101]; go_simp) rfl ⟨rfl, rfl⟩
 have HN := TxtNe.of h
 have KP := c_HasPrefix s ⟨#[45, 32]⟩ w
 rw [show Lib.hasPrefix s.data.toList (⟨#[45, 32]⟩ : ByteArray).data.toList = _ from pre_two s 45 32] at KP
 have KT := c_TrimLeft (s.extract 2 s.size) w
 rw [tail_eq] at KT
 have hz := tail_size s 2
 have k1 : (s.toList == [45]) = false := by have := HN.lst; rw [show (⟨#[45]⟩ : ByteArray).toList = [45] from by rw [ByteArray.toList_eq]] at this; exact this
 by_cases hp : 2 <= s.size /\ byteI s 0 = ((45 : UInt8).toNat : Int) /\ byteI s 1 = ((32 : UInt8).toNat : Int)
 ·rw [decide_eq_true hp] at KP
  have HF := item_some h hp.1 hp.2.1 hp.2.2
  rw [HF]
  obtain ⟨t, ht⟩ : ∃ t, t = tailL s 2 := ⟨_, rfl⟩
  rw [<- ht] at KT hz ⊢
  have h2 : 2 <= s.size := hp.1
  have h2I : (2 : Int) <= s.size := by omega
  have hw : IntKind.i64.wrap ((s.size : Int) - (t.size : Int)) = (s.size : Int) - (t.size : Int) := by rw [IntKind.wrap_i64] <;> omega
  have HK := hid (And.intro KP KT)
  have HC : Hid (((s.size - t.size : Nat) : Int) = (s.size : Int) - (t.size : Int)) := hid (by omega)
  clear KP KT hp HF ht h
  go_enter Tryz.func101, Tryz.ntmps101
  go_wp2_with fail
  refine HK.out.1.mono ?_
  rintro e w1 ⟨rfl, rfl⟩
  go_wp2_with fail
  refine HK.out.2.mono ?_
  rintro e w1 ⟨rfl, rfl⟩
  go_wp2_with fail
  exact bodyPost_ret (v := .tuple #[.string t, .int .i64 ((s.size : Int) - (t.size : Int)), .bool true]) (by simp only [results, Tryz.results101]; go_simp) rfl ⟨by rw [<- HC.out]; rfl, rfl⟩
 ·rw [decide_eq_false hp] at KP
  have HF := item_none h hp
  rw [HF]
  have HK := hid KP
  clear KP KT hp HF h
  go_enter Tryz.func101, Tryz.ntmps101
  go_wp2_with fail
  refine HK.out.mono ?_
  rintro e w1 ⟨rfl, rfl⟩
  go_wp2_with fail
  exact bodyPost_ret (v := .tuple #[.string ⟨#[]⟩, .int .i64 0, .bool false]) (by simp only [results, Tryz.results101]; go_simp) rfl ⟨rfl, rfl⟩
theorem ends_at {s : ByteArray} {i : Nat} {q1 q2 q3 : Bool} (hi : i < s.size) (h1 : decide (byteI s i = 58) = q1) (h2 : decide (i + 1 = s.size) = q2) (h3 : decide (byteI s (i + 1) = 32) = q3) : endsB s i = (q1 && (q2 || q3)) := by
 unfold endsB
 rw [h1, h2, h3, decide_eq_true hi, Bool.true_and]
theorem ends_past {s : ByteArray} {i : Nat} (hi : ¬ i < s.size) : endsB s i = false := by
 unfold endsB
 rw [decide_eq_false hi, Bool.false_and, Bool.false_and]
theorem c_endsKey (s : ByteArray) (i : Nat) (w : World) (hs : s.size <= 1048576) (hi : i <= 1048576) :
  Calls Tryz.prog 181 #[.string s, .int .i64 i] w fun e w' => e = .returned (.bool (endsB s i)) /\ w = w' := by
 by_cases hlt : (i : Int) < s.size
 ·have hii : i < s.size := by omega
  have hd : decide ((i : Int) < s.size) = true := decide_eq_true hlt
  have hz : (0 : Int) <= i := by omega
  obtain ⟨b, hbb⟩ : ∃ b : Nat, b = (s.get! i).toNat := ⟨_, rfl⟩
  have hx : (s[i]'hii).toNat = b := by rw [hbb]; exact get_byte s i hii
  have HY : Hid (byteI s i = b) := hid (by unfold byteI; rw [hbb])
  clear hbb
  by_cases h58 : (b : Int) = 58
  ·have k1 : ((b : Int) == 58) = true := beq_iff_eq.2 h58
   by_cases hl : (i : Int) + 1 = s.size
   ·have k2 : ((i : Int) + 1 == s.size) = true := beq_iff_eq.2 hl
    have HE := hid (ends_at hii (decide_eq_true (by rw [HY.out]; exact h58)) (decide_eq_true (by omega)) rfl)
    go_enter Tryz.func181, Tryz.ntmps181
    go_wp2_with fail
    go_ret
    exact ⟨by rw [HE.out]; rfl, rfl⟩
   ·have k2 : ((i : Int) + 1 == s.size) = false := beq_eq_false_iff_ne.2 hl
    have hjj : i + 1 < s.size := by omega
    have hjI : (i : Int) + 1 < s.size := by omega
    have hz1 : (0 : Int) <= (i : Int) + 1 := by omega
    obtain ⟨c, hcc⟩ : ∃ c : Nat, c = (s.get! (i + 1)).toNat := ⟨_, rfl⟩
    have hxc : (s[i + 1]'hjj).toNat = c := by rw [hcc]; exact get_byte s (i + 1) hjj
    have HZ : Hid (byteI s (i + 1) = c) := hid (by unfold byteI; rw [hcc])
    clear hcc
    by_cases h32 : (c : Int) = 32
    ·have k3 : ((c : Int) == 32) = true := beq_iff_eq.2 h32
     have HE := hid (ends_at hii (decide_eq_true (by rw [HY.out]; exact h58)) (decide_eq_false (by omega)) (decide_eq_true (by rw [HZ.out]; exact h32)))
     go_enter Tryz.func181, Tryz.ntmps181
     go_wp2_with fail
     go_ret
     exact ⟨by rw [HE.out]; rfl, rfl⟩
    ·have k3 : ((c : Int) == 32) = false := beq_eq_false_iff_ne.2 h32
     have HE := hid (ends_at hii (decide_eq_true (by rw [HY.out]; exact h58)) (decide_eq_false (by omega)) (decide_eq_false (by rw [HZ.out]; exact h32)))
     go_enter Tryz.func181, Tryz.ntmps181
     go_wp2_with fail
     go_ret
     exact ⟨by rw [HE.out]; rfl, rfl⟩
  ·have k1 : ((b : Int) == 58) = false := beq_eq_false_iff_ne.2 h58
   have HE := hid (ends_at hii (decide_eq_false (by rw [HY.out]; exact h58)) rfl rfl)
   go_enter Tryz.func181, Tryz.ntmps181
   go_wp2_with fail
   go_ret
   exact ⟨by rw [HE.out, Bool.false_and]; rfl, rfl⟩
 ·have hd : decide ((i : Int) < s.size) = false := decide_eq_false hlt
  have HE := hid (ends_past (s := s) (i := i) (by omega))
  go_enter Tryz.func181, Tryz.ntmps181
  go_wp2_with fail
  go_ret
  exact ⟨by rw [HE.out]; rfl, rfl⟩
theorem c_l11Ends (s : ByteArray) (i : Nat) (w : World) (hs : s.size <= 1048576) (hii : i < s.size) :
  Calls Tryz.prog 191 #[.string s, .int .i64 i] w fun e w' => e = .returned (.bool (endsB s i)) /\ w = w' := by
 have hlt : (i : Int) < s.size := by omega
 have hz : (0 : Int) <= i := by omega
 obtain ⟨b, hbb⟩ : ∃ b : Nat, b = (s.get! i).toNat := ⟨_, rfl⟩
 have hx : (s[i]'hii).toNat = b := by rw [hbb]; exact get_byte s i hii
 have HY : Hid (byteI s i = b) := hid (by unfold byteI; rw [hbb])
 clear hbb
 by_cases h58 : (b : Int) = 58
 ·have k1 : ((b : Int) == 58) = true := beq_iff_eq.2 h58
  by_cases hl : (i : Int) = (s.size : Int) - 1
  ·have k2 : ((i : Int) == (s.size : Int) - 1) = true := beq_iff_eq.2 hl
   have HE := hid (ends_at hii (decide_eq_true (by rw [HY.out]; exact h58)) (decide_eq_true (by omega)) rfl)
   clear hl
   go_enter Tryz.func191, Tryz.ntmps191
   go_wp2_with fail
   go_ret
   exact ⟨by rw [HE.out]; rfl, rfl⟩
  ·have k2 : ((i : Int) == (s.size : Int) - 1) = false := beq_eq_false_iff_ne.2 hl
   have hjj : i + 1 < s.size := by omega
   have hjI : (i : Int) + 1 < s.size := by omega
   have hz1 : (0 : Int) <= (i : Int) + 1 := by omega
   obtain ⟨c, hcc⟩ : ∃ c : Nat, c = (s.get! (i + 1)).toNat := ⟨_, rfl⟩
   have hxc : (s[i + 1]'hjj).toNat = c := by rw [hcc]; exact get_byte s (i + 1) hjj
   have HZ : Hid (byteI s (i + 1) = c) := hid (by unfold byteI; rw [hcc])
   clear hcc
   by_cases h32 : (c : Int) = 32
   ·have k3 : ((c : Int) == 32) = true := beq_iff_eq.2 h32
    have HE := hid (ends_at hii (decide_eq_true (by rw [HY.out]; exact h58)) (decide_eq_false (by omega)) (decide_eq_true (by rw [HZ.out]; exact h32)))
    go_enter Tryz.func191, Tryz.ntmps191
    go_wp2_with fail
    go_ret
    exact ⟨by rw [HE.out]; rfl, rfl⟩
   ·have k3 : ((c : Int) == 32) = false := beq_eq_false_iff_ne.2 h32
    have HE := hid (ends_at hii (decide_eq_true (by rw [HY.out]; exact h58)) (decide_eq_false (by omega)) (decide_eq_false (by rw [HZ.out]; exact h32)))
    go_enter Tryz.func191, Tryz.ntmps191
    go_wp2_with fail
    go_ret
    exact ⟨by rw [HE.out]; rfl, rfl⟩
 ·have k1 : ((b : Int) == 58) = false := beq_eq_false_iff_ne.2 h58
  have HE := hid (ends_at hii (decide_eq_false (by rw [HY.out]; exact h58)) rfl rfl)
  go_enter Tryz.func191, Tryz.ntmps191
  go_wp2_with fail
  go_ret
  exact ⟨by rw [HE.out, Bool.false_and]; rfl, rfl⟩
theorem head_contains (s : ByteArray) : headB s = firstBad.contains (s.get! 0) := by
 rw [List.contains_eq_any_beq]
 unfold headB
 congr 1
 funext c
 exact byte_is.symm
theorem head_idx (s : ByteArray) : decide (0 <= Lib.indexByte firstBad (s.get! 0)) = headB s := by
 rw [head_contains]
 rcases h : firstBad.contains (s.get! 0) with _ | _
 ·exact decide_eq_false (by have := indexByte_lt.2 h; omega)
 ·refine decide_eq_true ?_
  rcases Int.lt_or_le (Lib.indexByte firstBad (s.get! 0)) 0 with g | g
  ·rw [indexByte_lt.1 g] at h; cases h
  ·exact g
theorem c_IndexFirst (s : ByteArray) (b : Nat) (hb : b = (s.get! 0).toNat) (w : World) : Calls Tryz.prog 130 #[.string { data := #[45, 63, 58, 44, 91, 93, 123, 125, 38, 42, 33, 124, 62, 39, 37, 64, 96] }, .int .u8 b] w fun e w' => ∃ z : Int, e = .returned (.int .i64 z) /\ decide (0 <= z) = headB s /\ w = w' := by
 subst hb
 exact (c_strings_IndexByte _ (s.get! 0) w).mono (fun _ _ h => ⟨_, h.1, head_idx s, h.2⟩)
theorem c_impl_PlainOk (s : ByteArray) (w : World) (hs : s.size <= 1048576) (hT : Tabs w) :
  Calls Tryz.prog 182 #[.string s] w fun e w' => e = .returned (.bool (plainB s)) /\ Below w.heap.size w w' := by
 have HU := hid (c_impl_Utf8Ok s w (by omega) hT)
 obtain ⟨r, hr⟩ : ∃ r, r = plainB s := ⟨_, rfl⟩
 rw [<- hr]
 have HR := hid hr
 clear hr hT
 rcases hq1 : inB s.size 1 400 with _ | _
 ·have HF := hid (HR.out.trans (plain_no (.inl hq1)))
  go_enter Tryz.func182, Tryz.ntmps182
  go_wp2_with (first | (go_at_call 63; refine (c_impl_within _ _ _ _).mono ?_; rintro e w' ⟨rfl, rfl⟩))
  go_ret
  exact ⟨by rw [HF.out]; rfl, bel⟩
 have hq : 1 <= s.size /\ s.size <= 400 := by
  unfold inB at hq1
  have := of_decide_eq_true hq1
  omega
 obtain ⟨hsz1, hsz4⟩ := hq
 rcases hq2 : utf8B s with _ | _
 ·have HF := hid (HR.out.trans (plain_no (.inr (.inl hq2))))
  rw [hq2] at HU
  go_enter Tryz.func182, Tryz.ntmps182
  go_wp2_with (first | (go_at_call 222; refine HU.out.mono ?_; rintro e w1 ⟨rfl, hb1⟩) | (go_at_call 63; refine (c_impl_within _ _ _ _).mono ?_; rintro e w' ⟨rfl, rfl⟩))
  go_ret
  exact ⟨by rw [HF.out]; rfl, bel⟩
 rw [hq2] at HU
 obtain ⟨p, hp⟩ : ∃ p, s.size = p + 1 := ⟨s.size - 1, by omega⟩
 have hpz : (s.size : Int) = (p : Int) + 1 := by omega
 have hq1p : inB ((p : Int) + 1) 1 400 = true := by rw [<- hpz]; exact hq1
 have h0 : 0 < s.size := by omega
 have hpp : p < s.size := by omega
 have hps : s.size - 1 = p := by omega
 obtain ⟨b, hbb⟩ : ∃ b : Nat, b = (s.get! 0).toNat := ⟨_, rfl⟩
 have hx : (s[0]'h0).toNat = b := by rw [hbb]; exact get_byte s 0 h0
 obtain ⟨l, hll⟩ : ∃ b : Nat, b = (s.get! p).toNat := ⟨_, rfl⟩
 have hxl : (s[p]'hpp).toNat = l := by rw [hll]; exact get_byte s p hpp
 have HB : Hid (byteI s 0 = b) := hid (by unfold byteI; rw [hbb])
 have HL : Hid (byteI s (s.size - 1) = l) := hid (by rw [hps]; unfold byteI; rw [hll])
 have HI := hid (c_IndexFirst s b hbb)
 clear hbb hll hps hp hsz1
 rcases hq3 : headB s with _ | _
 rotate_left
 ·have HF := hid (HR.out.trans (plain_no (.inr (.inr (.inl hq3)))))
  rw [hq3] at HI
  go_enter Tryz.func182, Tryz.ntmps182
  go_wp2_with (first | (go_at_call 222; refine HU.out.mono ?_; rintro e w1 ⟨rfl, hb1⟩) | (go_at_call 130; refine (HI.out _).mono ?_; rintro e w1 ⟨z, rfl, hz, rfl⟩; have hz2 := of_decide_eq_true hz) | (go_at_call 63; refine (c_impl_within _ _ _ _).mono ?_; rintro e w' ⟨rfl, rfl⟩))
  go_ret
  exact ⟨by rw [HF.out]; rfl, bel⟩
 rw [hq3] at HI
 have HQ := hid hq3
 clear hq3
 by_cases h4 : (b : Int) = 32
 ·have HF := hid (HR.out.trans (plain_no (.inr (.inr (.inr (.inl (HB.out.trans h4)))))))
  have k4 : ((b : Int) == 32) = true := beq_iff_eq.2 h4
  clear h4
  go_enter Tryz.func182, Tryz.ntmps182
  go_wp2_with (first | (go_at_call 222; refine HU.out.mono ?_; rintro e w1 ⟨rfl, hb1⟩) | (go_at_call 130; refine (HI.out _).mono ?_; rintro e w1 ⟨z, rfl, hz, rfl⟩; have hz2 := of_decide_eq_false hz) | (go_at_call 63; refine (c_impl_within _ _ _ _).mono ?_; rintro e w' ⟨rfl, rfl⟩))
  go_ret
  exact ⟨by rw [HF.out]; rfl, bel⟩
 have k4 : ((b : Int) == 32) = false := beq_eq_false_iff_ne.2 h4
 by_cases h5 : (l : Int) = 32
 ·have HF := hid (HR.out.trans (plain_no (.inr (.inr (.inr (.inr (HL.out.trans h5)))))))
  have k5 : ((l : Int) == 32) = true := beq_iff_eq.2 h5
  clear h5
  go_enter Tryz.func182, Tryz.ntmps182
  go_wp2_with (first | (go_at_call 222; refine HU.out.mono ?_; rintro e w1 ⟨rfl, hb1⟩) | (go_at_call 130; refine (HI.out _).mono ?_; rintro e w1 ⟨z, rfl, hz, rfl⟩; have hz2 := of_decide_eq_false hz) | (go_at_call 63; refine (c_impl_within _ _ _ _).mono ?_; rintro e w' ⟨rfl, rfl⟩))
  go_ret
  exact ⟨by rw [HF.out]; rfl, bel⟩
 have k5 : ((l : Int) == 32) = false := beq_eq_false_iff_ne.2 h5
 have HG := hid (fun h6 => plain_all hq1 hq2 HQ.out (by rw [HB.out]; exact h4) (by rw [HL.out]; exact h5) h6)
 go_enter Tryz.func182, Tryz.ntmps182
 go_wp2_with (first | (go_at_call 222; refine HU.out.mono ?_; rintro e w1 ⟨rfl, hb1⟩) | (go_at_call 130; refine (HI.out _).mono ?_; rintro e w1 ⟨z, rfl, hz, rfl⟩; have hz2 := of_decide_eq_false hz) | (go_at_call 63; refine (c_impl_within _ _ _ _).mono ?_; rintro e w' ⟨rfl, rfl⟩))
 have HB1 := hid hb1
 clear hb1 hq1p hpp hx hxl k4 k5 h4 h5
 go_loop [3, 36] (fun s3 s36 => ∃ k : Nat, s3 = .bool (digK s k) /\ s36 = .int .i64 k /\ k <= s.size /\ allR k (plainC s) = true) (fun _ s36 => s.size - (intOf s36).toNat)
 case atStart => exact ⟨0, rfl, rfl, Nat.zero_le _, rfl⟩
 case round =>
  obtain ⟨k, rfl, rfl, hk, ha⟩ := hrel
  have HA := hid ha
  clear ha
  obtain ⟨dg, hdg⟩ : ∃ q, q = digK s k := ⟨_, rfl⟩
  rw [<- hdg]
  have HD := hid hdg
  clear hdg
  by_cases hlt : (k : Int) < s.size
  ·have hkk : k < s.size := by omega
   have hd : decide ((k : Int) < (p : Int) + 1) = true := decide_eq_true (by omega)
   have hz : (0 : Int) <= k := by omega
   obtain ⟨c, hcc⟩ : ∃ c : Nat, c = (s.get! k).toNat := ⟨_, rfl⟩
   have hxc : (s[k]'hkk).toNat = c := by rw [hcc]; exact get_byte s k hkk
   have HC : Hid (byteI s k = c) := hid (by unfold byteI; rw [hcc])
   clear hcc
   have HE := hid (c_endsKey s k w1 (by omega) (by omega))
   obtain ⟨en, hen⟩ : ∃ q, q = endsB s k := ⟨_, rfl⟩
   rw [<- hen] at HE
   have HN := hid hen
   clear hen
   have HP : Hid (plainC s k = !(decide ((c : Int) < 32) || decide ((c : Int) = 34) || decide ((c : Int) = 35) || decide ((c : Int) = 92) || en)) := hid (by unfold plainC; rw [HC.out, <- HN.out])
   by_cases g1 : (c : Int) < 32
   ·have j1 : decide ((c : Int) < 32) = true := decide_eq_true g1
    have HF := hid (HR.out.trans (plain_at hkk (by rw [HP.out, j1]; rfl)))
    go_wp2_with fail
    go_ret
    exact ⟨by rw [HF.out]; rfl, HB1.out⟩
   have j1 : decide ((c : Int) < 32) = false := decide_eq_false g1
   by_cases g2 : (c : Int) = 34
   ·have j2 : ((c : Int) == 34) = true := beq_iff_eq.2 g2
    have HF := hid (HR.out.trans (plain_at hkk (by rw [HP.out, decide_eq_true g2]; simp)))
    go_wp2_with fail
    go_ret
    exact ⟨by rw [HF.out]; rfl, HB1.out⟩
   have j2 : ((c : Int) == 34) = false := beq_eq_false_iff_ne.2 g2
   by_cases g3 : (c : Int) = 35
   ·have j3 : ((c : Int) == 35) = true := beq_iff_eq.2 g3
    have HF := hid (HR.out.trans (plain_at hkk (by rw [HP.out, decide_eq_true g3]; simp)))
    go_wp2_with fail
    go_ret
    exact ⟨by rw [HF.out]; rfl, HB1.out⟩
   have j3 : ((c : Int) == 35) = false := beq_eq_false_iff_ne.2 g3
   by_cases g4 : (c : Int) = 92
   ·have j4 : ((c : Int) == 92) = true := beq_iff_eq.2 g4
    have HF := hid (HR.out.trans (plain_at hkk (by rw [HP.out, decide_eq_true g4]; simp)))
    go_wp2_with fail
    go_ret
    exact ⟨by rw [HF.out]; rfl, HB1.out⟩
   have j4 : ((c : Int) == 92) = false := beq_eq_false_iff_ne.2 g4
   rcases en with _ | _
   rotate_left
   ·have HF := hid (HR.out.trans (plain_at hkk (by rw [HP.out]; simp)))
    go_wp2_with (go_at_call 181; refine HE.out.mono ?_; rintro e w2 ⟨rfl, rfl⟩)
    go_ret
    exact ⟨by rw [HF.out]; rfl, HB1.out⟩
   have HA2 : Hid (allR (k + 1) (plainC s) = true) := hid (by rw [allR_succ, HA.out, HP.out, decide_eq_false g1, decide_eq_false g2, decide_eq_false g3, decide_eq_false g4]; rfl)
   have HD2 : Hid (digK s (k + 1) = (dg && digitB (c : Int))) := hid (by rw [HD.out, <- HC.out]; unfold digK; exact allR_succ _ _)
   rcases dg with _ | _
   all_goals
    go_wp2_with (first | (go_at_call 181; refine HE.out.mono ?_; rintro e w2 ⟨rfl, rfl⟩) | (go_at_call 201; refine (c_impl_isDigit _ _).mono ?_; rintro e w' ⟨rfl, rfl⟩))
    go_round
    ·exact ⟨k + 1, by rw [HD2.out]; rfl, by go_num, hkk, HA2.out⟩
    ·first | omega | (simp [intOf]; done) | (simp [intOf]; omega)
  ·have hd : decide ((k : Int) < (p : Int) + 1) = false := decide_eq_false (by omega)
   have hke : k = s.size := by omega
   have HF := hid (HR.out.trans (HG.out (hke ▸ HA.out)))
   have HD3 := hid (hke ▸ HD.out)
   rw [<- HD3.out] at HF
   obtain ⟨q1, hm1⟩ : ∃ q, (s.toList == [110, 117, 108, 108]) = q := ⟨_, rfl⟩
   obtain ⟨q2, hm2⟩ : ∃ q, (s.toList == [126]) = q := ⟨_, rfl⟩
   obtain ⟨q3, hm3⟩ : ∃ q, (s.toList == [116, 114, 117, 101]) = q := ⟨_, rfl⟩
   obtain ⟨q4, hm4⟩ : ∃ q, (s.toList == [102, 97, 108, 115, 101]) = q := ⟨_, rfl⟩
   have HW : Hid (r = (!dg && !(q1 || q2 || q3 || q4))) := hid (by
    rw [HF.out]
    unfold plnW
    simp only [is_word]
    rw [<- hm1, <- hm2, <- hm3, <- hm4])
   clear HF
   rcases dg with _ | _
   ·rcases q1 with _ | _ <;> rcases q2 with _ | _ <;> rcases q3 with _ | _ <;> rcases q4 with _ | _
    all_goals
     go_wp2_with fail
     go_ret
     exact ⟨by rw [HW.out]; rfl, HB1.out⟩
   ·go_wp2_with fail
    go_ret
    exact ⟨by rw [HW.out]; rfl, HB1.out⟩
theorem c_impl_KeyOf (s : ByteArray) (w : World) (hs : s.size <= 1048576) (hV : CTab w) (hT : Tabs w) :
  Calls Tryz.prog 103 #[.string s] w fun e w' => e = .returned (keyV (keyB s)) /\ Below w.heap.size w w' := by
 have KP := c_HasPrefix s ⟨#[34]⟩ w
 rw [show Lib.hasPrefix s.data.toList (⟨#[34]⟩ : ByteArray).data.toList = _ from pre_one s 34] at KP
 have HKT := hid (fun (i : Nat) (W : World) => c_TrimLeft (s.extract i s.size) W)
 obtain ⟨r, hr⟩ : ∃ r, r = keyB s := ⟨_, rfl⟩
 rw [<- hr]
 have HR := hid hr
 clear hr
 by_cases hq : 0 < s.size /\ byteI s 0 = ((34 : UInt8).toNat : Int)
 ·rw [decide_eq_true hq] at KP
  have HK := hid KP
  have HQ := hid (c_impl_ReadQuoted s 0 w hs (by omega) hV hT)
  have hnx := quotB_next s 0
  obtain ⟨k, a, hka⟩ : ∃ k a, quotB s 0 = (k, a) := ⟨_, _, rfl⟩
  rw [hka] at HQ hnx
  have hk1 : (quotB s 0).1 = k := by rw [hka]
  have hk2 : (quotB s 0).2 = a := by rw [hka]
  have HK2 := hid (And.intro hk1 hk2)
  have HQ0 := hid hq
  clear KP hka hV hT hk1 hk2 hq
  simp only at hnx
  by_cases ha : a < 0
  ·have hd : decide (a < 0) = true := decide_eq_true ha
   have HF := hid (HR.out.trans (key_quot_no HQ0.out.1 HQ0.out.2 (.inl (by rw [HK2.out.2]; exact ha))))
   clear hnx
   go_enter Tryz.func103, Tryz.ntmps103
   go_wp2_with fail
   refine HK.out.mono ?_
   rintro e w1 ⟨rfl, rfl⟩
   go_wp2_with fail
   refine HQ.out.mono ?_
   rintro e w1 ⟨rfl, hb1⟩
   go_wp2_with fail
   exact bodyPost_ret (v := .tuple #[.string ⟨#[]⟩, .string ⟨#[]⟩, .bool false]) (by simp only [results, Tryz.results103]; go_simp) rfl ⟨by rw [HF.out]; rfl, bel⟩
  ·obtain ⟨e, rfl⟩ : ∃ e : Nat, a = (e : Int) := ⟨a.toNat, by omega⟩
   have he : e <= s.size := by omega
   have hd : decide ((e : Int) < 0) = false := decide_eq_false ha
   have HE := hid (fun W => c_endsKey s e W hs (by omega))
   clear hnx ha
   rcases hen : endsB s e with _ | _
   ·rw [hen] at HE
    have HF := hid (HR.out.trans (key_quot_no HQ0.out.1 HQ0.out.2 (.inr (by rw [HK2.out.2, Int.toNat_natCast]; exact hen))))
    clear hen
    go_enter Tryz.func103, Tryz.ntmps103
    go_wp2_with fail
    refine HK.out.mono ?_
    rintro e w1 ⟨rfl, rfl⟩
    go_wp2_with fail
    refine HQ.out.mono ?_
    rintro e w1 ⟨rfl, hb1⟩
    go_wp2_with (go_at_call 181; refine (HE.out _).mono ?_; rintro e w2 ⟨rfl, rfl⟩)
    exact bodyPost_ret (v := .tuple #[.string ⟨#[]⟩, .string ⟨#[]⟩, .bool false]) (by simp only [results, Tryz.results103]; go_simp) rfl ⟨by rw [HF.out]; rfl, bel⟩
   ·rw [hen] at HE
    have HF := hid (HR.out.trans (key_quot HQ0.out.1 HQ0.out.2 HK2.out.2 hen))
    have hes : e < s.size := by
     unfold endsB at hen
     rw [Bool.and_eq_true, Bool.and_eq_true, decide_eq_true_eq] at hen
     exact hen.1.1
    have hesI : (e : Int) + 1 <= s.size := by omega
    have hz1 : (0 : Int) <= (e : Int) + 1 := by omega
    have hesN : e + 1 <= s.size := hes
    have HT1 := hid (HKT.out (e + 1))
    rw [tail_eq] at HT1
    rw [HK2.out.1] at HF
    obtain ⟨t, ht⟩ : ∃ t, t = tailL s (e + 1) := ⟨_, rfl⟩
    rw [<- ht] at HT1 HF
    clear hen ht
    go_enter Tryz.func103, Tryz.ntmps103
    go_wp2_with fail
    refine HK.out.mono ?_
    rintro e w1 ⟨rfl, rfl⟩
    go_wp2_with fail
    refine HQ.out.mono ?_
    rintro e w1 ⟨rfl, hb1⟩
    go_wp2_with (go_at_call 181; refine (HE.out _).mono ?_; rintro e w2 ⟨rfl, rfl⟩)
    refine (HT1.out _).mono ?_
    rintro e w2 ⟨rfl, rfl⟩
    go_wp2_with fail
    exact bodyPost_ret (v := .tuple #[.string k, .string t, .bool true]) (by simp only [results, Tryz.results103]; go_simp) rfl ⟨by rw [HF.out]; rfl, bel⟩
 ·rw [decide_eq_false hq] at KP
  have HK := hid KP
  have HQ0 := hid hq
  have HVT := hid (And.intro hV hT)
  clear KP hV hT hq
  go_enter Tryz.func103, Tryz.ntmps103
  go_wp2_with fail
  refine HK.out.mono ?_
  rintro e w1 ⟨rfl, rfl⟩
  go_wp2_with fail
  go_loop [31] (fun s31 => ∃ k : Nat, s31 = .int .i64 k /\ k <= s.size /\ ∀ j, j < k -> endsB s j = false) (fun s31 => s.size - (intOf s31).toNat)
  case atStart => exact ⟨0, rfl, Nat.zero_le _, fun j hj => absurd hj (by omega)⟩
  case round =>
   obtain ⟨k, rfl, hk, ha⟩ := hrel
   have HA := hid ha
   clear ha
   by_cases hlt : (k : Int) < s.size
   ·have hkk : k < s.size := by omega
    have hd : decide ((k : Int) < s.size) = true := decide_eq_true hlt
    have hz : (0 : Int) <= k := by omega
    have hkI : (k : Int) <= s.size := by omega
    have HE := hid (c_endsKey s k w hs (by omega))
    rcases hen : endsB s k with _ | _
    ·rw [hen] at HE
     have HN := hid hen
     clear hen
     go_wp2_with (go_at_call 181; refine HE.out.mono ?_; rintro e w2 ⟨rfl, rfl⟩)
     go_round
     ·exact ⟨k + 1, by go_num, hkk, fun j hj => by
       rcases Nat.lt_or_ge j k with h | h
       ·exact HA.out j h
       ·rw [show j = k by omega]; exact HN.out⟩
     ·first | omega | (simp [intOf]; done) | (simp [intOf]; omega)
    ·rw [hen] at HE
     have HF := hid (HR.out.trans (key_plain HQ0.out hkk HA.out hen))
     have HP := hid (c_impl_PlainOk (s.extract 0 k) w (by rw [ByteArray.size_extract]; omega) HVT.out.2)
     have hesI : (k : Int) + 1 <= s.size := by omega
     have hz1 : (0 : Int) <= (k : Int) + 1 := by omega
     have hesN : k + 1 <= s.size := hkk
     have HT1 := hid (HKT.out (k + 1))
     rw [tail_eq] at HT1
     obtain ⟨t, ht⟩ : ∃ t, t = tailL s (k + 1) := ⟨_, rfl⟩
     rw [<- ht] at HT1 HF
     clear hen ht
     rcases hpl : plainB (s.extract 0 k) with _ | _
     ·rw [hpl] at HP HF
      clear hpl
      go_wp2_with (go_at_call 181; refine HE.out.mono ?_; rintro e w2 ⟨rfl, rfl⟩)
      refine HP.out.mono ?_
      rintro e w1 ⟨rfl, hb1⟩
      go_wp2_with fail
      exact bodyPost_ret (v := .tuple #[.string ⟨#[]⟩, .string ⟨#[]⟩, .bool false]) (by simp only [results, Tryz.results103]; go_simp) rfl ⟨by rw [HF.out]; rfl, bel⟩
     ·rw [hpl] at HP HF
      clear hpl
      go_wp2_with (go_at_call 181; refine HE.out.mono ?_; rintro e w2 ⟨rfl, rfl⟩)
      refine HP.out.mono ?_
      rintro e w1 ⟨rfl, hb1⟩
      have HB1 := hid hb1
      clear hb1
      go_wp2_with fail
      refine wp_region_det 11 (by kernel_rfl) (by kernel_rfl) (by decide) ?_
      iterate 7 refine ds ?_
      (apply Exists.intro; refine And.intro ?_ ?_; (focus (intro W hW; (try simp only [Act.put, List.setIfInBounds_toArray, List.set_cons_zero, List.set_cons_succ]); first | (obtain ⟨hcW, hfW⟩ := bcell hW; have hsW := hW.size; (try simp at hsW); (try have hsW0 := lt_of_succ_le hsW); (try (have hsW1 := lt_pred hsW; (try (have hsW2 := lt_pred hsW1)))); go_wp2_with (first | (go_at_call 175; refine (HT1.out _).mono ?_; rintro e w9 ⟨rfl, rfl⟩)); exact ⟨rfl, rfl, bel⟩))))
      iterate 3 refine ds ?_
      intro wd hbwd
      (try simp only [Act.put, List.setIfInBounds_toArray, List.set_cons_zero, List.set_cons_succ])
      (try simp only [List.drop_succ_cons, List.drop_nil])
      have HBd := hid (HB1.out.trans (hbwd.mono HB1.out.size))
      clear hbwd
      go_wp2_with fail
      exact bodyPost_ret (v := .tuple #[.string (s.extract 0 k), .string t, .bool true]) (by simp only [results, Tryz.results103]; go_simp) rfl ⟨by rw [HF.out]; rfl, HBd.out⟩
   ·have hd : decide ((k : Int) < s.size) = false := decide_eq_false hlt
    have HF := hid (HR.out.trans (key_none HQ0.out (fun j hj => HA.out j (by omega))))
    go_wp2_with fail
    exact bodyPost_ret (v := .tuple #[.string ⟨#[]⟩, .string ⟨#[]⟩, .bool false]) (by simp only [results, Tryz.results103]; go_simp) rfl ⟨by rw [HF.out]; rfl, bel⟩
def scalV : Option TreeD -> Value
 | none => .tuple #[.agg #[.int .i64 0, .bool false, .int .i64 0, .string ⟨#[]⟩, .slice none 0 0, .slice none 0 0], .bool false]
 | some t => .tuple #[.agg #[.int .i64 t.kind, .bool t.flag, .int .i64 t.num, .string t.text, .slice none 0 0, .slice none 0 0], .bool true]
theorem scal_c1 {s : ByteArray} (h : s = ⟨#[91, 93]⟩) : scalB s = some (tList []) := by subst h; kernel_rfl
theorem scal_c2 {s : ByteArray} (h : s = ⟨#[123, 125]⟩) : scalB s = some (tMap [] []) := by subst h; kernel_rfl
theorem scal_c3 {s : ByteArray} (h : s = ⟨#[110, 117, 108, 108]⟩) : scalB s = some tNull := by subst h; kernel_rfl
theorem scal_c4 {s : ByteArray} (h : s = ⟨#[126]⟩) : scalB s = some tNull := by subst h; kernel_rfl
theorem scal_c5 {s : ByteArray} (h : s = ⟨#[116, 114, 117, 101]⟩) : scalB s = some (tFlag true) := by subst h; kernel_rfl
theorem scal_c6 {s : ByteArray} (h : s = ⟨#[102, 97, 108, 115, 101]⟩) : scalB s = some (tFlag false) := by subst h; kernel_rfl
structure ScalNo (s : ByteArray) : Prop where
 c1 : ¬ s = ⟨#[91, 93]⟩
 c2 : ¬ s = ⟨#[123, 125]⟩
 c3 : ¬ s = ⟨#[110, 117, 108, 108]⟩
 c4 : ¬ s = ⟨#[126]⟩
 c5 : ¬ s = ⟨#[116, 114, 117, 101]⟩
 c6 : ¬ s = ⟨#[102, 97, 108, 115, 101]⟩
theorem scal_more {s : ByteArray} (h : ScalNo s) : scalB s = if 0 < s.size /\ byteI s 0 = 34 then (if (quotB s 0).2 = s.size /\ (quotB s 0).1.size <= 400 then some (tText (quotB s 0).1) else none)
 else if (wholeB s 0).2 = s.size /\ 0 < (wholeB s 0).2 then some (tInt (wholeB s 0).1)
 else if plainB s then some (tText s) else none := by
 unfold scalB
 rw [if_neg (show ¬ s = bs [91, 93] from h.c1), if_neg (show ¬ s = bs [123, 125] from h.c2), if_neg (show ¬ (s = bs [110, 117, 108, 108] ∨ s = bs [126]) from fun g => g.elim h.c3 h.c4), if_neg (show ¬ s = bs [116, 114, 117, 101] from h.c5), if_neg (show ¬ s = bs [102, 97, 108, 115, 101] from h.c6)]
theorem scal_quot_no {s : ByteArray} (h : ScalNo s) (hq : 0 < s.size /\ byteI s 0 = 34) (hn : ¬ ((quotB s 0).2 = s.size /\ (quotB s 0).1.size <= 400)) : scalB s = none := by
 rw [scal_more h, if_pos hq, if_neg hn]
theorem scal_quot {s : ByteArray} (h : ScalNo s) (hq : 0 < s.size /\ byteI s 0 = 34) (h1 : (quotB s 0).2 = s.size) (h2 : (quotB s 0).1.size <= 400) : scalB s = some (tText (quotB s 0).1) := by
 rw [scal_more h, if_pos hq, if_pos ⟨h1, h2⟩]
theorem scal_int {s : ByteArray} (h : ScalNo s) (hq : ¬ (0 < s.size /\ byteI s 0 = 34)) (h1 : (wholeB s 0).2 = s.size) (h2 : 0 < (wholeB s 0).2) : scalB s = some (tInt (wholeB s 0).1) := by
 rw [scal_more h, if_neg hq, if_pos ⟨h1, h2⟩]
theorem scal_plain' {s : ByteArray} (h : ScalNo s) (hq : ¬ (0 < s.size /\ byteI s 0 = 34)) (h1 : ¬ ((wholeB s 0).2 = s.size /\ 0 < (wholeB s 0).2)) : scalB s = if plainB s then some (tText s) else none := by
 rw [scal_more h, if_neg hq, if_neg h1]
theorem scal_yes {s : ByteArray} (h : ScalNo s) (hq : ¬ (0 < s.size /\ byteI s 0 = 34)) (h1 : ¬ ((wholeB s 0).2 = s.size /\ 0 < (wholeB s 0).2)) (hp : plainB s = true) : scalB s = some (tText s) := by
 rw [scal_plain' h hq h1, if_pos hp]
theorem scal_none {s : ByteArray} (h : ScalNo s) (hq : ¬ (0 < s.size /\ byteI s 0 = 34)) (h1 : ¬ ((wholeB s 0).2 = s.size /\ 0 < (wholeB s 0).2)) (hp : plainB s = false) : scalB s = none := by
 rw [scal_plain' h hq h1, if_neg (by rw [hp]; decide)]
theorem c_impl_ReadScalar (s : ByteArray) (w : World) (hs : s.size <= 1048576) (hV : CTab w) (hT : Tabs w) (hE : ErrR w) :
  Calls Tryz.prog 186 #[.string s] w fun e w' => e = .returned (scalV (scalB s)) /\ Below w.heap.size w w' := by
 by_cases c1 : s = (⟨#[91, 93]⟩ : ByteArray)
 ·have HF := scal_c1 c1
  subst c1
  rw [HF]
  clear HF
  go_enter Tryz.func186, Tryz.ntmps186
  go_wp2_with fail
  exact bodyPost_ret (v := .tuple #[.agg #[.int .i64 5, .bool false, .int .i64 0, .string ⟨#[]⟩, .slice none 0 0, .slice none 0 0], .bool true]) (by simp only [results, Tryz.results186]; go_simp) rfl ⟨rfl, bel⟩
 have k1 : (s.toList == [91, 93]) = false := by rw [<- is_word]; exact decide_eq_false c1
 by_cases c2 : s = (⟨#[123, 125]⟩ : ByteArray)
 ·have HF := scal_c2 c2
  subst c2
  rw [HF]
  clear HF
  go_enter Tryz.func186, Tryz.ntmps186
  go_wp2_with fail
  exact bodyPost_ret (v := .tuple #[.agg #[.int .i64 6, .bool false, .int .i64 0, .string ⟨#[]⟩, .slice none 0 0, .slice none 0 0], .bool true]) (by simp only [results, Tryz.results186]; go_simp) rfl ⟨rfl, bel⟩
 have k2 : (s.toList == [123, 125]) = false := by rw [<- is_word]; exact decide_eq_false c2
 by_cases c3 : s = (⟨#[110, 117, 108, 108]⟩ : ByteArray)
 ·have HF := scal_c3 c3
  subst c3
  rw [HF]
  clear HF
  go_enter Tryz.func186, Tryz.ntmps186
  go_wp2_with fail
  exact bodyPost_ret (v := .tuple #[.agg #[.int .i64 1, .bool false, .int .i64 0, .string ⟨#[]⟩, .slice none 0 0, .slice none 0 0], .bool true]) (by simp only [results, Tryz.results186]; go_simp) rfl ⟨rfl, bel⟩
 have k3 : (s.toList == [110, 117, 108, 108]) = false := by rw [<- is_word]; exact decide_eq_false c3
 by_cases c4 : s = (⟨#[126]⟩ : ByteArray)
 ·have HF := scal_c4 c4
  subst c4
  rw [HF]
  clear HF
  go_enter Tryz.func186, Tryz.ntmps186
  go_wp2_with fail
  exact bodyPost_ret (v := .tuple #[.agg #[.int .i64 1, .bool false, .int .i64 0, .string ⟨#[]⟩, .slice none 0 0, .slice none 0 0], .bool true]) (by simp only [results, Tryz.results186]; go_simp) rfl ⟨rfl, bel⟩
 have k4 : (s.toList == [126]) = false := by rw [<- is_word]; exact decide_eq_false c4
 by_cases c5 : s = (⟨#[116, 114, 117, 101]⟩ : ByteArray)
 ·have HF := scal_c5 c5
  subst c5
  rw [HF]
  clear HF
  go_enter Tryz.func186, Tryz.ntmps186
  go_wp2_with fail
  exact bodyPost_ret (v := .tuple #[.agg #[.int .i64 2, .bool true, .int .i64 0, .string ⟨#[]⟩, .slice none 0 0, .slice none 0 0], .bool true]) (by simp only [results, Tryz.results186]; go_simp) rfl ⟨rfl, bel⟩
 have k5 : (s.toList == [116, 114, 117, 101]) = false := by rw [<- is_word]; exact decide_eq_false c5
 by_cases c6 : s = (⟨#[102, 97, 108, 115, 101]⟩ : ByteArray)
 ·have HF := scal_c6 c6
  subst c6
  rw [HF]
  clear HF
  go_enter Tryz.func186, Tryz.ntmps186
  go_wp2_with fail
  exact bodyPost_ret (v := .tuple #[.agg #[.int .i64 2, .bool false, .int .i64 0, .string ⟨#[]⟩, .slice none 0 0, .slice none 0 0], .bool true]) (by simp only [results, Tryz.results186]; go_simp) rfl ⟨rfl, bel⟩
 have k6 : (s.toList == [102, 97, 108, 115, 101]) = false := by rw [<- is_word]; exact decide_eq_false c6
 have HC := hid (ScalNo.mk c1 c2 c3 c4 c5 c6)
 clear c1 c2 c3 c4 c5 c6
 obtain ⟨r, hr⟩ : ∃ r, r = scalB s := ⟨_, rfl⟩
 rw [<- hr]
 have HR := hid hr
 clear hr
 have KP := fun (W : World) => c_HasPrefix s ⟨#[34]⟩ W
 rw [show Lib.hasPrefix s.data.toList (⟨#[34]⟩ : ByteArray).data.toList = _ from pre_one s 34] at KP
 have HVT := hid (And.intro hV (And.intro hT hE))
 clear hV hT hE
 by_cases hq : 0 < s.size /\ byteI s 0 = ((34 : UInt8).toNat : Int)
 ·rw [decide_eq_true hq] at KP
  have HK := hid KP
  have HQ := hid (fun (W : World) (hb : Below w.heap.size w W) => c_impl_ReadQuoted s 0 W hs (by omega) (HVT.out.1.below hb) (HVT.out.2.1.below hb))
  obtain ⟨k, a, hka⟩ : ∃ k a, quotB s 0 = (k, a) := ⟨_, _, rfl⟩
  rw [hka] at HQ
  have hk1 : (quotB s 0).1 = k := by rw [hka]
  have hk2 : (quotB s 0).2 = a := by rw [hka]
  have HK2 := hid (And.intro hk1 hk2)
  have HQ0 := hid hq
  clear KP
  clear hka hk1 hk2 hq
  by_cases h1 : a = (s.size : Int)
  rotate_left
  ·have d1 : (a != (s.size : Int)) = true := bne_iff_ne.2 h1
   have d2 : (a == (s.size : Int)) = false := beq_eq_false_iff_ne.2 h1
   have HF := hid (HR.out.trans (scal_quot_no HC.out HQ0.out (fun h => h1 (HK2.out.2.symm.trans h.1))))
   clear h1
   go_enter Tryz.func186, Tryz.ntmps186
   go_wp2_with fail
   refine (HK.out _).mono ?_
   rintro e w0 ⟨rfl, rfl⟩
   go_wp2_with fail
   refine (HQ.out _ bel).mono ?_
   rintro e w1 ⟨rfl, hb1⟩
   have HT1 := hid ((hb1.block w.heap.size (by simp)).trans (heap_at (w := w) (o := .cells #[.int .i64 0, .bool false, .int .i64 0, .string ⟨#[]⟩, .slice none 0 0, .slice none 0 0] 34) rfl))
   have HB1 := hid (bel : Below w.heap.size w w1)
   obtain ⟨x0, x1, x2, x3, x4, x5, xf⟩ := row6 HT1.out
   have l1 := row_lt HT1.out
   clear hb1
   go_wp2_with fail
   exact bodyPost_ret (v := .tuple #[.agg #[.int .i64 0, .bool false, .int .i64 0, .string ⟨#[]⟩, .slice none 0 0, .slice none 0 0], .bool false]) (by simp only [results, Tryz.results186]; go_simp) rfl ⟨by rw [HF.out]; rfl, HB1.out.trans (Aside.below (S := fun q => q = w.heap.size) asd HB1.out.size (fun i hi => by omega))⟩
  have d2 : (a == (s.size : Int)) = true := beq_iff_eq.2 h1
  have d1 : (a != (s.size : Int)) = false := by unfold bne; rw [d2]; rfl
  by_cases h2 : (400 : Int) < k.size
  ·have d3 : decide ((400 : Int) < k.size) = true := decide_eq_true h2
   have HF := hid (HR.out.trans (scal_quot_no HC.out HQ0.out (fun h => by have := h.2; rw [HK2.out.1] at this; omega)))
   clear h1
   go_enter Tryz.func186, Tryz.ntmps186
   go_wp2_with fail
   refine (HK.out _).mono ?_
   rintro e w0 ⟨rfl, rfl⟩
   go_wp2_with fail
   refine (HQ.out _ bel).mono ?_
   rintro e w1 ⟨rfl, hb1⟩
   have HT1 := hid ((hb1.block w.heap.size (by simp)).trans (heap_at (w := w) (o := .cells #[.int .i64 0, .bool false, .int .i64 0, .string ⟨#[]⟩, .slice none 0 0, .slice none 0 0] 34) rfl))
   have HB1 := hid (bel : Below w.heap.size w w1)
   obtain ⟨x0, x1, x2, x3, x4, x5, xf⟩ := row6 HT1.out
   have l1 := row_lt HT1.out
   clear hb1
   go_wp2_with fail
   exact bodyPost_ret (v := .tuple #[.agg #[.int .i64 0, .bool false, .int .i64 0, .string ⟨#[]⟩, .slice none 0 0, .slice none 0 0], .bool false]) (by simp only [results, Tryz.results186]; go_simp) rfl ⟨by rw [HF.out]; rfl, HB1.out.trans (Aside.below (S := fun q => q = w.heap.size) asd HB1.out.size (fun i hi => by omega))⟩
  ·have d3 : decide ((400 : Int) < k.size) = false := decide_eq_false h2
   have HF := hid (HR.out.trans (scal_quot HC.out HQ0.out (HK2.out.2.trans h1) (by rw [HK2.out.1]; omega)))
   rw [HK2.out.1] at HF
   clear h1
   go_enter Tryz.func186, Tryz.ntmps186
   go_wp2_with fail
   refine (HK.out _).mono ?_
   rintro e w0 ⟨rfl, rfl⟩
   go_wp2_with fail
   refine (HQ.out _ bel).mono ?_
   rintro e w1 ⟨rfl, hb1⟩
   have HT1 := hid ((hb1.block w.heap.size (by simp)).trans (heap_at (w := w) (o := .cells #[.int .i64 0, .bool false, .int .i64 0, .string ⟨#[]⟩, .slice none 0 0, .slice none 0 0] 34) rfl))
   have HB1 := hid (bel : Below w.heap.size w w1)
   obtain ⟨x0, x1, x2, x3, x4, x5, xf⟩ := row6 HT1.out
   have l1 := row_lt HT1.out
   clear hb1
   go_wp2_with fail
   refine (c_rd_TextTree _ _).mono ?_
   rintro e w2 ⟨rfl, hb2⟩
   have HT2 := hid ((hb2.block _ l1).trans HT1.out)
   have HB2 := hid (HB1.out.trans (hb2.mono HB1.out.size))
   clear x0 x1 x2 x3 x4 x5 xf hb2
   obtain ⟨x0, x1, x2, x3, x4, x5, xf⟩ := row6 HT2.out
   have l2 := row_lt HT2.out
   go_wp2_with fail
   exact bodyPost_ret (v := .tuple #[.agg #[.int .i64 4, .bool false, .int .i64 0, .string k, .slice none 0 0, .slice none 0 0], .bool true]) (by simp only [results, Tryz.results186]; go_simp) rfl ⟨by rw [HF.out]; rfl, HB2.out.trans (Aside.below (S := fun q => q = w.heap.size) asd HB2.out.size (fun i hi => by omega))⟩
 ·rw [decide_eq_false hq] at KP
  have HK := hid KP
  have HQ0 := hid hq
  clear KP hq
  have HQ := hid (fun (W : World) (hb : Below w.heap.size w W) => c_impl_ReadWhole s 0 W hs (by omega) (HVT.out.2.2.below hb))
  have HP := hid (fun (W : World) (hb : Below w.heap.size w W) => c_impl_PlainOk s W hs (HVT.out.2.1.below hb))
  obtain ⟨z, a, hka⟩ : ∃ k a, wholeB s 0 = (k, a) := ⟨_, _, rfl⟩
  rw [hka] at HQ
  have hk1 : (wholeB s 0).1 = z := by rw [hka]
  have hk2 : (wholeB s 0).2 = a := by rw [hka]
  have HK2 := hid (And.intro hk1 hk2)
  clear hka hk1 hk2
  by_cases hw : a = (s.size : Int) /\ 0 < a
  ·have d2 : (a == (s.size : Int)) = true := beq_iff_eq.2 hw.1
   have d3 : decide ((0 : Int) < a) = true := decide_eq_true hw.2
   have HF := hid (HR.out.trans (scal_int HC.out HQ0.out (HK2.out.2.trans hw.1) (by rw [HK2.out.2]; exact hw.2)))
   rw [HK2.out.1] at HF
   clear hw
   go_enter Tryz.func186, Tryz.ntmps186
   go_wp2_with fail
   refine (HK.out _).mono ?_
   rintro e w0 ⟨rfl, rfl⟩
   go_wp2_with fail
   refine (HQ.out _ bel).mono ?_
   rintro e w1 ⟨rfl, hb1⟩
   have HT1 := hid ((hb1.block w.heap.size (by simp)).trans (heap_at (w := w) (o := .cells #[.int .i64 0, .bool false, .int .i64 0, .string ⟨#[]⟩, .slice none 0 0, .slice none 0 0] 34) rfl))
   have HB1 := hid (bel : Below w.heap.size w w1)
   obtain ⟨x0, x1, x2, x3, x4, x5, xf⟩ := row6 HT1.out
   have l1 := row_lt HT1.out
   clear hb1
   go_wp2_with fail
   refine (c_rd_IntTree _ _).mono ?_
   rintro e w2 ⟨rfl, hb2⟩
   have HT2 := hid ((hb2.block _ l1).trans HT1.out)
   have HB2 := hid (HB1.out.trans (hb2.mono HB1.out.size))
   clear x0 x1 x2 x3 x4 x5 xf hb2
   obtain ⟨x0, x1, x2, x3, x4, x5, xf⟩ := row6 HT2.out
   have l2 := row_lt HT2.out
   go_wp2_with fail
   exact bodyPost_ret (v := .tuple #[.agg #[.int .i64 3, .bool false, .int .i64 z, .string ⟨#[]⟩, .slice none 0 0, .slice none 0 0], .bool true]) (by simp only [results, Tryz.results186]; go_simp) rfl ⟨by rw [HF.out]; rfl, HB2.out.trans (Aside.below (S := fun q => q = w.heap.size) asd HB2.out.size (fun i hi => by omega))⟩
  ·have hw2 : (a == (s.size : Int)) = false ∨ ((a == (s.size : Int)) = true /\ decide ((0 : Int) < a) = false) := by
    by_cases e : a = (s.size : Int)
    ·exact .inr ⟨beq_iff_eq.2 e, decide_eq_false (fun h => hw ⟨e, h⟩)⟩
    ·exact .inl (beq_eq_false_iff_ne.2 e)
   have HW := hid (fun h => hw (by rw [<- HK2.out.2]; exact h))
   clear hw
   rcases hpl : plainB s with _ | _
   ·rw [hpl] at HP
    have HF := hid (HR.out.trans (scal_none HC.out HQ0.out HW.out hpl))
    clear hpl
    rcases hw2 with d2 | ⟨d2, d3⟩
    all_goals
     go_enter Tryz.func186, Tryz.ntmps186
     go_wp2_with fail
     refine (HK.out _).mono ?_
     rintro e w0 ⟨rfl, rfl⟩
     go_wp2_with fail
     refine (HQ.out _ bel).mono ?_
     rintro e w1 ⟨rfl, hb1⟩
     have HT1 := hid ((hb1.block w.heap.size (by simp)).trans (heap_at (w := w) (o := .cells #[.int .i64 0, .bool false, .int .i64 0, .string ⟨#[]⟩, .slice none 0 0, .slice none 0 0] 34) rfl))
     have HB1 := hid (bel : Below w.heap.size w w1)
     obtain ⟨x0, x1, x2, x3, x4, x5, xf⟩ := row6 HT1.out
     have l1 := row_lt HT1.out
     clear hb1
     go_wp2_with fail
     refine (HP.out _ HB1.out).mono ?_
     rintro e w2 ⟨rfl, hb2⟩
     have HT2 := hid ((hb2.block _ l1).trans HT1.out)
     have HB2 := hid (HB1.out.trans (hb2.mono HB1.out.size))
     clear x0 x1 x2 x3 x4 x5 xf hb2
     obtain ⟨x0, x1, x2, x3, x4, x5, xf⟩ := row6 HT2.out
     have l2 := row_lt HT2.out
     go_wp2_with fail
     exact bodyPost_ret (v := .tuple #[.agg #[.int .i64 0, .bool false, .int .i64 0, .string ⟨#[]⟩, .slice none 0 0, .slice none 0 0], .bool false]) (by simp only [results, Tryz.results186]; go_simp) rfl ⟨by rw [HF.out]; rfl, HB2.out.trans (Aside.below (S := fun q => q = w.heap.size) asd HB2.out.size (fun i hi => by omega))⟩
   ·rw [hpl] at HP
    have HF := hid (HR.out.trans (scal_yes HC.out HQ0.out HW.out hpl))
    clear hpl
    rcases hw2 with d2 | ⟨d2, d3⟩
    all_goals
     go_enter Tryz.func186, Tryz.ntmps186
     go_wp2_with fail
     refine (HK.out _).mono ?_
     rintro e w0 ⟨rfl, rfl⟩
     go_wp2_with fail
     refine (HQ.out _ bel).mono ?_
     rintro e w1 ⟨rfl, hb1⟩
     have HT1 := hid ((hb1.block w.heap.size (by simp)).trans (heap_at (w := w) (o := .cells #[.int .i64 0, .bool false, .int .i64 0, .string ⟨#[]⟩, .slice none 0 0, .slice none 0 0] 34) rfl))
     have HB1 := hid (bel : Below w.heap.size w w1)
     obtain ⟨x0, x1, x2, x3, x4, x5, xf⟩ := row6 HT1.out
     have l1 := row_lt HT1.out
     clear hb1
     go_wp2_with fail
     refine (HP.out _ HB1.out).mono ?_
     rintro e w2 ⟨rfl, hb2⟩
     have HT2 := hid ((hb2.block _ l1).trans HT1.out)
     have HB2 := hid (HB1.out.trans (hb2.mono HB1.out.size))
     clear x0 x1 x2 x3 x4 x5 xf hb2
     obtain ⟨x0, x1, x2, x3, x4, x5, xf⟩ := row6 HT2.out
     have l2 := row_lt HT2.out
     go_wp2_with fail
     refine (c_rd_TextTree _ _).mono ?_
     rintro e w3 ⟨rfl, hb3⟩
     have HT3 := hid ((hb3.block _ l2).trans HT2.out)
     have HB3 := hid (HB2.out.trans (hb3.mono HB2.out.size))
     clear x0 x1 x2 x3 x4 x5 xf hb3
     obtain ⟨x0, x1, x2, x3, x4, x5, xf⟩ := row6 HT3.out
     have l3 := row_lt HT3.out
     go_wp2_with fail
     exact bodyPost_ret (v := .tuple #[.agg #[.int .i64 4, .bool false, .int .i64 0, .string s, .slice none 0 0, .slice none 0 0], .bool true]) (by simp only [results, Tryz.results186]; go_simp) rfl ⟨by rw [HF.out]; rfl, HB3.out.trans (Aside.below (S := fun q => q = w.heap.size) asd HB3.out.size (fun i hi => by omega))⟩
end Go.Proofs.YtohcpifekcehjaaGreatDoor
