/- Written by wip/tools/pack.py: the texts that FnExactPodNormal needs, without what it does not need. No conditions. -/
import Derived.Test.YtmhlnbihppojmaaGreatKFnExactPodNormal4
import Derived.Test.YtmhlnbihppojmaaGreatKFnExactPodNormal3
import Derived.Deep.Cut
import Derived.Deep.CutRange
import Derived.Deep.RegionLaw
import Derived.Test.YtmhlnbihppojmaaGreatKFnExactPodNormal1
import Derived.Lib.IndexAny
import Derived.Deep.QuietTactic
import Derived.BigQuiet
namespace Go.Proofs.YtmhlnbihppojmaaGreat
open Go.RowKit
def encS (s : ByteArray) : List Value := [.string s]
theorem encS_len (d : ByteArray) : (encS d).length = 1 := rfl
theorem encS_one (d : ByteArray) : ∀ v ∈ encS d, v.oneCell' = true := by intro u hu; simp [encS] at hu; subst hu; rfl
theorem encS_C (d : ByteArray) (es : List Value) (h : C_Str d es) : es = encS d := h.1
theorem keep_at {W a : World} (h : Below W.heap.size W a) : Below W.heap.size W a ∧ (∀ b o, b < W.heap.size → a.cell? ⟨b, o, none⟩ = W.cell? ⟨b, o, none⟩) := ⟨h, fun b o hb => h.cell (p := ⟨b, o, none⟩) hb⟩
theorem rowSnoc {D : Type} {enc : D → List Value} {sz ty base g c n : Nat} {w : World} {L : List D} {x : D} (h : w.ownsRow base ty sz (.slice (some ⟨g, 0, none⟩) (n + 1) c) (n + 1) (flatE enc L ++ enc x)) (hL : L.length = n) : RowE enc sz ty base w (L ++ [x]) (.slice (some ⟨g, 0, none⟩) (n + 1) c) := by
  have h1 : flatE enc [x] = enc x := by simp [flatE]
  unfold RowE
  rw [flatE_app, h1, List.length_append, hL]
  exact h
def valsB (l : List ByteArray) : List ByteArray := ordB lessS eqS l
set_option maxHeartbeats 4000000 in
set_option maxRecDepth 10000 in
theorem c_l15Values (l : List ByteArray) (v : Value) (w : World) (lo : Nat) (hs : Sl_Str lo w.heap.size w l v) (hn : l.length ≤ 1048576) :
    Calls Tryz.prog 47 #[v] w fun e w' => ∃ A c, e = .returned (.slice A (valsB l).length c) ∧ RowE encS 1 9 w.heap.size w' (valsB l) (.slice A (valsB l).length c) ∧ Below w.heap.size w w' := by
  obtain ⟨i0, hi, hz0, hz1, hz2⟩ := info_parts (show (Tryz.prog.info? 9).map (fun i => (i.zero, i.size, i.bytes)) = some (some (.string ⟨#[]⟩), 1, 16) from by kernel_rfl)
  have HSs := Lib.hid (size_strs hs)
  obtain ⟨A, c, rfl, hlc, hc, hA⟩ := hs
  go_enter Tryz.func47, Tryz.ntmps47
  go_wp2_with fail
  go_loopw [3, 4] (fun q i wr => ∃ (k : Nat) (g c5 : Nat), k ≤ l.length ∧ i = .int .i64 k ∧ q = .slice (some ⟨g, 0, none⟩) (ordB lessS eqS (l.take k)).length c5 ∧ RowE encS 1 9 w.heap.size wr (ordB lessS eqS (l.take k)) (.slice (some ⟨g, 0, none⟩) (ordB lessS eqS (l.take k)).length c5) ∧ Below w.heap.size w wr) (fun _ i _ => l.length - (intOf i).toNat)
  case atStart => exact ⟨0, w.heap.size, 0, Nat.zero_le _, rfl, rfl, own_empty rfl (Nat.le_refl _), bel⟩
  case round =>
    obtain ⟨k, g, c5, hk, rfl, rfl, hO, hbr⟩ := hrel
    obtain ⟨O, hOO⟩ : ∃ O, O = ordB lessS eqS (l.take k) := ⟨_, rfl⟩
    have hOl : O.length ≤ 1048576 := by have := ordB_len lessS eqS (l.take k); rw [List.length_take] at this; rw [hOO]; omega
    rw [← hOO] at hO
    have HOO := Lib.hid hOO
    rw [← hOO]
    clear hOO
    have HO := Lib.hid hO
    clear hO
    by_cases hlt : k < l.length
    · obtain ⟨b, o, rfl, -, hb2, hcell⟩ := hA (by omega)
      obtain ⟨x, hx⟩ := exists_at hlt
      obtain ⟨es, -, hcs, hC⟩ := hcell k x hx
      have hxs := hC.2
      obtain rfl := encS_C x es hC
      have hc0 := (hbr.cell (p := ⟨b, o + k * 1 + 0, none⟩) (by simp; omega)).trans (hcs 0 (by omega))
      simp [encS] at hc0
      have hbl : b < wr.heap.size := Nat.lt_of_lt_of_le hb2 hbr.size
      have hk0 : (0 : Int) ≤ k := by omega
      have hk1 : (k : Int) < l.length := by omega
      have Hx := Lib.hid hx
      have HCO := Lib.hid (show ∀ d ∈ O, C_Str d (encS d) from fun d hd => ⟨rfl, HSs.out d (List.mem_of_mem_take ((ordB_all tot_S (l.take k)).2 d |>.1 (by rw [← HOO.out]; exact hd)))⟩)
      clear hcs hcell hA hx hC
      go_wp2_with fail
      go_loopw [5] (fun j wr2 => ∃ m : Nat, m ≤ placeB lessS O x ∧ j = .int .i64 m ∧ Below wr.heap.size wr wr2) (fun j _ => O.length - (intOf j).toNat)
      case atStart => exact ⟨0, Nat.zero_le _, rfl, Below.refl _ _⟩
      case round =>
        obtain ⟨m, hm, rfl, hbm⟩ := hrel
        have hmO := placeB_le lessS O x
        have hx0 := (hbm.cell (p := ⟨b, o + k, none⟩) (by simpa using hbl)).trans hc0
        have hbl2 : b < wr.heap.size := Nat.lt_of_lt_of_le hbl hbm.size
        obtain ⟨-, hgb, hcap, hcap2, cur, hg, -, hrow⟩ := HO.out.at encS_len
        have hgl := row_lt hg
        have hg2 := (hbm.block g hgl).trans hg
        have hgl2 := row_lt hg2
        clear hg
        by_cases hlt2 : m < O.length
        · obtain ⟨y, hy⟩ := exists_at hlt2
          have hr0 := hrow m y hy 0 (by decide)
          have hy0 : wr.cell? ⟨g, m, none⟩ = some (.string y) := by rw [cell_of_row _ g _ cur _ _ hg2]; simpa [encS] using hr0
          have hm0 : (0 : Int) ≤ m := by omega
          have hm1 : (m : Int) < O.length := by omega
          have Hy := Lib.hid hy
          clear hrow hr0 hy hg2
          rcases hlt3 : lessS y x with _ | _
          · have hpl := Lib.hid (placeB_is (lt := lessS) (x := x) (l := O) (k := m) (by omega) (fun i d hi hd => placeB_lt lessS x O i d (by omega) hd) (fun d hd => by rw [Hy.out] at hd; obtain rfl := Option.some.inj hd; exact hlt3))
            have hlt4 : Op.bytesLess y.toList x.toList = false := hlt3
            go_wp2_with fail
            refine wp_region_det 15 (by kernel_rfl) (by kernel_rfl) (by decide) ?_
            apply Exists.intro
            refine And.intro ?_ ?_
            · (intro W hW; (try simp only [Act.put, List.setIfInBounds_toArray, List.set_cons_zero, List.set_cons_succ]); first | (go_wp2_with fail; exact ⟨rfl, rfl, Below.refl _ _⟩))
            apply Exists.intro
            refine And.intro ?_ ?_
            · (intro W hW; (try simp only [Act.put, List.setIfInBounds_toArray, List.set_cons_zero, List.set_cons_succ]); first | (go_wp2_with fail; exact ⟨rfl, rfl, Below.refl _ _⟩))
            apply Exists.intro
            refine And.intro ?_ ?_
            · (intro W hW; (try simp only [Act.put, List.setIfInBounds_toArray, List.set_cons_zero, List.set_cons_succ]); first | (go_wp2_with fail; exact ⟨rfl, rfl, Below.refl _ _⟩))
            apply Exists.intro
            refine And.intro ?_ ?_
            · (intro W hW; (try simp only [Act.put, List.setIfInBounds_toArray, List.set_cons_zero, List.set_cons_succ]); first | (go_wp2_with fail; exact ⟨rfl, rfl, Below.refl _ _⟩))
            apply Exists.intro
            refine And.intro ?_ ?_
            · (intro W hW; (try simp only [Act.put, List.setIfInBounds_toArray, List.set_cons_zero, List.set_cons_succ]); first | (go_wp2_with fail; exact ⟨rfl, rfl, Below.refl _ _⟩))
            apply Exists.intro
            refine And.intro ?_ ?_
            · (intro W hW; (try simp only [Act.put, List.setIfInBounds_toArray, List.set_cons_zero, List.set_cons_succ]); first | (exact wpList_skip rfl ⟨rfl, rfl, Below.refl _ _⟩) | (go_wp2_with fail; exact ⟨rfl, rfl, Below.refl _ _⟩))
            apply Exists.intro
            refine And.intro ?_ ?_
            · (intro W hW; (try simp only [Act.put, List.setIfInBounds_toArray, List.set_cons_zero, List.set_cons_succ]); first | (exact wpList_skip rfl ⟨rfl, rfl, Below.refl _ _⟩) | (go_wp2_with fail; exact ⟨rfl, rfl, Below.refl _ _⟩))
            apply Exists.intro
            refine And.intro ?_ ?_
            · (intro W hW; (try simp only [Act.put, List.setIfInBounds_toArray, List.set_cons_zero, List.set_cons_succ]); first | (exact wpList_skip rfl ⟨rfl, rfl, Below.refl _ _⟩) | (go_wp2_with fail; exact ⟨rfl, rfl, Below.refl _ _⟩))
            apply Exists.intro
            refine And.intro ?_ ?_
            · (intro W hW; (try simp only [Act.put, List.setIfInBounds_toArray, List.set_cons_zero, List.set_cons_succ]); first | (exact wpList_skip rfl ⟨rfl, rfl, Below.refl _ _⟩) | (obtain ⟨hcW, hfW⟩ := bcell hW; have hsW := hW.size; (try simp at hsW); (try have hsW0 := lt_of_succ_le hsW); (try (have hsW1 := lt_pred hsW; (try (have hsW2 := lt_pred hsW1)))); go_wp2_with fail; exact ⟨rfl, rfl, Below.refl _ _⟩))
            apply Exists.intro
            refine And.intro ?_ ?_
            · (intro W hW; (try simp only [Act.put, List.setIfInBounds_toArray, List.set_cons_zero, List.set_cons_succ]); first | (exact wpList_skip rfl ⟨rfl, rfl, Below.refl _ _⟩) | (go_wp2_with fail; exact ⟨rfl, rfl, Below.refl _ _⟩))
            apply Exists.intro
            refine And.intro ?_ ?_
            · (intro W hW; (try simp only [Act.put, List.setIfInBounds_toArray, List.set_cons_zero, List.set_cons_succ]); first | (exact wpList_skip rfl ⟨rfl, rfl, Below.refl _ _⟩) | (go_wp2_with fail; exact ⟨rfl, rfl, Below.refl _ _⟩))
            apply Exists.intro
            refine And.intro ?_ ?_
            · (intro W hW; (try simp only [Act.put, List.setIfInBounds_toArray, List.set_cons_zero, List.set_cons_succ]); first | (exact wpList_skip rfl ⟨rfl, rfl, Below.refl _ _⟩) | (go_wp2_with fail; exact ⟨rfl, rfl, Below.refl _ _⟩))
            apply Exists.intro
            refine And.intro ?_ ?_
            · (intro W hW; (try simp only [Act.put, List.setIfInBounds_toArray, List.set_cons_zero, List.set_cons_succ]); first | (exact wpList_skip rfl ⟨rfl, rfl, Below.refl _ _⟩) | (obtain ⟨hcW, hfW⟩ := bcell hW; have hsW := hW.size; (try simp at hsW); (try have hsW0 := lt_of_succ_le hsW); (try (have hsW1 := lt_pred hsW; (try (have hsW2 := lt_pred hsW1)))); go_wp2_with fail; exact ⟨rfl, rfl, Below.refl _ _⟩))
            apply Exists.intro
            refine And.intro ?_ ?_
            · (intro W hW; (try simp only [Act.put, List.setIfInBounds_toArray, List.set_cons_zero, List.set_cons_succ]); first | (exact wpList_skip rfl ⟨rfl, rfl, Below.refl _ _⟩) | (go_wp2_with fail; exact ⟨rfl, rfl, Below.refl _ _⟩))
            apply Exists.intro
            refine And.intro ?_ ?_
            · (intro W hW; (try simp only [Act.put, List.setIfInBounds_toArray, List.set_cons_zero, List.set_cons_succ]); first | (go_wp2_with fail; exact ⟨rfl, rfl, Below.refl _ _⟩))
            intro w1 hb
            (first | (have hcu2 := Cum.join hcu hb; (try clear hcu); (try clear hc); (try clear hfz); (try clear hsz); (try clear hs0); (try clear hs1); (try clear hs2); (try clear hs3); (try clear hs4); ) | have hcu2 := Cum.mk hb); have hcu := hcu2; clear hcu2; obtain ⟨hc, hfz⟩ := bcell hcu.h; have hsz := hcu.h.size; (try simp at hsz); (try have hs0 := lt_of_succ_le hsz); (try (have hs1 := lt_pred hsz; (try (have hs2 := lt_pred hs1; (try (have hs3 := lt_pred hs2; (try have hs4 := lt_pred hs3)))))))
            (try simp only [Act.put, List.setIfInBounds_toArray, List.set_cons_zero, List.set_cons_succ])
            (try simp only [List.drop_succ_cons, List.drop_nil])
            have Bn := hbm.trans (hb.mono hbm.size)
            have ey0 := (hb.cell (p := ⟨g, m, none⟩) (by simpa using hgl2)).trans hy0
            have ex0 := (hb.cell (p := ⟨b, o + k, none⟩) (by simpa using hbl2)).trans hx0
            have egl := Nat.lt_of_lt_of_le hgl2 hb.size
            have ebl := Nat.lt_of_lt_of_le hbl2 hb.size
            clear hy0 hx0 hc0 hgl2 hbl2 hcu hc hfz hb hlt4
            go_wp2_with fail
            by_cases hq : y = x
            · subst hq
              have hi9 := Lib.hid (show ordB lessS eqS (l.take (k + 1)) = O by rw [ordB_step Hx.out, ← HOO.out]; unfold insB; rw [hpl.out, Hy.out]; simp [eqS])
              refine wp_region_det 15 (by kernel_rfl) (by kernel_rfl) (by decide) ?_
              apply Exists.intro
              refine And.intro ?_ ?_
              · (intro W hW; (try simp only [Act.put, List.setIfInBounds_toArray, List.set_cons_zero, List.set_cons_succ]); first | (go_wp2_with fail; exact ⟨rfl, rfl, Below.refl _ _⟩))
              apply Exists.intro
              refine And.intro ?_ ?_
              · (intro W hW; (try simp only [Act.put, List.setIfInBounds_toArray, List.set_cons_zero, List.set_cons_succ]); first | (go_wp2_with fail; exact ⟨rfl, rfl, Below.refl _ _⟩))
              apply Exists.intro
              refine And.intro ?_ ?_
              · (intro W hW; (try simp only [Act.put, List.setIfInBounds_toArray, List.set_cons_zero, List.set_cons_succ]); first | (go_wp2_with fail; exact ⟨rfl, rfl, Below.refl _ _⟩))
              apply Exists.intro
              refine And.intro ?_ ?_
              · (intro W hW; (try simp only [Act.put, List.setIfInBounds_toArray, List.set_cons_zero, List.set_cons_succ]); first | (go_wp2_with fail; exact ⟨rfl, rfl, Below.refl _ _⟩))
              apply Exists.intro
              refine And.intro ?_ ?_
              · (intro W hW; (try simp only [Act.put, List.setIfInBounds_toArray, List.set_cons_zero, List.set_cons_succ]); first | (go_wp2_with fail; exact ⟨rfl, rfl, Below.refl _ _⟩))
              apply Exists.intro
              refine And.intro ?_ ?_
              · (intro W hW; (try simp only [Act.put, List.setIfInBounds_toArray, List.set_cons_zero, List.set_cons_succ]); first | (exact wpList_skip rfl ⟨rfl, rfl, Below.refl _ _⟩) | (go_wp2_with fail; exact ⟨rfl, rfl, Below.refl _ _⟩))
              apply Exists.intro
              refine And.intro ?_ ?_
              · (intro W hW; (try simp only [Act.put, List.setIfInBounds_toArray, List.set_cons_zero, List.set_cons_succ]); first | (exact wpList_skip rfl ⟨rfl, rfl, Below.refl _ _⟩) | (go_wp2_with fail; exact ⟨rfl, rfl, Below.refl _ _⟩))
              apply Exists.intro
              refine And.intro ?_ ?_
              · (intro W hW; (try simp only [Act.put, List.setIfInBounds_toArray, List.set_cons_zero, List.set_cons_succ]); first | (exact wpList_skip rfl ⟨rfl, rfl, Below.refl _ _⟩) | (go_wp2_with fail; exact ⟨rfl, rfl, Below.refl _ _⟩))
              apply Exists.intro
              refine And.intro ?_ ?_
              · (intro W hW; (try simp only [Act.put, List.setIfInBounds_toArray, List.set_cons_zero, List.set_cons_succ]); first | (exact wpList_skip rfl ⟨rfl, rfl, Below.refl _ _⟩) | (obtain ⟨hcW, hfW⟩ := bcell hW; have hsW := hW.size; (try simp at hsW); (try have hsW0 := lt_of_succ_le hsW); (try (have hsW1 := lt_pred hsW; (try (have hsW2 := lt_pred hsW1)))); go_wp2_with fail; exact ⟨rfl, rfl, Below.refl _ _⟩))
              apply Exists.intro
              refine And.intro ?_ ?_
              · (intro W hW; (try simp only [Act.put, List.setIfInBounds_toArray, List.set_cons_zero, List.set_cons_succ]); first | (exact wpList_skip rfl ⟨rfl, rfl, Below.refl _ _⟩) | (go_wp2_with fail; exact ⟨rfl, rfl, Below.refl _ _⟩))
              apply Exists.intro
              refine And.intro ?_ ?_
              · (intro W hW; (try simp only [Act.put, List.setIfInBounds_toArray, List.set_cons_zero, List.set_cons_succ]); first | (exact wpList_skip rfl ⟨rfl, rfl, Below.refl _ _⟩) | (go_wp2_with fail; exact ⟨rfl, rfl, Below.refl _ _⟩))
              apply Exists.intro
              refine And.intro ?_ ?_
              · (intro W hW; (try simp only [Act.put, List.setIfInBounds_toArray, List.set_cons_zero, List.set_cons_succ]); first | (exact wpList_skip rfl ⟨rfl, rfl, Below.refl _ _⟩) | (go_wp2_with fail; exact ⟨rfl, rfl, Below.refl _ _⟩))
              apply Exists.intro
              refine And.intro ?_ ?_
              · (intro W hW; (try simp only [Act.put, List.setIfInBounds_toArray, List.set_cons_zero, List.set_cons_succ]); first | (exact wpList_skip rfl ⟨rfl, rfl, Below.refl _ _⟩) | (obtain ⟨hcW, hfW⟩ := bcell hW; have hsW := hW.size; (try simp at hsW); (try have hsW0 := lt_of_succ_le hsW); (try (have hsW1 := lt_pred hsW; (try (have hsW2 := lt_pred hsW1)))); go_wp2_with fail; exact ⟨rfl, rfl, Below.refl _ _⟩))
              apply Exists.intro
              refine And.intro ?_ ?_
              · (intro W hW; (try simp only [Act.put, List.setIfInBounds_toArray, List.set_cons_zero, List.set_cons_succ]); first | (exact wpList_skip rfl ⟨rfl, rfl, Below.refl _ _⟩) | (go_wp2_with fail; exact ⟨rfl, rfl, Below.refl _ _⟩))
              apply Exists.intro
              refine And.intro ?_ ?_
              · (intro W hW; (try simp only [Act.put, List.setIfInBounds_toArray, List.set_cons_zero, List.set_cons_succ]); first | (go_wp2_with fail; exact ⟨rfl, rfl, Below.refl _ _⟩))
              intro w1 hb
              (first | (have hcu2 := Cum.join hcu hb; (try clear hcu); (try clear hc); (try clear hfz); (try clear hsz); (try clear hs0); (try clear hs1); (try clear hs2); (try clear hs3); (try clear hs4); ) | have hcu2 := Cum.mk hb); have hcu := hcu2; clear hcu2; obtain ⟨hc, hfz⟩ := bcell hcu.h; have hsz := hcu.h.size; (try simp at hsz); (try have hs0 := lt_of_succ_le hsz); (try (have hs1 := lt_pred hsz; (try (have hs2 := lt_pred hs1; (try (have hs3 := lt_pred hs2; (try have hs4 := lt_pred hs3)))))))
              (try simp only [Act.put, List.setIfInBounds_toArray, List.set_cons_zero, List.set_cons_succ])
              (try simp only [List.drop_succ_cons, List.drop_nil])
              have Bq := Bn.trans (hb.mono Bn.size)
              have Hq := Lib.hid (HO.out.below Bq)
              have Bq2 := hbr.trans (Bq.mono hbr.size)
              go_wp2_with fail
              go_roundw
              case rel => exact ⟨k + 1, g, c5, by omega, by go_num, by rw [hi9.out], by rw [hi9.out]; exact Hq.out, Bq2⟩
              case measure => simp [intOf]; omega
            · have hqs : (y.toList == x.toList) = false := beq_eq_false_iff_ne.2 (fun e => hq (toList_inj e))
              have hins := Lib.hid (show ordB lessS eqS (l.take (k + 1)) = O.take m ++ [x] ++ O.drop m by rw [ordB_step Hx.out, ← HOO.out]; unfold insB; rw [hpl.out, Hy.out]; simp [eqS, hqs])
              refine wp_region_det 15 (by kernel_rfl) (by kernel_rfl) (by decide) ?_
              apply Exists.intro
              refine And.intro ?_ ?_
              · (intro W hW; (try simp only [Act.put, List.setIfInBounds_toArray, List.set_cons_zero, List.set_cons_succ]); first | (go_wp2_with fail; exact ⟨rfl, rfl, Below.refl _ _⟩))
              apply Exists.intro
              refine And.intro ?_ ?_
              · (intro W hW; (try simp only [Act.put, List.setIfInBounds_toArray, List.set_cons_zero, List.set_cons_succ]); first | (go_wp2_with fail; exact ⟨rfl, rfl, Below.refl _ _⟩))
              apply Exists.intro
              refine And.intro ?_ ?_
              · (intro W hW; (try simp only [Act.put, List.setIfInBounds_toArray, List.set_cons_zero, List.set_cons_succ]); first | (go_wp2_with fail; exact ⟨rfl, rfl, Below.refl _ _⟩))
              apply Exists.intro
              refine And.intro ?_ ?_
              · (intro W hW; (try simp only [Act.put, List.setIfInBounds_toArray, List.set_cons_zero, List.set_cons_succ]); first | (go_wp2_with fail; exact ⟨rfl, rfl, Below.refl _ _⟩))
              apply Exists.intro
              refine And.intro ?_ ?_
              · (intro W hW; (try simp only [Act.put, List.setIfInBounds_toArray, List.set_cons_zero, List.set_cons_succ]); first | (go_wp2_with fail; exact ⟨rfl, rfl, Below.refl _ _⟩))
              apply Exists.intro
              refine And.intro ?_ ?_
              · (intro W hW; (try simp only [Act.put, List.setIfInBounds_toArray, List.set_cons_zero, List.set_cons_succ]); first | (exact wpList_skip rfl ⟨rfl, rfl, Below.refl _ _⟩) | (go_wp2_with fail; exact ⟨rfl, rfl, Below.refl _ _⟩))
              apply Exists.intro
              refine And.intro ?_ ?_
              · (intro W hW; (try simp only [Act.put, List.setIfInBounds_toArray, List.set_cons_zero, List.set_cons_succ]); first | (exact wpList_skip rfl ⟨rfl, rfl, Below.refl _ _⟩) | (go_wp2_with fail; exact ⟨rfl, rfl, Below.refl _ _⟩))
              apply Exists.intro
              refine And.intro ?_ ?_
              · (intro W hW; (try simp only [Act.put, List.setIfInBounds_toArray, List.set_cons_zero, List.set_cons_succ]); first | (exact wpList_skip rfl ⟨rfl, rfl, Below.refl _ _⟩) | (go_wp2_with fail; exact ⟨rfl, rfl, Below.refl _ _⟩))
              apply Exists.intro
              refine And.intro ?_ ?_
              · (intro W hW; (try simp only [Act.put, List.setIfInBounds_toArray, List.set_cons_zero, List.set_cons_succ]); first | (exact wpList_skip rfl ⟨rfl, rfl, Below.refl _ _⟩) | (obtain ⟨hcW, hfW⟩ := bcell hW; have hsW := hW.size; (try simp at hsW); (try have hsW0 := lt_of_succ_le hsW); (try (have hsW1 := lt_pred hsW; (try (have hsW2 := lt_pred hsW1)))); go_wp2_with fail; exact ⟨rfl, rfl, Below.refl _ _⟩))
              apply Exists.intro
              refine And.intro ?_ ?_
              · (intro W hW; (try simp only [Act.put, List.setIfInBounds_toArray, List.set_cons_zero, List.set_cons_succ]); first | (exact wpList_skip rfl ⟨rfl, rfl, Below.refl _ _⟩) | (go_wp2_with fail; exact ⟨rfl, rfl, Below.refl _ _⟩))
              apply Exists.intro
              refine And.intro ?_ ?_
              · (intro W hW; (try simp only [Act.put, List.setIfInBounds_toArray, List.set_cons_zero, List.set_cons_succ]); first | (exact wpList_skip rfl ⟨rfl, rfl, Below.refl _ _⟩) | (go_wp2_with fail; exact ⟨rfl, rfl, Below.refl _ _⟩))
              apply Exists.intro
              refine And.intro ?_ ?_
              · (intro W hW; (try simp only [Act.put, List.setIfInBounds_toArray, List.set_cons_zero, List.set_cons_succ]); first | (exact wpList_skip rfl ⟨rfl, rfl, Below.refl _ _⟩) | (go_wp2_with fail; exact ⟨rfl, rfl, Below.refl _ _⟩))
              apply Exists.intro
              refine And.intro ?_ ?_
              · (intro W hW; (try simp only [Act.put, List.setIfInBounds_toArray, List.set_cons_zero, List.set_cons_succ]); first | (exact wpList_skip rfl ⟨rfl, rfl, Below.refl _ _⟩) | (obtain ⟨hcW, hfW⟩ := bcell hW; have hsW := hW.size; (try simp at hsW); (try have hsW0 := lt_of_succ_le hsW); (try (have hsW1 := lt_pred hsW; (try (have hsW2 := lt_pred hsW1)))); go_wp2_with fail; exact ⟨rfl, rfl, Below.refl _ _⟩))
              apply Exists.intro
              refine And.intro ?_ ?_
              · (intro W hW; (try simp only [Act.put, List.setIfInBounds_toArray, List.set_cons_zero, List.set_cons_succ]); first | (exact wpList_skip rfl ⟨rfl, rfl, Below.refl _ _⟩) | (go_wp2_with fail; exact ⟨rfl, rfl, Below.refl _ _⟩))
              apply Exists.intro
              refine And.intro ?_ ?_
              · (intro W hW; (try simp only [Act.put, List.setIfInBounds_toArray, List.set_cons_zero, List.set_cons_succ]); first | (go_wp2_with fail; exact ⟨rfl, rfl, Below.refl _ _⟩))
              intro w1 hb
              (first | (have hcu2 := Cum.join hcu hb; (try clear hcu); (try clear hc); (try clear hfz); (try clear hsz); (try clear hs0); (try clear hs1); (try clear hs2); (try clear hs3); (try clear hs4); ) | have hcu2 := Cum.mk hb); have hcu := hcu2; clear hcu2; obtain ⟨hc, hfz⟩ := bcell hcu.h; have hsz := hcu.h.size; (try simp at hsz); (try have hs0 := lt_of_succ_le hsz); (try (have hs1 := lt_pred hsz; (try (have hs2 := lt_pred hs1; (try (have hs3 := lt_pred hs2; (try have hs4 := lt_pred hs3)))))))
              (try simp only [Act.put, List.setIfInBounds_toArray, List.set_cons_zero, List.set_cons_succ])
              (try simp only [List.drop_succ_cons, List.drop_nil])
              have Bq := Bn.trans (hb.mono Bn.size)
              have fx0 := (hb.cell (p := ⟨b, o + k, none⟩) (by simpa using ebl)).trans ex0
              have fbl := Nat.lt_of_lt_of_le ebl hb.size
              obtain ⟨w2, hw2⟩ : ∃ w2, w2 = w1 := ⟨_, rfl⟩
              rw [← hw2] at Bq fx0 fbl ⊢
              (try clear hcu); (try clear hc); (try clear hfz); (try clear hs0); (try clear hs1); (try clear hsz); (try clear hb)
              clear ey0 ex0 egl ebl Bn hw2 hqs hq
              go_wp2_with fail
              have HO2 := HO.out.below Bq
              have B2 : Below w.heap.size w w2 := hbr.trans (Bq.mono hbr.size)
              have HS := Lib.hid (RowE.sl encS_len HO2 HCO.out)
              have HSt := Lib.hid (SlOf.take HS.out (k := m) (by omega))
              have HSd := Lib.hid (SlOf.drop HS.out (k := m) (by omega))
              clear HO2
              have htl : (O.take m).length = m := by rw [List.length_take]; omega
              have Htl := Lib.hid htl
              have hm9 : (m : Int) ≤ O.length := by omega
              have hm0 : (0 : Int) ≤ m := by omega
              have hmc : (m : Int) ≤ c5 := by omega
              clear htl
              go_upto_region 9 with fail
              go_cut [6] from 46 to 56 (fun s6 wx => ∃ g5 cap5 : Nat, s6 = .slice (some ⟨g5, 0, none⟩) (m + 1) cap5 ∧ RowE encS 1 9 w2.heap.size wx (O.take m ++ [x]) (.slice (some ⟨g5, 0, none⟩) (m + 1) cap5) ∧ Below w2.heap.size w2 wx)
              case first =>
                go_region_held3 (fun w' => Below w2.heap.size w2 w' ∧ (∀ xb xo, xb < w2.heap.size → w'.cell? ⟨xb, xo, none⟩ = w2.cell? ⟨xb, xo, none⟩)) (first | exact keep_drew _ | exact keep_at (by assumption) | exact keep_same (by assumption) | exact keep_alloc (by assumption) _) (first | (refine step_append_rows rfl (.tmp 46) (.tmp 49) 29 rfl w2.heap.size 9 i0 (.string ⟨#[]⟩) 1 16 Tryz.underlying29 hi hz0 hz1 hz2 rfl (by decide) encS_len encS_one encS_C (.slice (some ⟨_, 0, none⟩) 0 0) 0 [] rfl rfl (by first | exact own_eq (own_empty (w := w2) rfl (Nat.le_refl _)) rfl | exact own_eq ((own_empty (w := w2) rfl (Nat.le_refl _)).alloc (.cells #[.string x] 9)) rfl | exact own_eq (own_empty (w := w2.alloc (.cells #[.string x] 9)) (by simp) (by simp)) rfl) (O.take m) (some ⟨g, 0, none⟩) m c5 _ _ rfl Htl.out (Sl_Str.now HSt.out bel) (by unfold maxLen; omega) (by omega) (by simp <;> omega) ?_; intro v3 w9 ho3 hg3 ha3; rw [List.nil_append] at ho3; obtain ⟨E5, e5, he3⟩ := RowE.form ho3; rw [Htl.out] at he3; subst he3; have hb3 : Below w2.heap.size w2 w9 := Below.grown (bel : Below w2.heap.size w2 _) hg3 (by simp <;> omega) (fun q hq => (by simp [Value.ownBlock] at hq; omega)); have ho4 : w9.ownsRow w2.heap.size 9 1 (.slice E5 m e5) m (flatE encS (O.take m)) := (by have h9 := ho3; unfold RowE at h9; rw [Htl.out] at h9; exact h9)) | (refine step_append_lies _ rfl (.tmp 50) (.tmp 55) 29 rfl w2.heap.size 9 i0 (.string ⟨#[]⟩) 1 16 Tryz.underlying29 hi hz0 hz1 hz2 rfl (by decide) (.slice E5 m e5) m (flatE encS (O.take m)) rfl (by first | exact ho4 | exact ho4.alloc _) _ 1 1 [.string x] rfl rfl (by first | exact World.news_of_block (heap_alloc_new _ _) | exact World.news_of_block ((hg3.block _ (by simp <;> omega) (by simp [Value.ownBlock] <;> omega)).trans (heap_at (by simp))) | exact World.news_of_block ((hg3.block _ (by simp <;> omega) (by simp [Value.ownBlock] <;> omega)).trans ((Below.heap_alloc _ _ _ (by simp)).trans (heap_at (by simp))))) (encS_one x) (by decide) (by unfold maxLen; omega) (by omega) (by have := hb3.size; simp; omega) _ rfl ?_; intro g5 cap5 w10 ho5 hg5 ha5 hl7; have hb4 : Below w2.heap.size w2 w10 := Below.grown (bel : Below w2.heap.size w2 _) hg5 (by have := hb3.size; first | omega | (simp; omega)) (fun q hq => (World.ownsRow.lt ho4 q hq).1)))
                all_goals
                  have ho6 := Lib.hid (rowSnoc (enc := encS) (x := x) ho5 Htl.out)
                  clear ho5 hg5 ha5 ho3 hg3 ha3 ho4
                  go_wp2_with fail
                  go_meet
                  exact ⟨g5, cap5, rfl, ho6.out, hb4⟩
              case rest =>
                obtain ⟨g5, cap5, rfl, hR5, hb5⟩ := hcut
                have HSd4 := Sl_Str.now HSd.out hb5
                rw [Nat.zero_add, Nat.mul_one] at HSd4
                obtain ⟨v6, w6, hr6, hR6, hg6, ha6⟩ := run_append_rows (P := Tryz.prog) (enc := encS) (C := C_Str) wc 29 29 w2.heap.size 9 i0 (.string ⟨#[]⟩) 1 16 Tryz.underlying29 hi hz0 hz1 hz2 rfl (by decide) encS_len encS_one encS_C (.slice (some ⟨g5, 0, none⟩) (m + 1) cap5) (m + 1) (O.take m ++ [x]) (by rw [List.length_append, Htl.out]; rfl) hR5 (O.drop m) (some ⟨g, m, none⟩) (O.length - m) (c5 - m) _ _ (by rw [List.length_drop]) HSd4 (by unfold maxLen; omega) (by omega) hb5.size
                obtain ⟨g6, c6, -, he6, -, -, -, -, -, -⟩ := hR6.row encS_len (by simp <;> omega)
                rw [← hins.out] at hR6 he6
                subst he6
                have hb6 := Below.grown hb5 hg6 hb5.size (fun q hq => (World.ownsRow.lt hR5 q hq).1)
                have HR6 := Lib.hid (hR6.less B2.size)
                have Bq6 := B2.trans (hb6.mono B2.size)
                have hOc1 : (O.length : Int) ≤ c5 := by omega
                clear hR6 hg6 ha6 hR5 hb6 HSd4
                go_wp2_with (at_builtin; refine wpList_append_of rfl (.tmp 57) (.tmp 60) 29 rfl _ _ _ w6 rfl rfl hr6 ?_)
                clear hr6
                go_roundw
                case rel => exact ⟨k + 1, g6, c6, by omega, by go_num, rfl, HR6.out, Bq6⟩
                case measure => simp [intOf]; omega
          · have hlt4 : Op.bytesLess y.toList x.toList = true := hlt3
            go_wp2_with fail
            refine wp_region_det 15 (by kernel_rfl) (by kernel_rfl) (by decide) ?_
            apply Exists.intro
            refine And.intro ?_ ?_
            · (intro W hW; (try simp only [Act.put, List.setIfInBounds_toArray, List.set_cons_zero, List.set_cons_succ]); first | (go_wp2_with fail; exact ⟨rfl, rfl, Below.refl _ _⟩))
            apply Exists.intro
            refine And.intro ?_ ?_
            · (intro W hW; (try simp only [Act.put, List.setIfInBounds_toArray, List.set_cons_zero, List.set_cons_succ]); first | (go_wp2_with fail; exact ⟨rfl, rfl, Below.refl _ _⟩))
            apply Exists.intro
            refine And.intro ?_ ?_
            · (intro W hW; (try simp only [Act.put, List.setIfInBounds_toArray, List.set_cons_zero, List.set_cons_succ]); first | (go_wp2_with fail; exact ⟨rfl, rfl, Below.refl _ _⟩))
            apply Exists.intro
            refine And.intro ?_ ?_
            · (intro W hW; (try simp only [Act.put, List.setIfInBounds_toArray, List.set_cons_zero, List.set_cons_succ]); first | (go_wp2_with fail; exact ⟨rfl, rfl, Below.refl _ _⟩))
            apply Exists.intro
            refine And.intro ?_ ?_
            · (intro W hW; (try simp only [Act.put, List.setIfInBounds_toArray, List.set_cons_zero, List.set_cons_succ]); first | (go_wp2_with fail; exact ⟨rfl, rfl, Below.refl _ _⟩))
            apply Exists.intro
            refine And.intro ?_ ?_
            · (intro W hW; (try simp only [Act.put, List.setIfInBounds_toArray, List.set_cons_zero, List.set_cons_succ]); first | (exact wpList_skip rfl ⟨rfl, rfl, Below.refl _ _⟩) | (go_wp2_with fail; exact ⟨rfl, rfl, Below.refl _ _⟩))
            apply Exists.intro
            refine And.intro ?_ ?_
            · (intro W hW; (try simp only [Act.put, List.setIfInBounds_toArray, List.set_cons_zero, List.set_cons_succ]); first | (exact wpList_skip rfl ⟨rfl, rfl, Below.refl _ _⟩) | (go_wp2_with fail; exact ⟨rfl, rfl, Below.refl _ _⟩))
            apply Exists.intro
            refine And.intro ?_ ?_
            · (intro W hW; (try simp only [Act.put, List.setIfInBounds_toArray, List.set_cons_zero, List.set_cons_succ]); first | (exact wpList_skip rfl ⟨rfl, rfl, Below.refl _ _⟩) | (go_wp2_with fail; exact ⟨rfl, rfl, Below.refl _ _⟩))
            apply Exists.intro
            refine And.intro ?_ ?_
            · (intro W hW; (try simp only [Act.put, List.setIfInBounds_toArray, List.set_cons_zero, List.set_cons_succ]); first | (exact wpList_skip rfl ⟨rfl, rfl, Below.refl _ _⟩) | (obtain ⟨hcW, hfW⟩ := bcell hW; have hsW := hW.size; (try simp at hsW); (try have hsW0 := lt_of_succ_le hsW); (try (have hsW1 := lt_pred hsW; (try (have hsW2 := lt_pred hsW1)))); go_wp2_with fail; exact ⟨rfl, rfl, Below.refl _ _⟩))
            apply Exists.intro
            refine And.intro ?_ ?_
            · (intro W hW; (try simp only [Act.put, List.setIfInBounds_toArray, List.set_cons_zero, List.set_cons_succ]); first | (exact wpList_skip rfl ⟨rfl, rfl, Below.refl _ _⟩) | (go_wp2_with fail; exact ⟨rfl, rfl, Below.refl _ _⟩))
            apply Exists.intro
            refine And.intro ?_ ?_
            · (intro W hW; (try simp only [Act.put, List.setIfInBounds_toArray, List.set_cons_zero, List.set_cons_succ]); first | (exact wpList_skip rfl ⟨rfl, rfl, Below.refl _ _⟩) | (go_wp2_with fail; exact ⟨rfl, rfl, Below.refl _ _⟩))
            apply Exists.intro
            refine And.intro ?_ ?_
            · (intro W hW; (try simp only [Act.put, List.setIfInBounds_toArray, List.set_cons_zero, List.set_cons_succ]); first | (exact wpList_skip rfl ⟨rfl, rfl, Below.refl _ _⟩) | (go_wp2_with fail; exact ⟨rfl, rfl, Below.refl _ _⟩))
            apply Exists.intro
            refine And.intro ?_ ?_
            · (intro W hW; (try simp only [Act.put, List.setIfInBounds_toArray, List.set_cons_zero, List.set_cons_succ]); first | (exact wpList_skip rfl ⟨rfl, rfl, Below.refl _ _⟩) | (obtain ⟨hcW, hfW⟩ := bcell hW; have hsW := hW.size; (try simp at hsW); (try have hsW0 := lt_of_succ_le hsW); (try (have hsW1 := lt_pred hsW; (try (have hsW2 := lt_pred hsW1)))); go_wp2_with fail; exact ⟨rfl, rfl, Below.refl _ _⟩))
            apply Exists.intro
            refine And.intro ?_ ?_
            · (intro W hW; (try simp only [Act.put, List.setIfInBounds_toArray, List.set_cons_zero, List.set_cons_succ]); first | (exact wpList_skip rfl ⟨rfl, rfl, Below.refl _ _⟩) | (go_wp2_with fail; exact ⟨rfl, rfl, Below.refl _ _⟩))
            apply Exists.intro
            refine And.intro ?_ ?_
            · (intro W hW; (try simp only [Act.put, List.setIfInBounds_toArray, List.set_cons_zero, List.set_cons_succ]); first | (go_wp2_with fail; exact ⟨rfl, rfl, Below.refl _ _⟩))
            intro w1 hb
            (first | (have hcu2 := Cum.join hcu hb; (try clear hcu); (try clear hc); (try clear hfz); (try clear hsz); (try clear hs0); (try clear hs1); (try clear hs2); (try clear hs3); (try clear hs4); ) | have hcu2 := Cum.mk hb); have hcu := hcu2; clear hcu2; obtain ⟨hc, hfz⟩ := bcell hcu.h; have hsz := hcu.h.size; (try simp at hsz); (try have hs0 := lt_of_succ_le hsz); (try (have hs1 := lt_pred hsz; (try (have hs2 := lt_pred hs1; (try (have hs3 := lt_pred hs2; (try have hs4 := lt_pred hs3)))))))
            (try simp only [Act.put, List.setIfInBounds_toArray, List.set_cons_zero, List.set_cons_succ])
            (try simp only [List.drop_succ_cons, List.drop_nil])
            have hmp : m + 1 ≤ placeB lessS O x := by
              rcases Nat.lt_or_ge m (placeB lessS O x) with h | h
              · exact h
              · have e : m = placeB lessS O x := by omega
                have h3 := placeB_at lessS x O y (by rw [← e]; exact Hy.out)
                rw [hlt3] at h3
                cases h3
            have Bn := hbm.trans (hb.mono hbm.size)
            go_wp2_with fail
            go_roundw
            case rel => exact ⟨m + 1, hmp, by go_num, Bn⟩
            case measure => simp [intOf]; omega
        · have hpl := Lib.hid (show placeB lessS O x = m by omega)
          have HmO := Lib.hid (show m = O.length by omega)
          have hins := Lib.hid (show ordB lessS eqS (l.take (k + 1)) = O.take m ++ [x] ++ O.drop m by rw [ordB_step Hx.out, ← HOO.out]; unfold insB; rw [hpl.out, List.getElem?_eq_none (by rw [HmO.out]; exact Nat.le_refl _), HmO.out]; simp)
          have hmO8 : m ≤ O.length := by omega
          have hnn : ¬ (m : Int) < O.length := by omega
          have hn2 : decide (m < O.length) = false := decide_eq_false hlt2
          clear hm hmO hlt2 hrow hg2
          go_wp2_with fail
          refine wp_region_det 15 (by kernel_rfl) (by kernel_rfl) (by decide) ?_
          apply Exists.intro
          refine And.intro ?_ ?_
          · (intro W hW; (try simp only [Act.put, List.setIfInBounds_toArray, List.set_cons_zero, List.set_cons_succ]); first | (go_wp2_with fail; exact ⟨rfl, rfl, Below.refl _ _⟩))
          apply Exists.intro
          refine And.intro ?_ ?_
          · (intro W hW; (try simp only [Act.put, List.setIfInBounds_toArray, List.set_cons_zero, List.set_cons_succ]); first | (go_wp2_with fail; exact ⟨rfl, rfl, Below.refl _ _⟩))
          apply Exists.intro
          refine And.intro ?_ ?_
          · (intro W hW; (try simp only [Act.put, List.setIfInBounds_toArray, List.set_cons_zero, List.set_cons_succ]); first | (go_wp2_with fail; exact ⟨rfl, rfl, Below.refl _ _⟩))
          apply Exists.intro
          refine And.intro ?_ ?_
          · (intro W hW; (try simp only [Act.put, List.setIfInBounds_toArray, List.set_cons_zero, List.set_cons_succ]); first | (go_wp2_with fail; exact ⟨rfl, rfl, Below.refl _ _⟩))
          apply Exists.intro
          refine And.intro ?_ ?_
          · (intro W hW; (try simp only [Act.put, List.setIfInBounds_toArray, List.set_cons_zero, List.set_cons_succ]); first | (go_wp2_with fail; exact ⟨rfl, rfl, Below.refl _ _⟩))
          apply Exists.intro
          refine And.intro ?_ ?_
          · (intro W hW; (try simp only [Act.put, List.setIfInBounds_toArray, List.set_cons_zero, List.set_cons_succ]); first | (exact wpList_skip rfl ⟨rfl, rfl, Below.refl _ _⟩) | (go_wp2_with fail; exact ⟨rfl, rfl, Below.refl _ _⟩))
          apply Exists.intro
          refine And.intro ?_ ?_
          · (intro W hW; (try simp only [Act.put, List.setIfInBounds_toArray, List.set_cons_zero, List.set_cons_succ]); first | (exact wpList_skip rfl ⟨rfl, rfl, Below.refl _ _⟩) | (go_wp2_with fail; exact ⟨rfl, rfl, Below.refl _ _⟩))
          apply Exists.intro
          refine And.intro ?_ ?_
          · (intro W hW; (try simp only [Act.put, List.setIfInBounds_toArray, List.set_cons_zero, List.set_cons_succ]); first | (exact wpList_skip rfl ⟨rfl, rfl, Below.refl _ _⟩) | (go_wp2_with fail; exact ⟨rfl, rfl, Below.refl _ _⟩))
          apply Exists.intro
          refine And.intro ?_ ?_
          · (intro W hW; (try simp only [Act.put, List.setIfInBounds_toArray, List.set_cons_zero, List.set_cons_succ]); first | (exact wpList_skip rfl ⟨rfl, rfl, Below.refl _ _⟩) | (obtain ⟨hcW, hfW⟩ := bcell hW; have hsW := hW.size; (try simp at hsW); (try have hsW0 := lt_of_succ_le hsW); (try (have hsW1 := lt_pred hsW; (try (have hsW2 := lt_pred hsW1)))); go_wp2_with fail; exact ⟨rfl, rfl, Below.refl _ _⟩))
          apply Exists.intro
          refine And.intro ?_ ?_
          · (intro W hW; (try simp only [Act.put, List.setIfInBounds_toArray, List.set_cons_zero, List.set_cons_succ]); first | (exact wpList_skip rfl ⟨rfl, rfl, Below.refl _ _⟩) | (go_wp2_with fail; exact ⟨rfl, rfl, Below.refl _ _⟩))
          apply Exists.intro
          refine And.intro ?_ ?_
          · (intro W hW; (try simp only [Act.put, List.setIfInBounds_toArray, List.set_cons_zero, List.set_cons_succ]); first | (exact wpList_skip rfl ⟨rfl, rfl, Below.refl _ _⟩) | (go_wp2_with fail; exact ⟨rfl, rfl, Below.refl _ _⟩))
          apply Exists.intro
          refine And.intro ?_ ?_
          · (intro W hW; (try simp only [Act.put, List.setIfInBounds_toArray, List.set_cons_zero, List.set_cons_succ]); first | (exact wpList_skip rfl ⟨rfl, rfl, Below.refl _ _⟩) | (go_wp2_with fail; exact ⟨rfl, rfl, Below.refl _ _⟩))
          apply Exists.intro
          refine And.intro ?_ ?_
          · (intro W hW; (try simp only [Act.put, List.setIfInBounds_toArray, List.set_cons_zero, List.set_cons_succ]); first | (exact wpList_skip rfl ⟨rfl, rfl, Below.refl _ _⟩) | (obtain ⟨hcW, hfW⟩ := bcell hW; have hsW := hW.size; (try simp at hsW); (try have hsW0 := lt_of_succ_le hsW); (try (have hsW1 := lt_pred hsW; (try (have hsW2 := lt_pred hsW1)))); go_wp2_with fail; exact ⟨rfl, rfl, Below.refl _ _⟩))
          apply Exists.intro
          refine And.intro ?_ ?_
          · (intro W hW; (try simp only [Act.put, List.setIfInBounds_toArray, List.set_cons_zero, List.set_cons_succ]); first | (exact wpList_skip rfl ⟨rfl, rfl, Below.refl _ _⟩) | (go_wp2_with fail; exact ⟨rfl, rfl, Below.refl _ _⟩))
          apply Exists.intro
          refine And.intro ?_ ?_
          · (intro W hW; (try simp only [Act.put, List.setIfInBounds_toArray, List.set_cons_zero, List.set_cons_succ]); first | (go_wp2_with fail; exact ⟨rfl, rfl, Below.refl _ _⟩))
          intro w1 hb
          (first | (have hcu2 := Cum.join hcu hb; (try clear hcu); (try clear hc); (try clear hfz); (try clear hsz); (try clear hs0); (try clear hs1); (try clear hs2); (try clear hs3); (try clear hs4); ) | have hcu2 := Cum.mk hb); have hcu := hcu2; clear hcu2; obtain ⟨hc, hfz⟩ := bcell hcu.h; have hsz := hcu.h.size; (try simp at hsz); (try have hs0 := lt_of_succ_le hsz); (try (have hs1 := lt_pred hsz; (try (have hs2 := lt_pred hs1; (try (have hs3 := lt_pred hs2; (try have hs4 := lt_pred hs3)))))))
          (try simp only [Act.put, List.setIfInBounds_toArray, List.set_cons_zero, List.set_cons_succ])
          (try simp only [List.drop_succ_cons, List.drop_nil])
          have Bn := hbm.trans (hb.mono hbm.size)
          have ex0 := (hb.cell (p := ⟨b, o + k, none⟩) (by simpa using hbl2)).trans hx0
          have ebl := Nat.lt_of_lt_of_le hbl2 hb.size
          clear hx0 hc0 hbl2 hcu hc hfz hb
          go_wp2_with fail
          refine wp_region_det 15 (by kernel_rfl) (by kernel_rfl) (by decide) ?_
          apply Exists.intro
          refine And.intro ?_ ?_
          · (intro W hW; (try simp only [Act.put, List.setIfInBounds_toArray, List.set_cons_zero, List.set_cons_succ]); first | (go_wp2_with fail; exact ⟨rfl, rfl, Below.refl _ _⟩))
          apply Exists.intro
          refine And.intro ?_ ?_
          · (intro W hW; (try simp only [Act.put, List.setIfInBounds_toArray, List.set_cons_zero, List.set_cons_succ]); first | (go_wp2_with fail; exact ⟨rfl, rfl, Below.refl _ _⟩))
          apply Exists.intro
          refine And.intro ?_ ?_
          · (intro W hW; (try simp only [Act.put, List.setIfInBounds_toArray, List.set_cons_zero, List.set_cons_succ]); first | (go_wp2_with fail; exact ⟨rfl, rfl, Below.refl _ _⟩))
          apply Exists.intro
          refine And.intro ?_ ?_
          · (intro W hW; (try simp only [Act.put, List.setIfInBounds_toArray, List.set_cons_zero, List.set_cons_succ]); first | (go_wp2_with fail; exact ⟨rfl, rfl, Below.refl _ _⟩))
          apply Exists.intro
          refine And.intro ?_ ?_
          · (intro W hW; (try simp only [Act.put, List.setIfInBounds_toArray, List.set_cons_zero, List.set_cons_succ]); first | (go_wp2_with fail; exact ⟨rfl, rfl, Below.refl _ _⟩))
          apply Exists.intro
          refine And.intro ?_ ?_
          · (intro W hW; (try simp only [Act.put, List.setIfInBounds_toArray, List.set_cons_zero, List.set_cons_succ]); first | (exact wpList_skip rfl ⟨rfl, rfl, Below.refl _ _⟩) | (go_wp2_with fail; exact ⟨rfl, rfl, Below.refl _ _⟩))
          apply Exists.intro
          refine And.intro ?_ ?_
          · (intro W hW; (try simp only [Act.put, List.setIfInBounds_toArray, List.set_cons_zero, List.set_cons_succ]); first | (exact wpList_skip rfl ⟨rfl, rfl, Below.refl _ _⟩) | (go_wp2_with fail; exact ⟨rfl, rfl, Below.refl _ _⟩))
          apply Exists.intro
          refine And.intro ?_ ?_
          · (intro W hW; (try simp only [Act.put, List.setIfInBounds_toArray, List.set_cons_zero, List.set_cons_succ]); first | (exact wpList_skip rfl ⟨rfl, rfl, Below.refl _ _⟩) | (go_wp2_with fail; exact ⟨rfl, rfl, Below.refl _ _⟩))
          apply Exists.intro
          refine And.intro ?_ ?_
          · (intro W hW; (try simp only [Act.put, List.setIfInBounds_toArray, List.set_cons_zero, List.set_cons_succ]); first | (exact wpList_skip rfl ⟨rfl, rfl, Below.refl _ _⟩) | (obtain ⟨hcW, hfW⟩ := bcell hW; have hsW := hW.size; (try simp at hsW); (try have hsW0 := lt_of_succ_le hsW); (try (have hsW1 := lt_pred hsW; (try (have hsW2 := lt_pred hsW1)))); go_wp2_with fail; exact ⟨rfl, rfl, Below.refl _ _⟩))
          apply Exists.intro
          refine And.intro ?_ ?_
          · (intro W hW; (try simp only [Act.put, List.setIfInBounds_toArray, List.set_cons_zero, List.set_cons_succ]); first | (exact wpList_skip rfl ⟨rfl, rfl, Below.refl _ _⟩) | (go_wp2_with fail; exact ⟨rfl, rfl, Below.refl _ _⟩))
          apply Exists.intro
          refine And.intro ?_ ?_
          · (intro W hW; (try simp only [Act.put, List.setIfInBounds_toArray, List.set_cons_zero, List.set_cons_succ]); first | (exact wpList_skip rfl ⟨rfl, rfl, Below.refl _ _⟩) | (go_wp2_with fail; exact ⟨rfl, rfl, Below.refl _ _⟩))
          apply Exists.intro
          refine And.intro ?_ ?_
          · (intro W hW; (try simp only [Act.put, List.setIfInBounds_toArray, List.set_cons_zero, List.set_cons_succ]); first | (exact wpList_skip rfl ⟨rfl, rfl, Below.refl _ _⟩) | (go_wp2_with fail; exact ⟨rfl, rfl, Below.refl _ _⟩))
          apply Exists.intro
          refine And.intro ?_ ?_
          · (intro W hW; (try simp only [Act.put, List.setIfInBounds_toArray, List.set_cons_zero, List.set_cons_succ]); first | (exact wpList_skip rfl ⟨rfl, rfl, Below.refl _ _⟩) | (obtain ⟨hcW, hfW⟩ := bcell hW; have hsW := hW.size; (try simp at hsW); (try have hsW0 := lt_of_succ_le hsW); (try (have hsW1 := lt_pred hsW; (try (have hsW2 := lt_pred hsW1)))); go_wp2_with fail; exact ⟨rfl, rfl, Below.refl _ _⟩))
          apply Exists.intro
          refine And.intro ?_ ?_
          · (intro W hW; (try simp only [Act.put, List.setIfInBounds_toArray, List.set_cons_zero, List.set_cons_succ]); first | (exact wpList_skip rfl ⟨rfl, rfl, Below.refl _ _⟩) | (go_wp2_with fail; exact ⟨rfl, rfl, Below.refl _ _⟩))
          apply Exists.intro
          refine And.intro ?_ ?_
          · (intro W hW; (try simp only [Act.put, List.setIfInBounds_toArray, List.set_cons_zero, List.set_cons_succ]); first | (go_wp2_with fail; exact ⟨rfl, rfl, Below.refl _ _⟩))
          intro w1 hb
          (first | (have hcu2 := Cum.join hcu hb; (try clear hcu); (try clear hc); (try clear hfz); (try clear hsz); (try clear hs0); (try clear hs1); (try clear hs2); (try clear hs3); (try clear hs4); ) | have hcu2 := Cum.mk hb); have hcu := hcu2; clear hcu2; obtain ⟨hc, hfz⟩ := bcell hcu.h; have hsz := hcu.h.size; (try simp at hsz); (try have hs0 := lt_of_succ_le hsz); (try (have hs1 := lt_pred hsz; (try (have hs2 := lt_pred hs1; (try (have hs3 := lt_pred hs2; (try have hs4 := lt_pred hs3)))))))
          (try simp only [Act.put, List.setIfInBounds_toArray, List.set_cons_zero, List.set_cons_succ])
          (try simp only [List.drop_succ_cons, List.drop_nil])
          have Bq := Bn.trans (hb.mono Bn.size)
          have fx0 := (hb.cell (p := ⟨b, o + k, none⟩) (by simpa using ebl)).trans ex0
          have fbl := Nat.lt_of_lt_of_le ebl hb.size
          obtain ⟨w2, hw2⟩ : ∃ w2, w2 = w1 := ⟨_, rfl⟩
          rw [← hw2] at Bq fx0 fbl ⊢
          (try clear hcu); (try clear hc); (try clear hfz); (try clear hs0); (try clear hs1); (try clear hsz); (try clear hb)
          clear ex0 ebl Bn hw2 hnn hn2
          rcases Nat.lt_or_ge m c5 with hmcl | hmcl
          · have hmcI : (m : Int) < c5 := by omega
            have hmcn2 : ¬ c5 = m := by omega
            go_wp2_with fail
            have HO2 := HO.out.below Bq
            have B2 : Below w.heap.size w w2 := hbr.trans (Bq.mono hbr.size)
            have HS := Lib.hid (RowE.sl encS_len HO2 HCO.out)
            have HSt := Lib.hid (SlOf.take HS.out (k := m) (by omega))
            have HSd := Lib.hid (SlOf.drop HS.out (k := m) (by omega))
            clear HO2
            have htl : (O.take m).length = m := by rw [List.length_take]; omega
            have Htl := Lib.hid htl
            have hm9 : (m : Int) ≤ O.length := by omega
            have hm0 : (0 : Int) ≤ m := by omega
            have hmc : (m : Int) ≤ c5 := by omega
            clear htl
            go_upto_region 9 with fail
            go_cut [6] from 46 to 56 (fun s6 wx => ∃ g5 cap5 : Nat, s6 = .slice (some ⟨g5, 0, none⟩) (m + 1) cap5 ∧ RowE encS 1 9 w2.heap.size wx (O.take m ++ [x]) (.slice (some ⟨g5, 0, none⟩) (m + 1) cap5) ∧ Below w2.heap.size w2 wx)
            case first =>
              go_region_held3 (fun w' => Below w2.heap.size w2 w' ∧ (∀ xb xo, xb < w2.heap.size → w'.cell? ⟨xb, xo, none⟩ = w2.cell? ⟨xb, xo, none⟩)) (first | exact keep_drew _ | exact keep_at (by assumption) | exact keep_same (by assumption) | exact keep_alloc (by assumption) _) (first | (refine step_append_rows rfl (.tmp 46) (.tmp 49) 29 rfl w2.heap.size 9 i0 (.string ⟨#[]⟩) 1 16 Tryz.underlying29 hi hz0 hz1 hz2 rfl (by decide) encS_len encS_one encS_C (.slice (some ⟨_, 0, none⟩) 0 0) 0 [] rfl rfl (by first | exact own_eq (own_empty (w := w2) rfl (Nat.le_refl _)) rfl | exact own_eq ((own_empty (w := w2) rfl (Nat.le_refl _)).alloc (.cells #[.string x] 9)) rfl | exact own_eq (own_empty (w := w2.alloc (.cells #[.string x] 9)) (by simp) (by simp)) rfl) (O.take m) (some ⟨g, 0, none⟩) m c5 _ _ rfl Htl.out (Sl_Str.now HSt.out bel) (by unfold maxLen; omega) (by omega) (by simp <;> omega) ?_; intro v3 w9 ho3 hg3 ha3; rw [List.nil_append] at ho3; obtain ⟨E5, e5, he3⟩ := RowE.form ho3; rw [Htl.out] at he3; subst he3; have hb3 : Below w2.heap.size w2 w9 := Below.grown (bel : Below w2.heap.size w2 _) hg3 (by simp <;> omega) (fun q hq => (by simp [Value.ownBlock] at hq; omega)); have ho4 : w9.ownsRow w2.heap.size 9 1 (.slice E5 m e5) m (flatE encS (O.take m)) := (by have h9 := ho3; unfold RowE at h9; rw [Htl.out] at h9; exact h9)) | (refine step_append_lies _ rfl (.tmp 50) (.tmp 55) 29 rfl w2.heap.size 9 i0 (.string ⟨#[]⟩) 1 16 Tryz.underlying29 hi hz0 hz1 hz2 rfl (by decide) (.slice E5 m e5) m (flatE encS (O.take m)) rfl (by first | exact ho4 | exact ho4.alloc _) _ 1 1 [.string x] rfl rfl (by first | exact World.news_of_block (heap_alloc_new _ _) | exact World.news_of_block ((hg3.block _ (by simp <;> omega) (by simp [Value.ownBlock] <;> omega)).trans (heap_at (by simp))) | exact World.news_of_block ((hg3.block _ (by simp <;> omega) (by simp [Value.ownBlock] <;> omega)).trans ((Below.heap_alloc _ _ _ (by simp)).trans (heap_at (by simp))))) (encS_one x) (by decide) (by unfold maxLen; omega) (by omega) (by have := hb3.size; simp; omega) _ rfl ?_; intro g5 cap5 w10 ho5 hg5 ha5 hl7; have hb4 : Below w2.heap.size w2 w10 := Below.grown (bel : Below w2.heap.size w2 _) hg5 (by have := hb3.size; first | omega | (simp; omega)) (fun q hq => (World.ownsRow.lt ho4 q hq).1)))
              all_goals
                have ho6 := Lib.hid (rowSnoc (enc := encS) (x := x) ho5 Htl.out)
                clear ho5 hg5 ha5 ho3 hg3 ha3 ho4
                go_wp2_with fail
                go_meet
                exact ⟨g5, cap5, rfl, ho6.out, hb4⟩
            case rest =>
              obtain ⟨g5, cap5, rfl, hR5, hb5⟩ := hcut
              have HSd4 := Sl_Str.now HSd.out hb5
              rw [Nat.zero_add, Nat.mul_one] at HSd4
              obtain ⟨v6, w6, hr6, hR6, hg6, ha6⟩ := run_append_rows (P := Tryz.prog) (enc := encS) (C := C_Str) wc 29 29 w2.heap.size 9 i0 (.string ⟨#[]⟩) 1 16 Tryz.underlying29 hi hz0 hz1 hz2 rfl (by decide) encS_len encS_one encS_C (.slice (some ⟨g5, 0, none⟩) (m + 1) cap5) (m + 1) (O.take m ++ [x]) (by rw [List.length_append, Htl.out]; rfl) hR5 (O.drop m) (some ⟨g, m, none⟩) (O.length - m) (c5 - m) _ _ (by rw [List.length_drop]) HSd4 (by unfold maxLen; omega) (by omega) hb5.size
              obtain ⟨g6, c6, -, he6, -, -, -, -, -, -⟩ := hR6.row encS_len (by simp <;> omega)
              rw [← hins.out] at hR6 he6
              subst he6
              have hb6 := Below.grown hb5 hg6 hb5.size (fun q hq => (World.ownsRow.lt hR5 q hq).1)
              have HR6 := Lib.hid (hR6.less B2.size)
              have Bq6 := B2.trans (hb6.mono B2.size)
              have hOc1 : (O.length : Int) ≤ c5 := by omega
              clear hR6 hg6 ha6 hR5 hb6 HSd4
              go_wp2_with (at_builtin; refine wpList_append_of rfl (.tmp 57) (.tmp 60) 29 rfl _ _ _ w6 rfl rfl hr6 ?_)
              clear hr6
              go_roundw
              case rel => exact ⟨k + 1, g6, c6, by omega, by go_num, rfl, HR6.out, Bq6⟩
              case measure => simp [intOf]; omega
          · have HcM := Lib.hid (show m = c5 by have := HmO.out; omega)
            have hins := Lib.hid (show ordB lessS eqS (l.take (k + 1)) = O.take m ++ [x] ++ [] by rw [hins.out, List.drop_eq_nil_of_le (by rw [HmO.out]; exact Nat.le_refl _)])
            obtain rfl := HcM.out
            go_wp2_with fail
            have HO2 := HO.out.below Bq
            have B2 : Below w.heap.size w w2 := hbr.trans (Bq.mono hbr.size)
            have HS := Lib.hid (RowE.sl encS_len HO2 HCO.out)
            have HSt := Lib.hid (SlOf.take HS.out (k := m) (by omega))
            have HSd := Lib.hid (show Sl_Str 0 w2.heap.size w2 [] (.slice (some ⟨g, 0, none⟩) 0 0) from ⟨_, 0, rfl, by simp, by omega, fun h => by simp at h⟩)
            clear HO2
            have htl : (O.take m).length = m := by rw [List.length_take]; omega
            have Htl := Lib.hid htl
            have hm9 : (m : Int) ≤ O.length := by omega
            have hm0 : (0 : Int) ≤ m := by omega
            have hmc : (m : Int) ≤ m := by omega
            clear htl
            go_upto_region 9 with fail
            go_cut [6] from 46 to 56 (fun s6 wx => ∃ g5 cap5 : Nat, s6 = .slice (some ⟨g5, 0, none⟩) (m + 1) cap5 ∧ RowE encS 1 9 w2.heap.size wx (O.take m ++ [x]) (.slice (some ⟨g5, 0, none⟩) (m + 1) cap5) ∧ Below w2.heap.size w2 wx)
            case first =>
              go_region_held3 (fun w' => Below w2.heap.size w2 w' ∧ (∀ xb xo, xb < w2.heap.size → w'.cell? ⟨xb, xo, none⟩ = w2.cell? ⟨xb, xo, none⟩)) (first | exact keep_drew _ | exact keep_at (by assumption) | exact keep_same (by assumption) | exact keep_alloc (by assumption) _) (first | (refine step_append_rows rfl (.tmp 46) (.tmp 49) 29 rfl w2.heap.size 9 i0 (.string ⟨#[]⟩) 1 16 Tryz.underlying29 hi hz0 hz1 hz2 rfl (by decide) encS_len encS_one encS_C (.slice (some ⟨_, 0, none⟩) 0 0) 0 [] rfl rfl (by first | exact own_eq (own_empty (w := w2) rfl (Nat.le_refl _)) rfl | exact own_eq ((own_empty (w := w2) rfl (Nat.le_refl _)).alloc (.cells #[.string x] 9)) rfl | exact own_eq (own_empty (w := w2.alloc (.cells #[.string x] 9)) (by simp) (by simp)) rfl) (O.take m) (some ⟨g, 0, none⟩) m m _ _ rfl Htl.out (Sl_Str.now HSt.out bel) (by unfold maxLen; omega) (by omega) (by simp <;> omega) ?_; intro v3 w9 ho3 hg3 ha3; rw [List.nil_append] at ho3; obtain ⟨E5, e5, he3⟩ := RowE.form ho3; rw [Htl.out] at he3; subst he3; have hb3 : Below w2.heap.size w2 w9 := Below.grown (bel : Below w2.heap.size w2 _) hg3 (by simp <;> omega) (fun q hq => (by simp [Value.ownBlock] at hq; omega)); have ho4 : w9.ownsRow w2.heap.size 9 1 (.slice E5 m e5) m (flatE encS (O.take m)) := (by have h9 := ho3; unfold RowE at h9; rw [Htl.out] at h9; exact h9)) | (refine step_append_lies _ rfl (.tmp 50) (.tmp 55) 29 rfl w2.heap.size 9 i0 (.string ⟨#[]⟩) 1 16 Tryz.underlying29 hi hz0 hz1 hz2 rfl (by decide) (.slice E5 m e5) m (flatE encS (O.take m)) rfl (by first | exact ho4 | exact ho4.alloc _) _ 1 1 [.string x] rfl rfl (by first | exact World.news_of_block (heap_alloc_new _ _) | exact World.news_of_block ((hg3.block _ (by simp <;> omega) (by simp [Value.ownBlock] <;> omega)).trans (heap_at (by simp))) | exact World.news_of_block ((hg3.block _ (by simp <;> omega) (by simp [Value.ownBlock] <;> omega)).trans ((Below.heap_alloc _ _ _ (by simp)).trans (heap_at (by simp))))) (encS_one x) (by decide) (by unfold maxLen; omega) (by omega) (by have := hb3.size; simp; omega) _ rfl ?_; intro g5 cap5 w10 ho5 hg5 ha5 hl7; have hb4 : Below w2.heap.size w2 w10 := Below.grown (bel : Below w2.heap.size w2 _) hg5 (by have := hb3.size; first | omega | (simp; omega)) (fun q hq => (World.ownsRow.lt ho4 q hq).1)))
              all_goals
                have ho6 := Lib.hid (rowSnoc (enc := encS) (x := x) ho5 Htl.out)
                clear ho5 hg5 ha5 ho3 hg3 ha3 ho4
                go_wp2_with fail
                go_meet
                exact ⟨g5, cap5, rfl, ho6.out, hb4⟩
            case rest =>
              obtain ⟨g5, cap5, rfl, hR5, hb5⟩ := hcut
              have HSd4 := Sl_Str.now HSd.out hb5
              skip
              obtain ⟨v6, w6, hr6, hR6, hg6, ha6⟩ := run_append_rows (P := Tryz.prog) (enc := encS) (C := C_Str) wc 29 29 w2.heap.size 9 i0 (.string ⟨#[]⟩) 1 16 Tryz.underlying29 hi hz0 hz1 hz2 rfl (by decide) encS_len encS_one encS_C (.slice (some ⟨g5, 0, none⟩) (m + 1) cap5) (m + 1) (O.take m ++ [x]) (by rw [List.length_append, Htl.out]; rfl) hR5 [] (some ⟨g, 0, none⟩) 0 0 _ _ rfl HSd4 (by unfold maxLen; omega) (by omega) hb5.size
              obtain ⟨g6, c6, -, he6, -, -, -, -, -, -⟩ := hR6.row encS_len (by simp <;> omega)
              rw [← hins.out] at hR6 he6
              subst he6
              have hb6 := Below.grown hb5 hg6 hb5.size (fun q hq => (World.ownsRow.lt hR5 q hq).1)
              have HR6 := Lib.hid (hR6.less B2.size)
              have Bq6 := B2.trans (hb6.mono B2.size)
              have hOc1 : (O.length : Int) ≤ m := by omega
              clear hR6 hg6 ha6 hR5 hb6 HSd4
              go_wp2_with (at_builtin; refine wpList_append_of rfl (.tmp 57) (.tmp 60) 29 rfl _ _ _ w6 rfl rfl hr6 ?_)
              clear hr6
              go_roundw
              case rel => exact ⟨k + 1, g6, c6, by omega, by go_num, rfl, HR6.out, Bq6⟩
              case measure => simp [intOf]; omega
    · obtain rfl : k = l.length := by omega
      have hO2 := Lib.hid (show O = valsB l by have h9 := HOO.out; rw [List.take_length] at h9; exact h9)
      clear hA
      go_wp2_with fail
      go_ret
      exact ⟨_, c5, by rw [← hO2.out]; rfl, by rw [← hO2.out]; exact HO.out, hbr⟩
end Go.Proofs.YtmhlnbihppojmaaGreat
namespace Go.Proofs.YtmhlnbihppojmaaGreat
open Go.RowKit
def letterB (c : Int) : Bool := decide (97 ≤ c ∧ c ≤ 122 ∨ 65 ≤ c ∧ c ≤ 90 ∨ 48 ≤ c ∧ c ≤ 57)
def digitB (c : Int) : Bool := decide (48 ≤ c ∧ c ≤ 57)
def lowerB (c : Int) : Bool := decide (97 ≤ c ∧ c ≤ 122)
def alphaB (c : Int) : Bool := decide (97 ≤ c ∧ c ≤ 122 ∨ 65 ≤ c ∧ c ≤ 90)
def inB (x a b : Int) : Bool := decide (a ≤ x ∧ x ≤ b)
theorem c_spec_l14Letter (c : Int) (w : World) : Calls Tryz.prog 153 #[.int .u8 c] w fun e w' => e = .returned (.bool (letterB c)) ∧ w = w' := by
  go_enter Tryz.func153, Tryz.ntmps153
  go_wp2_with fail
  all_goals
    go_ret
    refine ⟨ret_bool ?_, rfl⟩
    rw [Bool.eq_iff_iff]
    simp [letterB]
    try omega
theorem c_impl_isDigit (c : Int) (w : World) : Calls Tryz.prog 193 #[.int .u8 c] w fun e w' => e = .returned (.bool (digitB c)) ∧ w = w' := by
  go_enter Tryz.func193, Tryz.ntmps193
  go_wp2_with fail
  all_goals
    go_ret
    refine ⟨ret_bool ?_, rfl⟩
    rw [Bool.eq_iff_iff]
    simp [digitB]
    try omega
theorem c_impl_isLower (c : Int) (w : World) : Calls Tryz.prog 192 #[.int .u8 c] w fun e w' => e = .returned (.bool (lowerB c)) ∧ w = w' := by
  go_enter Tryz.func192, Tryz.ntmps192
  go_wp2_with fail
  all_goals
    go_ret
    refine ⟨ret_bool ?_, rfl⟩
    rw [Bool.eq_iff_iff]
    simp [lowerB]
    try omega
theorem c_impl_isLetter (c : Int) (w : World) : Calls Tryz.prog 218 #[.int .u8 c] w fun e w' => e = .returned (.bool (alphaB c)) ∧ w = w' := by
  go_enter Tryz.func218, Tryz.ntmps218
  go_wp2_with (first | (go_at_call 192; refine (c_impl_isLower _ _).mono ?_; rintro e w' ⟨rfl, rfl⟩))
  all_goals
    go_ret
    refine ⟨ret_bool ?_, rfl⟩
    rw [Bool.eq_iff_iff]
    simp_all [alphaB, lowerB]
    try omega
theorem c_impl_wordOk1 (c : Int) (w : World) : Calls Tryz.prog 217 #[.int .u8 c] w fun e w' => e = .returned (.bool (letterB c)) ∧ w = w' := by
  go_enter Tryz.func217, Tryz.ntmps217
  go_wp2_with (first | (go_at_call 218; refine (c_impl_isLetter _ _).mono ?_; rintro e w' ⟨rfl, rfl⟩) | (go_at_call 193; refine (c_impl_isDigit _ _).mono ?_; rintro e w' ⟨rfl, rfl⟩))
  all_goals
    go_ret
    refine ⟨ret_bool ?_, rfl⟩
    rw [Bool.eq_iff_iff]
    simp_all [alphaB, digitB, letterB]
    try omega
theorem c_impl_within (x a b : Int) (w : World) : Calls Tryz.prog 109 #[.int .i64 x, .int .i64 a, .int .i64 b] w fun e w' => e = .returned (.bool (inB x a b)) ∧ w = w' := by
  go_enter Tryz.func109, Tryz.ntmps109
  go_wp2_with fail
  all_goals
    go_ret
    refine ⟨ret_bool ?_, rfl⟩
    rw [Bool.eq_iff_iff]
    simp [inB]
    try omega
theorem c_spec_l01In (x a b : Int) (w : World) : Calls Tryz.prog 88 #[.int .i64 x, .int .i64 a, .int .i64 b] w fun e w' => e = .returned (.bool (inB x a b)) ∧ w = w' := by
  go_enter Tryz.func88, Tryz.ntmps88
  go_wp2_with fail
  all_goals
    go_ret
    refine ⟨ret_bool ?_, rfl⟩
    rw [Bool.eq_iff_iff]
    simp [inB]
    try omega
theorem run_IndexByteString (s : ByteArray) (c : Int) (w : World) : (callFunc 253 #[.string s, .int .u8 c]).run Tryz.prog w = .ok (.value (.int .i64 (Lib.indexByte s.data.toList c.toNat.toUInt8))) w := by
  rw [run_callFunc_extern Tryz.func253 (by kernel_rfl) (by kernel_rfl) (by kernel_rfl) (e := Extern.BytealgIndexByte.indexByte) (by kernel_rfl), Lib.run_indexByteString]
  rfl
theorem indexByte_lt {o : List UInt8} {c : UInt8} : Lib.indexByte o c < 0 ↔ o.contains c = false := by
  have h := Lib.contains_iff_indexByte o c
  rw [h]; simp
theorem c_slite_IndexByte (s : ByteArray) (c : UInt8) (w : World) : Calls Tryz.prog 245 #[.string s, .int .u8 c.toNat] w fun e w' => e = .returned (.int .i64 (Lib.indexByte s.data.toList c)) ∧ w = w' := by
  have h := run_IndexByteString s c.toNat
  rw [show ((c.toNat : Int)).toNat.toUInt8 = c from by simp] at h
  go_enter Tryz.func245, Tryz.ntmps245
  go_wp2
  go_ret
  exact ⟨rfl, rfl⟩
theorem c_strings_IndexByte (s : ByteArray) (c : UInt8) (w : World) : Calls Tryz.prog 219 #[.string s, .int .u8 c.toNat] w fun e w' => e = .returned (.int .i64 (Lib.indexByte s.data.toList c)) ∧ w = w' := by
  go_enter Tryz.func219, Tryz.ntmps219
  go_wp2_with (go_at_call 245; refine (c_slite_IndexByte _ _ _).mono ?_; rintro e w' ⟨rfl, rfl⟩)
  go_ret
  exact ⟨rfl, rfl⟩
end Go.Proofs.YtmhlnbihppojmaaGreat
namespace Go.Proofs.YtmhlnbihppojmaaGreat
open Go.RowKit
def goodB (o : List UInt8) (c : UInt8) : Bool := letterB (c.toNat : Int) || o.contains c
def wordB (s : ByteArray) (o : List UInt8) : Bool :=
  s.data.toList.all (goodB o) && (match s.data.toList.head? with | some c => letterB (c.toNat : Int) | none => false) && (match s.data.toList.getLast? with | some c => letterB (c.toNat : Int) | none => false)
theorem data_take_succ (s : ByteArray) (k : Nat) (h : k < s.size) : s.data.toList.take (k + 1) = s.data.toList.take k ++ [s[k]] := by
  rw [List.take_succ_eq_append_getElem (by simpa using h)]; rfl
theorem data_getElem? (s : ByteArray) (k : Nat) (h : k < s.size) : s.data.toList[k]? = some s[k] := by
  rw [List.getElem?_eq_getElem (by simpa using h)]; rfl
theorem data_length (s : ByteArray) : s.data.toList.length = s.size := by simp
theorem data_head (s : ByteArray) (h : 0 < s.size) : s.data.toList.head? = some s[0] := by
  rw [List.head?_eq_getElem?, data_getElem? s 0 h]
theorem data_last (s : ByteArray) (h : 0 < s.size) : s.data.toList.getLast? = some (s[s.size - 1]'(by omega)) := by
  rw [List.getLast?_eq_getElem?, data_length, data_getElem? s _ (by omega)]
theorem u8_beq (a b : UInt8) : ((a.toNat : Int) == (b.toNat : Int)) = (a == b) := by
  rw [Bool.eq_iff_iff, beq_iff_eq, beq_iff_eq, ← UInt8.toNat_inj]; omega
theorem wordB_of (s : ByteArray) (o : List UInt8) (h : 0 < s.size) (ha : s.data.toList.all (goodB o) = true) :
    wordB s o = (letterB (s[0].toNat : Int) && letterB ((s[s.size - 1]'(by omega)).toNat : Int)) := by
  simp only [wordB, ha, data_head s h, data_last s h, Bool.true_and]
theorem wordB_bad (s : ByteArray) (o : List UInt8) (k : Nat) (hk : k < s.size) (h1 : letterB (s[k].toNat : Int) = false) (h2 : o.contains s[k] = false) : wordB s o = false := by
  have : s.data.toList.all (goodB o) = false := by
    rw [List.all_eq_false]
    exact ⟨s[k], List.mem_iff_getElem?.2 ⟨k, data_getElem? s k hk⟩, by simp only [goodB, h1, h2]; decide⟩
  simp only [wordB, this, Bool.false_and]
theorem all_take_succ (s : ByteArray) (p : UInt8 → Bool) (k : Nat) (h : k < s.size) (ha : (s.data.toList.take k).all p = true) (hp : p s[k] = true) : (s.data.toList.take (k + 1)).all p = true := by
  rw [data_take_succ s k h, List.all_append, ha]; simp [hp]
theorem take_all_size (s : ByteArray) : s.data.toList.take s.size = s.data.toList := List.take_of_length_le (by simp)
set_option maxHeartbeats 400000 in
theorem c_impl_wordOk (s o : ByteArray) (w : World) (h0 : 0 < s.size) (h1 : s.size ≤ 9223372036854775807) : Calls Tryz.prog 183 #[.string s, .string o] w fun e w' => e = .returned (.bool (wordB s o.data.toList)) ∧ w = w' := by
  go_enter Tryz.func183, Tryz.ntmps183
  go_wp2_with fail
  go_loop [9] (fun i => ∃ k : Nat, k ≤ s.size ∧ i = .int .i64 k ∧ (s.data.toList.take k).all (goodB o.data.toList) = true) (fun i => s.size - (intOf i).toNat)
  case atStart => exact ⟨0, Nat.zero_le _, rfl, by simp⟩
  case round =>
    obtain ⟨k, hk, rfl, hall⟩ := hrel
    have Hall := Lib.hid hall
    clear hall
    by_cases hlt : k < s.size
    · rcases hl : letterB (s[k].toNat : Int) with _ | _
      · rcases hi : o.data.toList.contains s[k] with _ | _
        · have hx := indexByte_lt.2 hi
          have Hf := Lib.hid (wordB_bad s o.data.toList k hlt hl hi)
          have Hi := Lib.hid hi
          clear hi
          go_wp2_with (first | (go_at_call 217; refine (c_impl_wordOk1 _ _).mono ?_; rintro e w' ⟨rfl, rfl⟩) | (go_at_call 219; refine (c_strings_IndexByte _ _ _).mono ?_; rintro e w' ⟨rfl, rfl⟩))
          go_ret
          exact ⟨ret_bool Hf.out.symm, rfl⟩
        · have hx : ¬ Lib.indexByte o.data.toList s[k] < 0 := fun h => by rw [indexByte_lt.1 h] at hi; cases hi
          have Hn := Lib.hid (all_take_succ s _ k hlt Hall.out (show goodB o.data.toList s[k] = true by simp only [goodB, hi, Bool.or_true]))
          have Hi := Lib.hid hi
          clear hi
          go_wp2_with (first | (go_at_call 217; refine (c_impl_wordOk1 _ _).mono ?_; rintro e w' ⟨rfl, rfl⟩) | (go_at_call 219; refine (c_strings_IndexByte _ _ _).mono ?_; rintro e w' ⟨rfl, rfl⟩))
          go_round
          case rel => exact ⟨k + 1, by omega, by go_num, Hn.out⟩
          case measure => simp [intOf]; omega
      · have Hn := Lib.hid (all_take_succ s _ k hlt Hall.out (show goodB o.data.toList s[k] = true by simp only [goodB, hl, Bool.true_or]))
        go_wp2_with (first | (go_at_call 217; refine (c_impl_wordOk1 _ _).mono ?_; rintro e w' ⟨rfl, rfl⟩) | (go_at_call 219; refine (c_strings_IndexByte _ _ _).mono ?_; rintro e w' ⟨rfl, rfl⟩))
        go_round
        case rel => exact ⟨k + 1, by omega, by go_num, Hn.out⟩
        case measure => simp [intOf]; omega
    · obtain rfl : k = s.size := by omega
      have Hf := Lib.hid (wordB_of s o.data.toList h0 (by rw [← take_all_size]; exact Hall.out))
      go_wp2_with (first | (go_at_call 217; refine (c_impl_wordOk1 _ _).mono ?_; rintro e w' ⟨rfl, rfl⟩))
      all_goals
        go_ret
        exact ⟨ret_bool (by rw [Hf.out]; simp_all), rfl⟩
end Go.Proofs.YtmhlnbihppojmaaGreat
