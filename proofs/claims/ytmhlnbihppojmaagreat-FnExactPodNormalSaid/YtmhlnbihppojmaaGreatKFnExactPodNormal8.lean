/- Written by wip/tools/pack.py: the texts that FnExactPodNormal needs, without what it does not need. No conditions. -/
import Derived.Test.YtmhlnbihppojmaaGreatKFnExactPodNormal5
import Derived.Test.YtmhlnbihppojmaaGreatKFnExactPodNormal4
import Derived.Test.YtmhlnbihppojmaaGreatKFnExactPodNormal7
import Derived.Test.YtmhlnbihppojmaaGreatKFnExactPodNormal2
import Derived.Test.YtmhlnbihppojmaaGreatKFnExactPodNormal3
import Derived.Laws.BitsLemmas
import Derived.Shelf.RegionOpenPlain
namespace Go.Proofs.YtmhlnbihppojmaaGreat
open Go.RowKit
def encL (d : Label) : List Value := [.string d.key, .string d.value]
theorem encL_len (d : Label) : (encL d).length = 2 := rfl
theorem encL_one (d : Label) : ∀ v ∈ encL d, v.oneCell' = true := by intro u hu; simp [encL] at hu; rcases hu with rfl | rfl <;> rfl
theorem encL_C (d : Label) (es : List Value) (h : C_Label d es) : es = encL d := h.1
def leL (y x : Label) : Bool := !lessS x.key y.key
def insL (l : List Label) (x : Label) : List Label := l.take (placeB leL l x) ++ [x] ++ l.drop (placeB leL l x)
def stL (l : List Label) : List Label := l.foldl insL []
def sortLB (l : List Label) : List Label × Bool := if 6 < l.length then (l, false) else if labelsB (stL l) then (stL l, true) else (l, false)
theorem insL_len (l : List Label) (x : Label) : (insL l x).length = l.length + 1 := by
  have := placeB_le leL l x
  unfold insL
  simp
  omega
theorem insL_mem (l : List Label) (x d : Label) : d ∈ insL l x ↔ d ∈ l ∨ d = x := by
  have e : d ∈ l ↔ d ∈ l.take (placeB leL l x) ++ l.drop (placeB leL l x) := by rw [List.take_append_drop]
  unfold insL
  rw [e]
  simp only [List.mem_append, List.mem_singleton]
  constructor
  · rintro ((h | h) | h)
    · exact .inl (.inl h)
    · exact .inr h
    · exact .inl (.inr h)
  · rintro ((h | h) | h)
    · exact .inl (.inl h)
    · exact .inr h
    · exact .inl (.inr h)
theorem stL_all (l : List Label) : (stL l).length = l.length ∧ ∀ d, d ∈ stL l ↔ d ∈ l := by
  have H : ∀ (l acc : List Label), (l.foldl insL acc).length = acc.length + l.length ∧ ∀ d, d ∈ l.foldl insL acc ↔ d ∈ acc ∨ d ∈ l := by
    intro l
    induction l with
    | nil => intro acc; exact ⟨by simp, fun d => by simp⟩
    | cons x l ih =>
      intro acc
      obtain ⟨h1, h2⟩ := ih (insL acc x)
      refine ⟨by rw [List.foldl_cons, h1, insL_len, List.length_cons]; omega, fun d => ?_⟩
      rw [List.foldl_cons, h2, insL_mem, List.mem_cons, or_assoc]
  have := H l []
  exact ⟨by unfold stL; simpa using this.1, fun d => by have := this.2 d; unfold stL; simpa using this⟩
theorem stL_step {l : List Label} {k : Nat} {d : Label} (h : l[k]? = some d) : stL (l.take (k + 1)) = insL (stL (l.take k)) d := by
  unfold stL
  rw [List.take_add_one, h, List.foldl_append]
  rfl
theorem Label_of_sl {l : List Label} {lo hi : Nat} {w : World} {v : Value} (h : Sl_Label lo hi w l v) : ∀ d ∈ l, C_Label d (encL d) := by
  intro d hd
  obtain ⟨A, c, rfl, -, -, hA⟩ := h
  obtain ⟨i, hi⟩ := List.getElem?_of_mem hd
  obtain ⟨b, o, -, -, -, hc⟩ := hA (by have := (List.getElem?_eq_some_iff.1 hi).1; omega)
  obtain ⟨es, -, -, h1⟩ := hc i d hi
  obtain rfl := encL_C d es h1
  exact h1
set_option maxHeartbeats 8000000 in
set_option maxRecDepth 10000 in
theorem c_spec_SortLabels (l : List Label) (v : Value) (w : World) (lo : Nat) (hs : Sl_Label lo w.heap.size w l v) (hn : l.length ≤ 1048576) :
    Calls Tryz.prog 58 #[v] w fun e w' => ∃ A c, e = .returned (.tuple #[.slice A (sortLB l).1.length c, .bool (sortLB l).2]) ∧ RowE encL 2 98 w.heap.size w' (sortLB l).1 (.slice A (sortLB l).1.length c) ∧ Below w.heap.size w w' := by
  obtain ⟨i0, hi, hz0, hz1, hz2⟩ := info_parts (show (Tryz.prog.info? 98).map (fun i => (i.zero, i.size, i.bytes)) = some (some (.agg #[.string ⟨#[]⟩, .string ⟨#[]⟩]), 2, 32) from by kernel_rfl)
  have hs' := hs
  have HCd := Lib.hid (Label_of_sl hs)
  obtain ⟨A, c, rfl, hlc, hc, hA⟩ := hs
  have hb0 : Below w.heap.size w (w.alloc (.cells #[] 98)) := bel
  have Hs := Lib.hid (Sl_Label.now hs' hb0)
  have Hown : RowE encL 2 98 w.heap.size (w.alloc (.cells #[] 98)) [] (.slice (some ⟨w.heap.size, 0, none⟩) 0 0) := own_empty rfl (Nat.le_refl _)
  obtain ⟨v', w1, hr, hR, hgrow, hat⟩ := run_append_rows (P := Tryz.prog) (enc := encL) (C := C_Label) (w.alloc (.cells #[] 98)) 41 41 w.heap.size 98 i0 (.agg #[.string ⟨#[]⟩, .string ⟨#[]⟩]) 2 32 Tryz.underlying41 hi hz0 hz1 hz2 rfl (by decide) encL_len encL_one encL_C _ 0 [] rfl Hown l A l.length c lo _ rfl Hs.out (by unfold maxLen; omega) (by omega) (by simp)
  rw [List.nil_append] at hR
  obtain ⟨A', c', rfl⟩ := hR.form
  have HR := Lib.hid hR
  have Bw := Below.grown hb0 hgrow (by simp) (fun k hk => by simp [Value.ownBlock] at hk; omega)
  clear hR hgrow hat Hown
  by_cases h40 : (6 : Int) < l.length
  · have Hf := Lib.hid (show sortLB l = (l, false) by unfold sortLB; rw [if_pos (by omega)])
    go_enter Tryz.func58, Tryz.ntmps58
    go_wp2_with (at_builtin; refine wpList_append_of rfl (.tmp 9) (.tmp 10) 41 rfl _ _ _ w1 rfl rfl hr ?_)
    go_ret2
    exact ⟨A', c', by rw [Hf.out]; rfl, by rw [Hf.out]; exact HR.out, Bw⟩
  · have h6n : l.length ≤ 6 := by omega
    go_enter Tryz.func58, Tryz.ntmps58
    go_wp2_with (at_builtin; refine wpList_append_of rfl (.tmp 9) (.tmp 10) 41 rfl _ _ _ w1 rfl rfl hr ?_)
    clear hr
    go_loopw [5, 6] (fun q i wr => ∃ (k : Nat) (g c5 : Nat), k ≤ l.length ∧ i = .int .i64 k ∧ q = .slice (some ⟨g, 0, none⟩) (stL (l.take k)).length c5 ∧ RowE encL 2 98 w1.heap.size wr (stL (l.take k)) (.slice (some ⟨g, 0, none⟩) (stL (l.take k)).length c5) ∧ Below w1.heap.size w1 wr) (fun _ i _ => l.length - (intOf i).toNat)
    case atStart => exact ⟨0, w1.heap.size, 0, Nat.zero_le _, rfl, rfl, own_empty rfl (by simp), bel⟩
    case round =>
      obtain ⟨k, g, c5, hk, rfl, rfl, hO, hbr⟩ := hrel
      obtain ⟨O, hOO⟩ : ∃ O, O = stL (l.take k) := ⟨_, rfl⟩
      have hOl : O.length ≤ 6 := by rw [hOO, (stL_all _).1, List.length_take]; omega
      rw [← hOO] at hO
      have HOO := Lib.hid hOO
      rw [← hOO]
      clear hOO
      have Bwr : Below w.heap.size w wr := Bw.trans (hbr.mono Bw.size)
      have HO := Lib.hid hO
      clear hO
      by_cases hlt : k < l.length
      · obtain ⟨b, o, rfl, -, hb2, hcell⟩ := hA (by omega)
        obtain ⟨x, hx⟩ := exists_at hlt
        obtain ⟨es, -, hcs, hC⟩ := hcell k x hx
        obtain rfl := encL_C x es hC
        have hc0 := (Bwr.cell (p := ⟨b, o + k * 2 + 0, none⟩) (by simp; omega)).trans (hcs 0 (by omega))
        have hc1 := (Bwr.cell (p := ⟨b, o + k * 2 + 1, none⟩) (by simp; omega)).trans (hcs 1 (by omega))
        simp [encL] at hc0 hc1
        have hbl : b < wr.heap.size := Nat.lt_of_lt_of_le hb2 Bwr.size
        have hk0 : (0 : Int) ≤ k := by omega
        have hk1 : (k : Int) < l.length := by omega
        have Hx := Lib.hid hx
        have HCO := Lib.hid (show ∀ d ∈ O, C_Label d (encL d) from fun d hd => HCd.out d (List.mem_of_mem_take ((stL_all (l.take k)).2 d |>.1 (by rw [← HOO.out]; exact hd))))
        clear hcs hcell hA hx hC
        go_wp2_with fail
        go_loopw [7] (fun j wr2 => ∃ m : Nat, m ≤ placeB leL O x ∧ j = .int .i64 m ∧ Below wr.heap.size wr wr2) (fun j _ => O.length - (intOf j).toNat)
        case atStart => exact ⟨0, Nat.zero_le _, rfl, Below.refl _ _⟩
        case round =>
          obtain ⟨m, hm, rfl, hbm⟩ := hrel
          have hmO := placeB_le leL O x
          have hx0 := (hbm.cell (p := ⟨b, o + k * 2, none⟩) (by simpa using hbl)).trans hc0
          have hx1 := (hbm.cell (p := ⟨b, o + k * 2 + 1, none⟩) (by simpa using hbl)).trans hc1
          have hbl2 : b < wr.heap.size := Nat.lt_of_lt_of_le hbl hbm.size
          obtain ⟨-, hgb, hcap, hcap2, cur, hg, -, hrow⟩ := HO.out.at encL_len
          have hgl := row_lt hg
          have hg2 := (hbm.block g hgl).trans hg
          have hgl2 := row_lt hg2
          clear hg
          by_cases hlt2 : m < O.length
          · obtain ⟨y, hy⟩ := exists_at hlt2
            have hr0 := hrow m y hy 0 (by decide)
            have hy0 : wr.cell? ⟨g, m * 2, none⟩ = some (.string y.key) := by rw [cell_of_row _ g _ cur _ _ hg2]; exact hr0
            have hm0 : (0 : Int) ≤ m := by omega
            have hm1 : (m : Int) < O.length := by omega
            have Hy := Lib.hid hy
            clear hrow hr0 hy hg2
            rcases hlt3 : lessS x.key y.key with _ | _
            · rcases hA9 : Op.bytesLess y.key.toList x.key.toList with _ | _
              · have hB9 : (y.key.toList == x.key.toList) = true := beq_iff_eq.2 (bless_tri _ _ hA9 hlt3)
                go_wp2_with fail
                refine wp_region_det 17 (by kernel_rfl) (by kernel_rfl) (by decide) ?_
                apply Exists.intro
                refine And.intro ?_ ?_
                · (intro W hW; (try simp only [Act.put, List.setIfInBounds_toArray, List.set_cons_zero, List.set_cons_succ]); first | (go_wp2_with fail; exact ⟨rfl, rfl, Below.refl _ _⟩))
                apply Exists.intro
                refine And.intro ?_ ?_
                · (intro W hW; (try simp only [Act.put, List.setIfInBounds_toArray, List.set_cons_zero, List.set_cons_succ]); first | (go_wp2_with fail; exact ⟨rfl, rfl, Below.refl _ _⟩))
                apply Exists.intro
                refine And.intro ?_ ?_
                · (intro W hW; (try simp only [Act.put, List.setIfInBounds_toArray, List.set_cons_zero, List.set_cons_succ]); first | (go_wp2_with fail; exact ⟨rfl, rfl, Below.refl _ _⟩))
                apply Exists.intro
                refine And.intro ?_ ?_
                · (intro W hW; (try simp only [Act.put, List.setIfInBounds_toArray, List.set_cons_zero, List.set_cons_succ]); first | (go_wp2_with fail; exact ⟨rfl, rfl, Below.refl _ _⟩))
                apply Exists.intro
                refine And.intro ?_ ?_
                · (intro W hW; (try simp only [Act.put, List.setIfInBounds_toArray, List.set_cons_zero, List.set_cons_succ]); first | (go_wp2_with fail; exact ⟨rfl, rfl, Below.refl _ _⟩))
                apply Exists.intro
                refine And.intro ?_ ?_
                · (intro W hW; (try simp only [Act.put, List.setIfInBounds_toArray, List.set_cons_zero, List.set_cons_succ]); first | (exact wpList_skip rfl ⟨rfl, rfl, Below.refl _ _⟩) | (go_wp2_with fail; exact ⟨rfl, rfl, Below.refl _ _⟩))
                apply Exists.intro
                refine And.intro ?_ ?_
                · (intro W hW; (try simp only [Act.put, List.setIfInBounds_toArray, List.set_cons_zero, List.set_cons_succ]); first | (exact wpList_skip rfl ⟨rfl, rfl, Below.refl _ _⟩) | (go_wp2_with fail; exact ⟨rfl, rfl, Below.refl _ _⟩))
                apply Exists.intro
                refine And.intro ?_ ?_
                · (intro W hW; (try simp only [Act.put, List.setIfInBounds_toArray, List.set_cons_zero, List.set_cons_succ]); first | (exact wpList_skip rfl ⟨rfl, rfl, Below.refl _ _⟩) | (go_wp2_with fail; exact ⟨rfl, rfl, Below.refl _ _⟩))
                apply Exists.intro
                refine And.intro ?_ ?_
                · (intro W hW; (try simp only [Act.put, List.setIfInBounds_toArray, List.set_cons_zero, List.set_cons_succ]); first | (exact wpList_skip rfl ⟨rfl, rfl, Below.refl _ _⟩) | (go_wp2_with fail; exact ⟨rfl, rfl, Below.refl _ _⟩))
                apply Exists.intro
                refine And.intro ?_ ?_
                · (intro W hW; (try simp only [Act.put, List.setIfInBounds_toArray, List.set_cons_zero, List.set_cons_succ]); first | (exact wpList_skip rfl ⟨rfl, rfl, Below.refl _ _⟩) | (obtain ⟨hcW, hfW⟩ := bcell hW; have hsW := hW.size; (try simp at hsW); (try have hsW0 := lt_of_succ_le hsW); (try (have hsW1 := lt_pred hsW; (try (have hsW2 := lt_pred hsW1)))); go_wp2_with fail; exact ⟨rfl, rfl, Below.refl _ _⟩))
                apply Exists.intro
                refine And.intro ?_ ?_
                · (intro W hW; (try simp only [Act.put, List.setIfInBounds_toArray, List.set_cons_zero, List.set_cons_succ]); first | (exact wpList_skip rfl ⟨rfl, rfl, Below.refl _ _⟩) | (go_wp2_with fail; exact ⟨rfl, rfl, Below.refl _ _⟩))
                apply Exists.intro
                refine And.intro ?_ ?_
                · (intro W hW; (try simp only [Act.put, List.setIfInBounds_toArray, List.set_cons_zero, List.set_cons_succ]); first | (exact wpList_skip rfl ⟨rfl, rfl, Below.refl _ _⟩) | (go_wp2_with fail; exact ⟨rfl, rfl, Below.refl _ _⟩))
                apply Exists.intro
                refine And.intro ?_ ?_
                · (intro W hW; (try simp only [Act.put, List.setIfInBounds_toArray, List.set_cons_zero, List.set_cons_succ]); first | (exact wpList_skip rfl ⟨rfl, rfl, Below.refl _ _⟩) | (go_wp2_with fail; exact ⟨rfl, rfl, Below.refl _ _⟩))
                apply Exists.intro
                refine And.intro ?_ ?_
                · (intro W hW; (try simp only [Act.put, List.setIfInBounds_toArray, List.set_cons_zero, List.set_cons_succ]); first | (exact wpList_skip rfl ⟨rfl, rfl, Below.refl _ _⟩) | (go_wp2_with fail; exact ⟨rfl, rfl, Below.refl _ _⟩))
                apply Exists.intro
                refine And.intro ?_ ?_
                · (intro W hW; (try simp only [Act.put, List.setIfInBounds_toArray, List.set_cons_zero, List.set_cons_succ]); first | (exact wpList_skip rfl ⟨rfl, rfl, Below.refl _ _⟩) | (obtain ⟨hcW, hfW⟩ := bcell hW; have hsW := hW.size; (try simp at hsW); (try have hsW0 := lt_of_succ_le hsW); (try (have hsW1 := lt_pred hsW; (try (have hsW2 := lt_pred hsW1)))); go_wp2_with fail; exact ⟨rfl, rfl, Below.refl _ _⟩))
                apply Exists.intro
                refine And.intro ?_ ?_
                · (intro W hW; (try simp only [Act.put, List.setIfInBounds_toArray, List.set_cons_zero, List.set_cons_succ]); first | (exact wpList_skip rfl ⟨rfl, rfl, Below.refl _ _⟩) | (go_wp2_with fail; exact ⟨rfl, rfl, Below.refl _ _⟩))
                apply Exists.intro
                refine And.intro ?_ ?_
                · (intro W hW; (try simp only [Act.put, List.setIfInBounds_toArray, List.set_cons_zero, List.set_cons_succ]); first | (go_wp2_with fail; exact ⟨rfl, rfl, Below.refl _ _⟩))
                intro w1 hb
                (first | (have hcu2 := Cum.join hcu hb; (try clear hcu); (try clear hc); (try clear hfz); (try clear hsz); (try clear hs0); (try clear hs1); (try clear hs2); (try clear hs3); (try clear hs4); ) | have hcu2 := Cum.mk hb); have hcu := hcu2; clear hcu2; obtain ⟨hc, hfz⟩ := bcell hcu.h; have hsz := hcu.h.size; (try simp at hsz); (try have hs0 := lt_of_succ_le hsz); (try (have hs1 := lt_pred hsz; (try (have hs2 := lt_pred hs1; (try (have hs3 := lt_pred hs2; (try have hs4 := lt_pred hs3)))))))
                (try simp only [Act.put, List.setIfInBounds_toArray, List.set_cons_zero, List.set_cons_succ])
                (try simp only [List.drop_succ_cons, List.drop_nil])
                have hmp : m + 1 ≤ placeB leL O x := by
                  rcases Nat.lt_or_ge m (placeB leL O x) with h | h
                  · exact h
                  · have e : m = placeB leL O x := by omega
                    have h3 := placeB_at leL x O y (by rw [← e]; exact Hy.out)
                    unfold leL at h3
                    rw [hlt3] at h3
                    cases h3
                have Bn := hbm.trans (hb.mono hbm.size)
                go_wp2_with fail
                go_roundw
                case rel => exact ⟨m + 1, hmp, by go_num, Bn⟩
                case measure => simp [intOf]; omega
              · skip
                go_wp2_with fail
                refine wp_region_det 17 (by kernel_rfl) (by kernel_rfl) (by decide) ?_
                apply Exists.intro
                refine And.intro ?_ ?_
                · (intro W hW; (try simp only [Act.put, List.setIfInBounds_toArray, List.set_cons_zero, List.set_cons_succ]); first | (go_wp2_with fail; exact ⟨rfl, rfl, Below.refl _ _⟩))
                apply Exists.intro
                refine And.intro ?_ ?_
                · (intro W hW; (try simp only [Act.put, List.setIfInBounds_toArray, List.set_cons_zero, List.set_cons_succ]); first | (go_wp2_with fail; exact ⟨rfl, rfl, Below.refl _ _⟩))
                apply Exists.intro
                refine And.intro ?_ ?_
                · (intro W hW; (try simp only [Act.put, List.setIfInBounds_toArray, List.set_cons_zero, List.set_cons_succ]); first | (go_wp2_with fail; exact ⟨rfl, rfl, Below.refl _ _⟩))
                apply Exists.intro
                refine And.intro ?_ ?_
                · (intro W hW; (try simp only [Act.put, List.setIfInBounds_toArray, List.set_cons_zero, List.set_cons_succ]); first | (go_wp2_with fail; exact ⟨rfl, rfl, Below.refl _ _⟩))
                apply Exists.intro
                refine And.intro ?_ ?_
                · (intro W hW; (try simp only [Act.put, List.setIfInBounds_toArray, List.set_cons_zero, List.set_cons_succ]); first | (go_wp2_with fail; exact ⟨rfl, rfl, Below.refl _ _⟩))
                apply Exists.intro
                refine And.intro ?_ ?_
                · (intro W hW; (try simp only [Act.put, List.setIfInBounds_toArray, List.set_cons_zero, List.set_cons_succ]); first | (exact wpList_skip rfl ⟨rfl, rfl, Below.refl _ _⟩) | (go_wp2_with fail; exact ⟨rfl, rfl, Below.refl _ _⟩))
                apply Exists.intro
                refine And.intro ?_ ?_
                · (intro W hW; (try simp only [Act.put, List.setIfInBounds_toArray, List.set_cons_zero, List.set_cons_succ]); first | (exact wpList_skip rfl ⟨rfl, rfl, Below.refl _ _⟩) | (go_wp2_with fail; exact ⟨rfl, rfl, Below.refl _ _⟩))
                apply Exists.intro
                refine And.intro ?_ ?_
                · (intro W hW; (try simp only [Act.put, List.setIfInBounds_toArray, List.set_cons_zero, List.set_cons_succ]); first | (exact wpList_skip rfl ⟨rfl, rfl, Below.refl _ _⟩) | (go_wp2_with fail; exact ⟨rfl, rfl, Below.refl _ _⟩))
                apply Exists.intro
                refine And.intro ?_ ?_
                · (intro W hW; (try simp only [Act.put, List.setIfInBounds_toArray, List.set_cons_zero, List.set_cons_succ]); first | (exact wpList_skip rfl ⟨rfl, rfl, Below.refl _ _⟩) | (go_wp2_with fail; exact ⟨rfl, rfl, Below.refl _ _⟩))
                apply Exists.intro
                refine And.intro ?_ ?_
                · (intro W hW; (try simp only [Act.put, List.setIfInBounds_toArray, List.set_cons_zero, List.set_cons_succ]); first | (exact wpList_skip rfl ⟨rfl, rfl, Below.refl _ _⟩) | (obtain ⟨hcW, hfW⟩ := bcell hW; have hsW := hW.size; (try simp at hsW); (try have hsW0 := lt_of_succ_le hsW); (try (have hsW1 := lt_pred hsW; (try (have hsW2 := lt_pred hsW1)))); go_wp2_with fail; exact ⟨rfl, rfl, Below.refl _ _⟩))
                apply Exists.intro
                refine And.intro ?_ ?_
                · (intro W hW; (try simp only [Act.put, List.setIfInBounds_toArray, List.set_cons_zero, List.set_cons_succ]); first | (exact wpList_skip rfl ⟨rfl, rfl, Below.refl _ _⟩) | (go_wp2_with fail; exact ⟨rfl, rfl, Below.refl _ _⟩))
                apply Exists.intro
                refine And.intro ?_ ?_
                · (intro W hW; (try simp only [Act.put, List.setIfInBounds_toArray, List.set_cons_zero, List.set_cons_succ]); first | (exact wpList_skip rfl ⟨rfl, rfl, Below.refl _ _⟩) | (go_wp2_with fail; exact ⟨rfl, rfl, Below.refl _ _⟩))
                apply Exists.intro
                refine And.intro ?_ ?_
                · (intro W hW; (try simp only [Act.put, List.setIfInBounds_toArray, List.set_cons_zero, List.set_cons_succ]); first | (exact wpList_skip rfl ⟨rfl, rfl, Below.refl _ _⟩) | (go_wp2_with fail; exact ⟨rfl, rfl, Below.refl _ _⟩))
                apply Exists.intro
                refine And.intro ?_ ?_
                · (intro W hW; (try simp only [Act.put, List.setIfInBounds_toArray, List.set_cons_zero, List.set_cons_succ]); first | (exact wpList_skip rfl ⟨rfl, rfl, Below.refl _ _⟩) | (go_wp2_with fail; exact ⟨rfl, rfl, Below.refl _ _⟩))
                apply Exists.intro
                refine And.intro ?_ ?_
                · (intro W hW; (try simp only [Act.put, List.setIfInBounds_toArray, List.set_cons_zero, List.set_cons_succ]); first | (exact wpList_skip rfl ⟨rfl, rfl, Below.refl _ _⟩) | (obtain ⟨hcW, hfW⟩ := bcell hW; have hsW := hW.size; (try simp at hsW); (try have hsW0 := lt_of_succ_le hsW); (try (have hsW1 := lt_pred hsW; (try (have hsW2 := lt_pred hsW1)))); go_wp2_with fail; exact ⟨rfl, rfl, Below.refl _ _⟩))
                apply Exists.intro
                refine And.intro ?_ ?_
                · (intro W hW; (try simp only [Act.put, List.setIfInBounds_toArray, List.set_cons_zero, List.set_cons_succ]); first | (exact wpList_skip rfl ⟨rfl, rfl, Below.refl _ _⟩) | (go_wp2_with fail; exact ⟨rfl, rfl, Below.refl _ _⟩))
                apply Exists.intro
                refine And.intro ?_ ?_
                · (intro W hW; (try simp only [Act.put, List.setIfInBounds_toArray, List.set_cons_zero, List.set_cons_succ]); first | (go_wp2_with fail; exact ⟨rfl, rfl, Below.refl _ _⟩))
                intro w1 hb
                (first | (have hcu2 := Cum.join hcu hb; (try clear hcu); (try clear hc); (try clear hfz); (try clear hsz); (try clear hs0); (try clear hs1); (try clear hs2); (try clear hs3); (try clear hs4); ) | have hcu2 := Cum.mk hb); have hcu := hcu2; clear hcu2; obtain ⟨hc, hfz⟩ := bcell hcu.h; have hsz := hcu.h.size; (try simp at hsz); (try have hs0 := lt_of_succ_le hsz); (try (have hs1 := lt_pred hsz; (try (have hs2 := lt_pred hs1; (try (have hs3 := lt_pred hs2; (try have hs4 := lt_pred hs3)))))))
                (try simp only [Act.put, List.setIfInBounds_toArray, List.set_cons_zero, List.set_cons_succ])
                (try simp only [List.drop_succ_cons, List.drop_nil])
                have hmp : m + 1 ≤ placeB leL O x := by
                  rcases Nat.lt_or_ge m (placeB leL O x) with h | h
                  · exact h
                  · have e : m = placeB leL O x := by omega
                    have h3 := placeB_at leL x O y (by rw [← e]; exact Hy.out)
                    unfold leL at h3
                    rw [hlt3] at h3
                    cases h3
                have Bn := hbm.trans (hb.mono hbm.size)
                go_wp2_with fail
                go_roundw
                case rel => exact ⟨m + 1, hmp, by go_num, Bn⟩
                case measure => simp [intOf]; omega
            · have hpl := Lib.hid (placeB_is (lt := leL) (x := x) (l := O) (k := m) (by omega) (fun i d hi hd => placeB_lt leL x O i d (by omega) hd) (fun d hd => by rw [Hy.out] at hd; obtain rfl := Option.some.inj hd; unfold leL; rw [hlt3]; rfl))
              have hA9 : Op.bytesLess y.key.toList x.key.toList = false := tot_S.asymm (a := x.key) (b := y.key) hlt3
              have hB9 : (y.key.toList == x.key.toList) = false := beq_eq_false_iff_ne.2 (fun e => by have h9 := hlt3; unfold lessS at h9; rw [e, bless_self] at h9; cases h9)
              have hins := Lib.hid (show stL (l.take (k + 1)) = O.take m ++ [x] ++ O.drop m by rw [stL_step Hx.out, ← HOO.out]; unfold insL; rw [hpl.out])
              go_wp2_with fail
              refine wp_region_det 17 (by kernel_rfl) (by kernel_rfl) (by decide) ?_
              apply Exists.intro
              refine And.intro ?_ ?_
              · (intro W hW; (try simp only [Act.put, List.setIfInBounds_toArray, List.set_cons_zero, List.set_cons_succ]); first | (go_wp2_with fail; exact ⟨rfl, rfl, Below.refl _ _⟩))
              apply Exists.intro
              refine And.intro ?_ ?_
              · (intro W hW; (try simp only [Act.put, List.setIfInBounds_toArray, List.set_cons_zero, List.set_cons_succ]); first | (go_wp2_with fail; exact ⟨rfl, rfl, Below.refl _ _⟩))
              apply Exists.intro
              refine And.intro ?_ ?_
              · (intro W hW; (try simp only [Act.put, List.setIfInBounds_toArray, List.set_cons_zero, List.set_cons_succ]); first | (go_wp2_with fail; exact ⟨rfl, rfl, Below.refl _ _⟩))
              apply Exists.intro
              refine And.intro ?_ ?_
              · (intro W hW; (try simp only [Act.put, List.setIfInBounds_toArray, List.set_cons_zero, List.set_cons_succ]); first | (go_wp2_with fail; exact ⟨rfl, rfl, Below.refl _ _⟩))
              apply Exists.intro
              refine And.intro ?_ ?_
              · (intro W hW; (try simp only [Act.put, List.setIfInBounds_toArray, List.set_cons_zero, List.set_cons_succ]); first | (go_wp2_with fail; exact ⟨rfl, rfl, Below.refl _ _⟩))
              apply Exists.intro
              refine And.intro ?_ ?_
              · (intro W hW; (try simp only [Act.put, List.setIfInBounds_toArray, List.set_cons_zero, List.set_cons_succ]); first | (exact wpList_skip rfl ⟨rfl, rfl, Below.refl _ _⟩) | (go_wp2_with fail; exact ⟨rfl, rfl, Below.refl _ _⟩))
              apply Exists.intro
              refine And.intro ?_ ?_
              · (intro W hW; (try simp only [Act.put, List.setIfInBounds_toArray, List.set_cons_zero, List.set_cons_succ]); first | (exact wpList_skip rfl ⟨rfl, rfl, Below.refl _ _⟩) | (go_wp2_with fail; exact ⟨rfl, rfl, Below.refl _ _⟩))
              apply Exists.intro
              refine And.intro ?_ ?_
              · (intro W hW; (try simp only [Act.put, List.setIfInBounds_toArray, List.set_cons_zero, List.set_cons_succ]); first | (exact wpList_skip rfl ⟨rfl, rfl, Below.refl _ _⟩) | (go_wp2_with fail; exact ⟨rfl, rfl, Below.refl _ _⟩))
              apply Exists.intro
              refine And.intro ?_ ?_
              · (intro W hW; (try simp only [Act.put, List.setIfInBounds_toArray, List.set_cons_zero, List.set_cons_succ]); first | (exact wpList_skip rfl ⟨rfl, rfl, Below.refl _ _⟩) | (go_wp2_with fail; exact ⟨rfl, rfl, Below.refl _ _⟩))
              apply Exists.intro
              refine And.intro ?_ ?_
              · (intro W hW; (try simp only [Act.put, List.setIfInBounds_toArray, List.set_cons_zero, List.set_cons_succ]); first | (exact wpList_skip rfl ⟨rfl, rfl, Below.refl _ _⟩) | (obtain ⟨hcW, hfW⟩ := bcell hW; have hsW := hW.size; (try simp at hsW); (try have hsW0 := lt_of_succ_le hsW); (try (have hsW1 := lt_pred hsW; (try (have hsW2 := lt_pred hsW1)))); go_wp2_with fail; exact ⟨rfl, rfl, Below.refl _ _⟩))
              apply Exists.intro
              refine And.intro ?_ ?_
              · (intro W hW; (try simp only [Act.put, List.setIfInBounds_toArray, List.set_cons_zero, List.set_cons_succ]); first | (exact wpList_skip rfl ⟨rfl, rfl, Below.refl _ _⟩) | (go_wp2_with fail; exact ⟨rfl, rfl, Below.refl _ _⟩))
              apply Exists.intro
              refine And.intro ?_ ?_
              · (intro W hW; (try simp only [Act.put, List.setIfInBounds_toArray, List.set_cons_zero, List.set_cons_succ]); first | (exact wpList_skip rfl ⟨rfl, rfl, Below.refl _ _⟩) | (go_wp2_with fail; exact ⟨rfl, rfl, Below.refl _ _⟩))
              apply Exists.intro
              refine And.intro ?_ ?_
              · (intro W hW; (try simp only [Act.put, List.setIfInBounds_toArray, List.set_cons_zero, List.set_cons_succ]); first | (exact wpList_skip rfl ⟨rfl, rfl, Below.refl _ _⟩) | (go_wp2_with fail; exact ⟨rfl, rfl, Below.refl _ _⟩))
              apply Exists.intro
              refine And.intro ?_ ?_
              · (intro W hW; (try simp only [Act.put, List.setIfInBounds_toArray, List.set_cons_zero, List.set_cons_succ]); first | (exact wpList_skip rfl ⟨rfl, rfl, Below.refl _ _⟩) | (go_wp2_with fail; exact ⟨rfl, rfl, Below.refl _ _⟩))
              apply Exists.intro
              refine And.intro ?_ ?_
              · (intro W hW; (try simp only [Act.put, List.setIfInBounds_toArray, List.set_cons_zero, List.set_cons_succ]); first | (exact wpList_skip rfl ⟨rfl, rfl, Below.refl _ _⟩) | (obtain ⟨hcW, hfW⟩ := bcell hW; have hsW := hW.size; (try simp at hsW); (try have hsW0 := lt_of_succ_le hsW); (try (have hsW1 := lt_pred hsW; (try (have hsW2 := lt_pred hsW1)))); go_wp2_with fail; exact ⟨rfl, rfl, Below.refl _ _⟩))
              apply Exists.intro
              refine And.intro ?_ ?_
              · (intro W hW; (try simp only [Act.put, List.setIfInBounds_toArray, List.set_cons_zero, List.set_cons_succ]); first | (exact wpList_skip rfl ⟨rfl, rfl, Below.refl _ _⟩) | (go_wp2_with fail; exact ⟨rfl, rfl, Below.refl _ _⟩))
              apply Exists.intro
              refine And.intro ?_ ?_
              · (intro W hW; (try simp only [Act.put, List.setIfInBounds_toArray, List.set_cons_zero, List.set_cons_succ]); first | (go_wp2_with fail; exact ⟨rfl, rfl, Below.refl _ _⟩))
              intro w1 hb
              (first | (have hcu2 := Cum.join hcu hb; (try clear hcu); (try clear hc); (try clear hfz); (try clear hsz); (try clear hs0); (try clear hs1); (try clear hs2); (try clear hs3); (try clear hs4); ) | have hcu2 := Cum.mk hb); have hcu := hcu2; clear hcu2; obtain ⟨hc, hfz⟩ := bcell hcu.h; have hsz := hcu.h.size; (try simp at hsz); (try have hs0 := lt_of_succ_le hsz); (try (have hs1 := lt_pred hsz; (try (have hs2 := lt_pred hs1; (try (have hs3 := lt_pred hs2; (try have hs4 := lt_pred hs3)))))))
              (try simp only [Act.put, List.setIfInBounds_toArray, List.set_cons_zero, List.set_cons_succ])
              (try simp only [List.drop_succ_cons, List.drop_nil])
              have Bq := hbm.trans (hb.mono hbm.size)
              have fx0 := (hb.cell (p := ⟨b, o + k * 2, none⟩) (by simpa using hbl2)).trans hx0
              have fx1 := (hb.cell (p := ⟨b, o + k * 2 + 1, none⟩) (by simpa using hbl2)).trans hx1
              have fbl := Nat.lt_of_lt_of_le hbl2 hb.size
              obtain ⟨w2, hw2⟩ : ∃ w2, w2 = w1 := ⟨_, rfl⟩
              rw [← hw2] at Bq fx0 fx1 fbl ⊢
              (try clear hcu); (try clear hc); (try clear hfz); (try clear hs0); (try clear hs1); (try clear hsz); (try clear hb)
              clear hy0 hx0 hx1 hc0 hc1 hgl2 hbl2 hw2 hA9 hB9
              go_wp2_with fail
              have HO2 := HO.out.below Bq
              have B2 : Below w.heap.size w w2 := Bwr.trans (Bq.mono Bwr.size)
              have HS := Lib.hid (RowE.sl encL_len HO2 HCO.out)
              have HSt := Lib.hid (SlOf.take HS.out (k := m) (by omega))
              have HSd := Lib.hid (SlOf.drop HS.out (k := m) (by omega))
              clear HO2
              have htl : (O.take m).length = m := by rw [List.length_take]; omega
              have Htl := Lib.hid htl
              have hm9 : (m : Int) ≤ O.length := by omega
              have hm0 : (0 : Int) ≤ m := by omega
              have hmc : (m : Int) ≤ c5 := by omega
              clear htl
              go_upto_region 11 with fail
              go_cut [8] from 42 to 52 (fun s6 wx => ∃ g5 cap5 : Nat, s6 = .slice (some ⟨g5, 0, none⟩) (m + 1) cap5 ∧ RowE encL 2 98 w2.heap.size wx (O.take m ++ [x]) (.slice (some ⟨g5, 0, none⟩) (m + 1) cap5) ∧ Below w2.heap.size w2 wx)
              case first =>
                go_region_held3 (fun w' => Below w2.heap.size w2 w' ∧ (∀ xb xo, xb < w2.heap.size → w'.cell? ⟨xb, xo, none⟩ = w2.cell? ⟨xb, xo, none⟩)) (first | exact keep_drew _ | exact keep_at (by assumption) | exact keep_same (by assumption) | exact keep_alloc (by assumption) _) (first | (refine step_append_rows rfl (.tmp 42) (.tmp 45) 41 rfl w2.heap.size 98 i0 (.agg #[.string ⟨#[]⟩, .string ⟨#[]⟩]) 2 32 Tryz.underlying41 hi hz0 hz1 hz2 rfl (by decide) encL_len encL_one encL_C (.slice (some ⟨_, 0, none⟩) 0 0) 0 [] rfl rfl (by first | exact own_eq (own_empty (w := w2) rfl (Nat.le_refl _)) rfl | exact own_eq ((own_empty (w := w2) rfl (Nat.le_refl _)).alloc (.cells #[.string x.key, .string x.value] 98)) rfl | exact own_eq (own_empty (w := w2.alloc (.cells #[.string x.key, .string x.value] 98)) (by simp) (by simp)) rfl) (O.take m) (some ⟨g, 0, none⟩) m c5 _ _ rfl Htl.out (Sl_Label.now HSt.out bel) (by unfold maxLen; omega) (by omega) (by simp <;> omega) ?_; intro v3 w9 ho3 hg3 ha3; rw [List.nil_append] at ho3; obtain ⟨E5, e5, he3⟩ := RowE.form ho3; rw [Htl.out] at he3; subst he3; have hb3 : Below w2.heap.size w2 w9 := Below.grown (bel : Below w2.heap.size w2 _) hg3 (by simp <;> omega) (fun q hq => (by simp [Value.ownBlock] at hq; omega)); have ho4 : w9.ownsRow w2.heap.size 98 2 (.slice E5 m e5) m (flatE encL (O.take m)) := (by have h9 := ho3; unfold RowE at h9; rw [Htl.out] at h9; exact h9)) | (refine step_append_lies _ rfl (.tmp 46) (.tmp 51) 41 rfl w2.heap.size 98 i0 (.agg #[.string ⟨#[]⟩, .string ⟨#[]⟩]) 2 32 Tryz.underlying41 hi hz0 hz1 hz2 rfl (by decide) (.slice E5 m e5) m (flatE encL (O.take m)) rfl (by first | exact ho4 | exact ho4.alloc _) _ 1 1 [.string x.key, .string x.value] rfl rfl (by first | exact World.news_of_block (heap_alloc_new _ _) | exact World.news_of_block ((hg3.block _ (by simp <;> omega) (by simp [Value.ownBlock] <;> omega)).trans (heap_at (by simp))) | exact World.news_of_block ((hg3.block _ (by simp <;> omega) (by simp [Value.ownBlock] <;> omega)).trans ((Below.heap_alloc _ _ _ (by simp)).trans (heap_at (by simp))))) (encL_one x) (by decide) (by unfold maxLen; omega) (by omega) (by have := hb3.size; simp; omega) _ rfl ?_; intro g5 cap5 w10 ho5 hg5 ha5 hl7; have hb4 : Below w2.heap.size w2 w10 := Below.grown (bel : Below w2.heap.size w2 _) hg5 (by have := hb3.size; first | omega | (simp; omega)) (fun q hq => (World.ownsRow.lt ho4 q hq).1)))
                all_goals
                  have ho6 := Lib.hid (rowSnoc (enc := encL) (x := x) ho5 Htl.out)
                  clear ho5 hg5 ha5 ho3 hg3 ha3 ho4
                  go_wp2_with fail
                  go_meet
                  exact ⟨g5, cap5, rfl, ho6.out, hb4⟩
              case rest =>
                obtain ⟨g5, cap5, rfl, hR5, hb5⟩ := hcut
                have HSd4 := Sl_Label.now HSd.out hb5
                rw [Nat.zero_add] at HSd4
                obtain ⟨v6, w6, hr6, hR6, hg6, ha6⟩ := run_append_rows (P := Tryz.prog) (enc := encL) (C := C_Label) wc 41 41 w2.heap.size 98 i0 (.agg #[.string ⟨#[]⟩, .string ⟨#[]⟩]) 2 32 Tryz.underlying41 hi hz0 hz1 hz2 rfl (by decide) encL_len encL_one encL_C (.slice (some ⟨g5, 0, none⟩) (m + 1) cap5) (m + 1) (O.take m ++ [x]) (by rw [List.length_append, Htl.out]; rfl) hR5 (O.drop m) (some ⟨g, m * 2, none⟩) (O.length - m) (c5 - m) _ _ (by rw [List.length_drop]) HSd4 (by unfold maxLen; omega) (by omega) hb5.size
                obtain ⟨g6, c6, -, he6, -, -, -, -, -, -⟩ := hR6.row encL_len (by simp <;> omega)
                rw [← hins.out] at hR6 he6
                subst he6
                have hb6 := Below.grown hb5 hg6 hb5.size (fun q hq => (World.ownsRow.lt hR5 q hq).1)
                have Bq6 := hbr.trans ((Bq.trans (hb6.mono Bq.size)).mono hbr.size)
                have HR6 := Lib.hid (hR6.less (Nat.le_trans hbr.size Bq.size))
                have hOc1 : (O.length : Int) ≤ c5 := by omega
                clear hR6 hg6 ha6 hR5 hb6 HSd4
                go_wp2_with (at_builtin; refine wpList_append_of rfl (.tmp 53) (.tmp 56) 41 rfl _ _ _ w6 rfl rfl hr6 ?_)
                clear hr6
                go_roundw
                case rel => exact ⟨k + 1, g6, c6, by omega, by go_num, rfl, HR6.out, Bq6⟩
                case measure => simp [intOf]; omega
          · have hpl := Lib.hid (show placeB leL O x = m by omega)
            have HmO := Lib.hid (show m = O.length by omega)
            have hins := Lib.hid (show stL (l.take (k + 1)) = O.take m ++ [x] ++ O.drop m by rw [stL_step Hx.out, ← HOO.out]; unfold insL; rw [hpl.out])
            have hmO8 : m ≤ O.length := by omega
            have hnn : ¬ (m : Int) < O.length := by omega
            have hn2 : decide (m < O.length) = false := decide_eq_false hlt2
            clear hm hmO hlt2 hrow hg2
            go_wp2_with fail
            refine wp_region_det 17 (by kernel_rfl) (by kernel_rfl) (by decide) ?_
            apply Exists.intro
            refine And.intro ?_ ?_
            · (intro W hW; (try simp only [Act.put, List.setIfInBounds_toArray, List.set_cons_zero, List.set_cons_succ]); first | (go_wp2_with fail; exact ⟨rfl, rfl, Below.refl _ _⟩))
            apply Exists.intro
            refine And.intro ?_ ?_
            · (intro W hW; (try simp only [Act.put, List.setIfInBounds_toArray, List.set_cons_zero, List.set_cons_succ]); first | (go_wp2_with fail; exact ⟨rfl, rfl, Below.refl _ _⟩))
            apply Exists.intro
            refine And.intro ?_ ?_
            · (intro W hW; (try simp only [Act.put, List.setIfInBounds_toArray, List.set_cons_zero, List.set_cons_succ]); first | (go_wp2_with fail; exact ⟨rfl, rfl, Below.refl _ _⟩))
            apply Exists.intro
            refine And.intro ?_ ?_
            · (intro W hW; (try simp only [Act.put, List.setIfInBounds_toArray, List.set_cons_zero, List.set_cons_succ]); first | (go_wp2_with fail; exact ⟨rfl, rfl, Below.refl _ _⟩))
            apply Exists.intro
            refine And.intro ?_ ?_
            · (intro W hW; (try simp only [Act.put, List.setIfInBounds_toArray, List.set_cons_zero, List.set_cons_succ]); first | (go_wp2_with fail; exact ⟨rfl, rfl, Below.refl _ _⟩))
            apply Exists.intro
            refine And.intro ?_ ?_
            · (intro W hW; (try simp only [Act.put, List.setIfInBounds_toArray, List.set_cons_zero, List.set_cons_succ]); first | (exact wpList_skip rfl ⟨rfl, rfl, Below.refl _ _⟩) | (go_wp2_with fail; exact ⟨rfl, rfl, Below.refl _ _⟩))
            apply Exists.intro
            refine And.intro ?_ ?_
            · (intro W hW; (try simp only [Act.put, List.setIfInBounds_toArray, List.set_cons_zero, List.set_cons_succ]); first | (exact wpList_skip rfl ⟨rfl, rfl, Below.refl _ _⟩) | (go_wp2_with fail; exact ⟨rfl, rfl, Below.refl _ _⟩))
            apply Exists.intro
            refine And.intro ?_ ?_
            · (intro W hW; (try simp only [Act.put, List.setIfInBounds_toArray, List.set_cons_zero, List.set_cons_succ]); first | (exact wpList_skip rfl ⟨rfl, rfl, Below.refl _ _⟩) | (go_wp2_with fail; exact ⟨rfl, rfl, Below.refl _ _⟩))
            apply Exists.intro
            refine And.intro ?_ ?_
            · (intro W hW; (try simp only [Act.put, List.setIfInBounds_toArray, List.set_cons_zero, List.set_cons_succ]); first | (exact wpList_skip rfl ⟨rfl, rfl, Below.refl _ _⟩) | (go_wp2_with fail; exact ⟨rfl, rfl, Below.refl _ _⟩))
            apply Exists.intro
            refine And.intro ?_ ?_
            · (intro W hW; (try simp only [Act.put, List.setIfInBounds_toArray, List.set_cons_zero, List.set_cons_succ]); first | (exact wpList_skip rfl ⟨rfl, rfl, Below.refl _ _⟩) | (obtain ⟨hcW, hfW⟩ := bcell hW; have hsW := hW.size; (try simp at hsW); (try have hsW0 := lt_of_succ_le hsW); (try (have hsW1 := lt_pred hsW; (try (have hsW2 := lt_pred hsW1)))); go_wp2_with fail; exact ⟨rfl, rfl, Below.refl _ _⟩))
            apply Exists.intro
            refine And.intro ?_ ?_
            · (intro W hW; (try simp only [Act.put, List.setIfInBounds_toArray, List.set_cons_zero, List.set_cons_succ]); first | (exact wpList_skip rfl ⟨rfl, rfl, Below.refl _ _⟩) | (go_wp2_with fail; exact ⟨rfl, rfl, Below.refl _ _⟩))
            apply Exists.intro
            refine And.intro ?_ ?_
            · (intro W hW; (try simp only [Act.put, List.setIfInBounds_toArray, List.set_cons_zero, List.set_cons_succ]); first | (exact wpList_skip rfl ⟨rfl, rfl, Below.refl _ _⟩) | (go_wp2_with fail; exact ⟨rfl, rfl, Below.refl _ _⟩))
            apply Exists.intro
            refine And.intro ?_ ?_
            · (intro W hW; (try simp only [Act.put, List.setIfInBounds_toArray, List.set_cons_zero, List.set_cons_succ]); first | (exact wpList_skip rfl ⟨rfl, rfl, Below.refl _ _⟩) | (go_wp2_with fail; exact ⟨rfl, rfl, Below.refl _ _⟩))
            apply Exists.intro
            refine And.intro ?_ ?_
            · (intro W hW; (try simp only [Act.put, List.setIfInBounds_toArray, List.set_cons_zero, List.set_cons_succ]); first | (exact wpList_skip rfl ⟨rfl, rfl, Below.refl _ _⟩) | (go_wp2_with fail; exact ⟨rfl, rfl, Below.refl _ _⟩))
            apply Exists.intro
            refine And.intro ?_ ?_
            · (intro W hW; (try simp only [Act.put, List.setIfInBounds_toArray, List.set_cons_zero, List.set_cons_succ]); first | (exact wpList_skip rfl ⟨rfl, rfl, Below.refl _ _⟩) | (obtain ⟨hcW, hfW⟩ := bcell hW; have hsW := hW.size; (try simp at hsW); (try have hsW0 := lt_of_succ_le hsW); (try (have hsW1 := lt_pred hsW; (try (have hsW2 := lt_pred hsW1)))); go_wp2_with fail; exact ⟨rfl, rfl, Below.refl _ _⟩))
            apply Exists.intro
            refine And.intro ?_ ?_
            · (intro W hW; (try simp only [Act.put, List.setIfInBounds_toArray, List.set_cons_zero, List.set_cons_succ]); first | (exact wpList_skip rfl ⟨rfl, rfl, Below.refl _ _⟩) | (go_wp2_with fail; exact ⟨rfl, rfl, Below.refl _ _⟩))
            apply Exists.intro
            refine And.intro ?_ ?_
            · (intro W hW; (try simp only [Act.put, List.setIfInBounds_toArray, List.set_cons_zero, List.set_cons_succ]); first | (go_wp2_with fail; exact ⟨rfl, rfl, Below.refl _ _⟩))
            intro w1 hb
            (first | (have hcu2 := Cum.join hcu hb; (try clear hcu); (try clear hc); (try clear hfz); (try clear hsz); (try clear hs0); (try clear hs1); (try clear hs2); (try clear hs3); (try clear hs4); ) | have hcu2 := Cum.mk hb); have hcu := hcu2; clear hcu2; obtain ⟨hc, hfz⟩ := bcell hcu.h; have hsz := hcu.h.size; (try simp at hsz); (try have hs0 := lt_of_succ_le hsz); (try (have hs1 := lt_pred hsz; (try (have hs2 := lt_pred hs1; (try (have hs3 := lt_pred hs2; (try have hs4 := lt_pred hs3)))))))
            (try simp only [Act.put, List.setIfInBounds_toArray, List.set_cons_zero, List.set_cons_succ])
            (try simp only [List.drop_succ_cons, List.drop_nil])
            have Bq := hbm.trans (hb.mono hbm.size)
            have fx0 := (hb.cell (p := ⟨b, o + k * 2, none⟩) (by simpa using hbl2)).trans hx0
            have fx1 := (hb.cell (p := ⟨b, o + k * 2 + 1, none⟩) (by simpa using hbl2)).trans hx1
            have fbl := Nat.lt_of_lt_of_le hbl2 hb.size
            obtain ⟨w2, hw2⟩ : ∃ w2, w2 = w1 := ⟨_, rfl⟩
            rw [← hw2] at Bq fx0 fx1 fbl ⊢
            (try clear hcu); (try clear hc); (try clear hfz); (try clear hs0); (try clear hs1); (try clear hsz); (try clear hb)
            clear hx0 hx1 hc0 hc1 hbl2 hw2 hnn hn2
            rcases Nat.lt_or_ge m c5 with hmcl | hmcl
            · have hmcI : (m : Int) < c5 := by omega
              have hmcn2 : ¬ c5 = m := by omega
              go_wp2_with fail
              have HO2 := HO.out.below Bq
              have B2 : Below w.heap.size w w2 := Bwr.trans (Bq.mono Bwr.size)
              have HS := Lib.hid (RowE.sl encL_len HO2 HCO.out)
              have HSt := Lib.hid (SlOf.take HS.out (k := m) (by omega))
              have HSd := Lib.hid (SlOf.drop HS.out (k := m) (by omega))
              clear HO2
              have htl : (O.take m).length = m := by rw [List.length_take]; omega
              have Htl := Lib.hid htl
              have hm9 : (m : Int) ≤ O.length := by omega
              have hm0 : (0 : Int) ≤ m := by omega
              have hmc : (m : Int) ≤ c5 := by omega
              clear htl
              go_upto_region 11 with fail
              go_cut [8] from 42 to 52 (fun s6 wx => ∃ g5 cap5 : Nat, s6 = .slice (some ⟨g5, 0, none⟩) (m + 1) cap5 ∧ RowE encL 2 98 w2.heap.size wx (O.take m ++ [x]) (.slice (some ⟨g5, 0, none⟩) (m + 1) cap5) ∧ Below w2.heap.size w2 wx)
              case first =>
                go_region_held3 (fun w' => Below w2.heap.size w2 w' ∧ (∀ xb xo, xb < w2.heap.size → w'.cell? ⟨xb, xo, none⟩ = w2.cell? ⟨xb, xo, none⟩)) (first | exact keep_drew _ | exact keep_at (by assumption) | exact keep_same (by assumption) | exact keep_alloc (by assumption) _) (first | (refine step_append_rows rfl (.tmp 42) (.tmp 45) 41 rfl w2.heap.size 98 i0 (.agg #[.string ⟨#[]⟩, .string ⟨#[]⟩]) 2 32 Tryz.underlying41 hi hz0 hz1 hz2 rfl (by decide) encL_len encL_one encL_C (.slice (some ⟨_, 0, none⟩) 0 0) 0 [] rfl rfl (by first | exact own_eq (own_empty (w := w2) rfl (Nat.le_refl _)) rfl | exact own_eq ((own_empty (w := w2) rfl (Nat.le_refl _)).alloc (.cells #[.string x.key, .string x.value] 98)) rfl | exact own_eq (own_empty (w := w2.alloc (.cells #[.string x.key, .string x.value] 98)) (by simp) (by simp)) rfl) (O.take m) (some ⟨g, 0, none⟩) m c5 _ _ rfl Htl.out (Sl_Label.now HSt.out bel) (by unfold maxLen; omega) (by omega) (by simp <;> omega) ?_; intro v3 w9 ho3 hg3 ha3; rw [List.nil_append] at ho3; obtain ⟨E5, e5, he3⟩ := RowE.form ho3; rw [Htl.out] at he3; subst he3; have hb3 : Below w2.heap.size w2 w9 := Below.grown (bel : Below w2.heap.size w2 _) hg3 (by simp <;> omega) (fun q hq => (by simp [Value.ownBlock] at hq; omega)); have ho4 : w9.ownsRow w2.heap.size 98 2 (.slice E5 m e5) m (flatE encL (O.take m)) := (by have h9 := ho3; unfold RowE at h9; rw [Htl.out] at h9; exact h9)) | (refine step_append_lies _ rfl (.tmp 46) (.tmp 51) 41 rfl w2.heap.size 98 i0 (.agg #[.string ⟨#[]⟩, .string ⟨#[]⟩]) 2 32 Tryz.underlying41 hi hz0 hz1 hz2 rfl (by decide) (.slice E5 m e5) m (flatE encL (O.take m)) rfl (by first | exact ho4 | exact ho4.alloc _) _ 1 1 [.string x.key, .string x.value] rfl rfl (by first | exact World.news_of_block (heap_alloc_new _ _) | exact World.news_of_block ((hg3.block _ (by simp <;> omega) (by simp [Value.ownBlock] <;> omega)).trans (heap_at (by simp))) | exact World.news_of_block ((hg3.block _ (by simp <;> omega) (by simp [Value.ownBlock] <;> omega)).trans ((Below.heap_alloc _ _ _ (by simp)).trans (heap_at (by simp))))) (encL_one x) (by decide) (by unfold maxLen; omega) (by omega) (by have := hb3.size; simp; omega) _ rfl ?_; intro g5 cap5 w10 ho5 hg5 ha5 hl7; have hb4 : Below w2.heap.size w2 w10 := Below.grown (bel : Below w2.heap.size w2 _) hg5 (by have := hb3.size; first | omega | (simp; omega)) (fun q hq => (World.ownsRow.lt ho4 q hq).1)))
                all_goals
                  have ho6 := Lib.hid (rowSnoc (enc := encL) (x := x) ho5 Htl.out)
                  clear ho5 hg5 ha5 ho3 hg3 ha3 ho4
                  go_wp2_with fail
                  go_meet
                  exact ⟨g5, cap5, rfl, ho6.out, hb4⟩
              case rest =>
                obtain ⟨g5, cap5, rfl, hR5, hb5⟩ := hcut
                have HSd4 := Sl_Label.now HSd.out hb5
                rw [Nat.zero_add] at HSd4
                obtain ⟨v6, w6, hr6, hR6, hg6, ha6⟩ := run_append_rows (P := Tryz.prog) (enc := encL) (C := C_Label) wc 41 41 w2.heap.size 98 i0 (.agg #[.string ⟨#[]⟩, .string ⟨#[]⟩]) 2 32 Tryz.underlying41 hi hz0 hz1 hz2 rfl (by decide) encL_len encL_one encL_C (.slice (some ⟨g5, 0, none⟩) (m + 1) cap5) (m + 1) (O.take m ++ [x]) (by rw [List.length_append, Htl.out]; rfl) hR5 (O.drop m) (some ⟨g, m * 2, none⟩) (O.length - m) (c5 - m) _ _ (by rw [List.length_drop]) HSd4 (by unfold maxLen; omega) (by omega) hb5.size
                obtain ⟨g6, c6, -, he6, -, -, -, -, -, -⟩ := hR6.row encL_len (by simp <;> omega)
                rw [← hins.out] at hR6 he6
                subst he6
                have hb6 := Below.grown hb5 hg6 hb5.size (fun q hq => (World.ownsRow.lt hR5 q hq).1)
                have Bq6 := hbr.trans ((Bq.trans (hb6.mono Bq.size)).mono hbr.size)
                have HR6 := Lib.hid (hR6.less (Nat.le_trans hbr.size Bq.size))
                have hOc1 : (O.length : Int) ≤ c5 := by omega
                clear hR6 hg6 ha6 hR5 hb6 HSd4
                go_wp2_with (at_builtin; refine wpList_append_of rfl (.tmp 53) (.tmp 56) 41 rfl _ _ _ w6 rfl rfl hr6 ?_)
                clear hr6
                go_roundw
                case rel => exact ⟨k + 1, g6, c6, by omega, by go_num, rfl, HR6.out, Bq6⟩
                case measure => simp [intOf]; omega
            · have HcM := Lib.hid (show m = c5 by have := HmO.out; omega)
              have hins := Lib.hid (show stL (l.take (k + 1)) = O.take m ++ [x] ++ [] by rw [hins.out, List.drop_eq_nil_of_le (by rw [HmO.out]; exact Nat.le_refl _)])
              obtain rfl := HcM.out
              go_wp2_with fail
              have HO2 := HO.out.below Bq
              have B2 : Below w.heap.size w w2 := Bwr.trans (Bq.mono Bwr.size)
              have HS := Lib.hid (RowE.sl encL_len HO2 HCO.out)
              have HSt := Lib.hid (SlOf.take HS.out (k := m) (by omega))
              have HSd := Lib.hid (show Sl_Label 0 w2.heap.size w2 [] (.slice (some ⟨g, 0, none⟩) 0 0) from ⟨_, 0, rfl, by simp, by omega, fun h => by simp at h⟩)
              clear HO2
              have htl : (O.take m).length = m := by rw [List.length_take]; omega
              have Htl := Lib.hid htl
              have hm9 : (m : Int) ≤ O.length := by omega
              have hm0 : (0 : Int) ≤ m := by omega
              have hmc : (m : Int) ≤ m := by omega
              clear htl
              go_upto_region 11 with fail
              go_cut [8] from 42 to 52 (fun s6 wx => ∃ g5 cap5 : Nat, s6 = .slice (some ⟨g5, 0, none⟩) (m + 1) cap5 ∧ RowE encL 2 98 w2.heap.size wx (O.take m ++ [x]) (.slice (some ⟨g5, 0, none⟩) (m + 1) cap5) ∧ Below w2.heap.size w2 wx)
              case first =>
                go_region_held3 (fun w' => Below w2.heap.size w2 w' ∧ (∀ xb xo, xb < w2.heap.size → w'.cell? ⟨xb, xo, none⟩ = w2.cell? ⟨xb, xo, none⟩)) (first | exact keep_drew _ | exact keep_at (by assumption) | exact keep_same (by assumption) | exact keep_alloc (by assumption) _) (first | (refine step_append_rows rfl (.tmp 42) (.tmp 45) 41 rfl w2.heap.size 98 i0 (.agg #[.string ⟨#[]⟩, .string ⟨#[]⟩]) 2 32 Tryz.underlying41 hi hz0 hz1 hz2 rfl (by decide) encL_len encL_one encL_C (.slice (some ⟨_, 0, none⟩) 0 0) 0 [] rfl rfl (by first | exact own_eq (own_empty (w := w2) rfl (Nat.le_refl _)) rfl | exact own_eq ((own_empty (w := w2) rfl (Nat.le_refl _)).alloc (.cells #[.string x.key, .string x.value] 98)) rfl | exact own_eq (own_empty (w := w2.alloc (.cells #[.string x.key, .string x.value] 98)) (by simp) (by simp)) rfl) (O.take m) (some ⟨g, 0, none⟩) m m _ _ rfl Htl.out (Sl_Label.now HSt.out bel) (by unfold maxLen; omega) (by omega) (by simp <;> omega) ?_; intro v3 w9 ho3 hg3 ha3; rw [List.nil_append] at ho3; obtain ⟨E5, e5, he3⟩ := RowE.form ho3; rw [Htl.out] at he3; subst he3; have hb3 : Below w2.heap.size w2 w9 := Below.grown (bel : Below w2.heap.size w2 _) hg3 (by simp <;> omega) (fun q hq => (by simp [Value.ownBlock] at hq; omega)); have ho4 : w9.ownsRow w2.heap.size 98 2 (.slice E5 m e5) m (flatE encL (O.take m)) := (by have h9 := ho3; unfold RowE at h9; rw [Htl.out] at h9; exact h9)) | (refine step_append_lies _ rfl (.tmp 46) (.tmp 51) 41 rfl w2.heap.size 98 i0 (.agg #[.string ⟨#[]⟩, .string ⟨#[]⟩]) 2 32 Tryz.underlying41 hi hz0 hz1 hz2 rfl (by decide) (.slice E5 m e5) m (flatE encL (O.take m)) rfl (by first | exact ho4 | exact ho4.alloc _) _ 1 1 [.string x.key, .string x.value] rfl rfl (by first | exact World.news_of_block (heap_alloc_new _ _) | exact World.news_of_block ((hg3.block _ (by simp <;> omega) (by simp [Value.ownBlock] <;> omega)).trans (heap_at (by simp))) | exact World.news_of_block ((hg3.block _ (by simp <;> omega) (by simp [Value.ownBlock] <;> omega)).trans ((Below.heap_alloc _ _ _ (by simp)).trans (heap_at (by simp))))) (encL_one x) (by decide) (by unfold maxLen; omega) (by omega) (by have := hb3.size; simp; omega) _ rfl ?_; intro g5 cap5 w10 ho5 hg5 ha5 hl7; have hb4 : Below w2.heap.size w2 w10 := Below.grown (bel : Below w2.heap.size w2 _) hg5 (by have := hb3.size; first | omega | (simp; omega)) (fun q hq => (World.ownsRow.lt ho4 q hq).1)))
                all_goals
                  have ho6 := Lib.hid (rowSnoc (enc := encL) (x := x) ho5 Htl.out)
                  clear ho5 hg5 ha5 ho3 hg3 ha3 ho4
                  go_wp2_with fail
                  go_meet
                  exact ⟨g5, cap5, rfl, ho6.out, hb4⟩
              case rest =>
                obtain ⟨g5, cap5, rfl, hR5, hb5⟩ := hcut
                have HSd4 := Sl_Label.now HSd.out hb5
                skip
                obtain ⟨v6, w6, hr6, hR6, hg6, ha6⟩ := run_append_rows (P := Tryz.prog) (enc := encL) (C := C_Label) wc 41 41 w2.heap.size 98 i0 (.agg #[.string ⟨#[]⟩, .string ⟨#[]⟩]) 2 32 Tryz.underlying41 hi hz0 hz1 hz2 rfl (by decide) encL_len encL_one encL_C (.slice (some ⟨g5, 0, none⟩) (m + 1) cap5) (m + 1) (O.take m ++ [x]) (by rw [List.length_append, Htl.out]; rfl) hR5 [] (some ⟨g, 0, none⟩) 0 0 _ _ rfl HSd4 (by unfold maxLen; omega) (by omega) hb5.size
                obtain ⟨g6, c6, -, he6, -, -, -, -, -, -⟩ := hR6.row encL_len (by simp <;> omega)
                rw [← hins.out] at hR6 he6
                subst he6
                have hb6 := Below.grown hb5 hg6 hb5.size (fun q hq => (World.ownsRow.lt hR5 q hq).1)
                have Bq6 := hbr.trans ((Bq.trans (hb6.mono Bq.size)).mono hbr.size)
                have HR6 := Lib.hid (hR6.less (Nat.le_trans hbr.size Bq.size))
                have hOc1 : (O.length : Int) ≤ m := by omega
                clear hR6 hg6 ha6 hR5 hb6 HSd4
                go_wp2_with (at_builtin; refine wpList_append_of rfl (.tmp 53) (.tmp 56) 41 rfl _ _ _ w6 rfl rfl hr6 ?_)
                clear hr6
                go_roundw
                case rel => exact ⟨k + 1, g6, c6, by omega, by go_num, rfl, HR6.out, Bq6⟩
                case measure => simp [intOf]; omega
      · obtain rfl : k = l.length := by omega
        have HO2 := Lib.hid (show O = stL l by have h9 := HOO.out; rw [List.take_length] at h9; exact h9)
        have HSl := Lib.hid (RowE.sl (C := C_Label) encL_len HO.out (fun d hd => HCd.out d ((stL_all l).2 d |>.1 (by rw [← HO2.out]; exact hd))))
        clear hA
        go_wp2_with fail
        refine (c_spec_LabelsOk O _ _ _ HSl.out).mono ?_
        rintro e w9 ⟨rfl, hb9⟩
        have Bw9 := Bwr.trans (hb9.mono Bwr.size)
        have HO9 := Lib.hid ((HO.out.below hb9).less Bw.size)
        have HR9 := Lib.hid ((HR.out.below hbr).below hb9)
        rcases ht : labelsB O with _ | _
        · have Hf := Lib.hid (show sortLB l = (l, false) by unfold sortLB; rw [if_neg (by omega), ← HO2.out, ht]; rfl)
          go_wp2_with fail
          go_ret2
          exact ⟨A', c', by rw [Hf.out]; rfl, by rw [Hf.out]; exact HR9.out, Bw9⟩
        · have Hf := Lib.hid (show sortLB l = (O, true) by unfold sortLB; rw [if_neg (by omega), ← HO2.out, ht]; rfl)
          go_wp2_with fail
          go_ret2
          exact ⟨some ⟨g, 0, none⟩, c5, by rw [Hf.out]; rfl, by rw [Hf.out]; exact HO9.out, Bw9⟩
end Go.Proofs.YtmhlnbihppojmaaGreat
namespace Go.Proofs.YtmhlnbihppojmaaGreat
open Go.RowKit Go.ChangeShapes Go.WideShapes Go.ChangeAt
def C_Byte (b : UInt8) (cs : List Value) : Prop := cs = [.int .u8 b.toNat]
/-- The cursor over the bytes code lies in block p; its bytes lie in blocks before it. -/
def CurAt (code : List UInt8) (p : Nat) (w : World) : Prop :=
  ∃ A c i h, w.heap[p]? = some (.cells #[.slice A code.length c, .int .i64 (i : Nat), .int .i64 h] 117 (0, 0)) ∧ I64 h ∧ i ≤ code.length ∧ code.length ≤ 1048576 ∧ SlOf C_Byte 1 0 p w code (.slice A code.length c)
structure Dr (code : List UInt8) (p : Nat) (w w' : World) : Prop where
  aside : Aside (fun b => b = p) w w'
  cur : CurAt code p w'
theorem CurAt.lt {code : List UInt8} {p : Nat} {w : World} (h : CurAt code p w) : p < w.heap.size := by
  obtain ⟨A, c, i, x, hg, -⟩ := h
  exact row_lt hg
theorem CurAt.keep {code : List UInt8} {p : Nat} {w w' : World} (h : CurAt code p w) (hb : ∀ b, b ≤ p → w'.heap[b]? = w.heap[b]?) : CurAt code p w' := by
  obtain ⟨A, c, i, x, hg, h1, h2, h3, h4⟩ := h
  exact ⟨A, c, i, x, (hb p (Nat.le_refl _)).trans hg, h1, h2, h3, SlOf.keep h4 (fun b o _ hlt => World.cell?_of_block (hb b (Nat.le_of_lt hlt))) (Nat.le_refl _) (Nat.le_refl _) (fun _ _ _ h => h)⟩
theorem CurAt.below {code : List UInt8} {p : Nat} {w w' : World} (h : CurAt code p w) (hb : Below w.heap.size w w') : CurAt code p w' := h.keep (fun b hle => hb.block b (Nat.lt_of_le_of_lt hle h.lt))
theorem Dr.refl {code : List UInt8} {p : Nat} {w : World} (h : CurAt code p w) : Dr code p w w := ⟨Aside.refl _ _, h⟩
theorem Dr.trans {code : List UInt8} {p : Nat} {a b c : World} (h : Dr code p a b) (k : Dr code p b c) : Dr code p a c := ⟨h.aside.trans k.aside, k.cur⟩
theorem Dr.step {code : List UInt8} {p : Nat} {a b c : World} (h : Dr code p a b) (k : Below b.heap.size b c) : Dr code p a c := ⟨h.aside.trans (Aside.of_below k), h.cur.below k⟩
theorem Dr.cell {code : List UInt8} {p : Nat} {a b : World} (h : Dr code p a b) {g o : Nat} (hg : g < a.heap.size) (hp : g ≠ p) : b.cell? ⟨g, o, none⟩ = a.cell? ⟨g, o, none⟩ := World.cell?_of_block (h.aside.block g hg hp)
theorem Dr.below {code : List UInt8} {p B : Nat} {a b : World} (h : Dr code p a b) (hB : B ≤ a.heap.size) (hp : B ≤ p) : Below B a b := h.aside.below hB (fun b hb => by subst hb; exact hp)
theorem Dr.pre {code : List UInt8} {p : Nat} {a b c : World} (h : Aside (fun b => b = p) a b) (k : Dr code p b c) : Dr code p a c := ⟨h.trans k.aside, k.cur⟩
theorem Dr.alloc {code : List UInt8} {p : Nat} {a b : World} (h : Dr code p a b) (o : Obj) : Dr code p a (b.alloc o) := h.step (ext_alloc (Below.refl _ _))
theorem aside_new {S : Nat → Prop} {a b : World} (h : Aside S a b) {q o : Nat} (hq : a.heap.size ≤ q) (u : Value) : Aside S a (b.setCell ⟨q, o, none⟩ u) :=
  ⟨h.os, h.tape, h.output, by have := h.size; simp [World.setCell]; omega, fun i hi hn => (Below.heap_setCell b ⟨q, o, none⟩ u i (by simp; omega)).trans (h.block i hi hn)⟩
theorem Dr.set {code : List UInt8} {p : Nat} {a b : World} (h : Dr code p a b) (hp : p < a.heap.size) {q o : Nat} (hq : a.heap.size ≤ q) (u : Value) : Dr code p a (b.setCell ⟨q, o, none⟩ u) :=
  ⟨aside_new h.aside hq u, h.cur.keep (fun i hle => Below.heap_setCell b ⟨q, o, none⟩ u i (by simp; omega))⟩
theorem Dr.cut {code : List UInt8} {p : Nat} {a b : World} {o : Obj} (h : Dr code p (a.alloc o) b) : Dr code p a b := Dr.pre (aside_alloc (Aside.refl _ _)) h
theorem Dr.block {code : List UInt8} {p : Nat} {a b : World} (h : Dr code p a b) {g : Nat} (hg : g < a.heap.size) (hp : g ≠ p) : b.heap[g]? = a.heap[g]? := h.aside.block g hg hp
theorem Dr.size {code : List UInt8} {p : Nat} {a b : World} (h : Dr code p a b) : a.heap.size ≤ b.heap.size := h.aside.size
theorem SlOf.now {D : Type} {C : D → List Value → Prop} {sz lo : Nat} {a b : World} {l : List D} {v : Value} (h : SlOf C sz lo a.heap.size a l v) (hb : Below a.heap.size a b) : SlOf C sz lo b.heap.size b l v :=
  SlOf.keep h (same_below hb) (Nat.le_refl _) hb.size (fun _ _ _ h => h)
section
variable {H : Type} {enc : TypeId × Value → H} {w : World} {base : Nat} {spare : Nat → Bool} {held : Bool} {fuel : Nat} {cs : List Value} {x : DataW H × List MemPlace} {r : Reach} {b0 : Nat} {v : Value} {d : DataW H} {p : List MemPlace}
end
end Go.Proofs.YtmhlnbihppojmaaGreat
namespace Go.Proofs.YtmhlnbihppojmaaGreat
open Go.RowKit
def SubL {D : Type} (l' l : List D) : Prop := l'.length = l.length ∧ ∀ x ∈ l', x ∈ l
theorem SubL.refl {D : Type} (l : List D) : SubL l l := ⟨rfl, fun _ h => h⟩
theorem SubL.trans {D : Type} {a b c : List D} (h : SubL a b) (k : SubL b c) : SubL a c := ⟨h.1.trans k.1, fun x hx => k.2 x (h.2 x hx)⟩
theorem mem_set {D : Type} {l : List D} {i : Nat} {x z : D} (h : z ∈ l.set i x) : z = x ∨ z ∈ l := by
  rcases List.mem_or_eq_of_mem_set h with h | h
  · exact .inr h
  · exact .inl h
theorem SubL.swap {D : Type} {l : List D} {i j : Nat} {x y : D} (hx : x ∈ l) (hy : y ∈ l) : SubL ((l.set i y).set j x) l :=
  ⟨by simp, fun z hz => by
    rcases mem_set hz with rfl | hz
    · exact hx
    · rcases mem_set hz with rfl | hz
      · exact hy
      · exact hz⟩
theorem aside_drew {S : Nat → Prop} {a b : World} (h : Aside S a b) : Aside S a b.drew := ⟨h.os, h.tape, h.output, h.size, h.block⟩
set_option maxHeartbeats 4000000 in
theorem c_swapRange (l : List Label) (N g cap base a b n : Nat) (fv : Value) (w : World) (hN : l.length = N) (h : RowE encL 2 98 base w l (.slice (some ⟨g, 0, none⟩) N cap)) (hl : N ≤ 1048576) (ha : a + n ≤ b) (hb : b + n ≤ N) :
    Calls Tryz.prog 254 #[.slice (some ⟨g, 0, none⟩) N cap, .int .i64 a, .int .i64 b, .int .i64 n, fv] w fun e w' => ∃ l' : List Label, e = .returned (.tuple #[]) ∧ SubL l' l ∧ RowE encL 2 98 base w' l' (.slice (some ⟨g, 0, none⟩) N cap) ∧ Aside (fun q => q = g) w w' := by
  subst hN
  have H := Lib.hid h
  clear h
  go_enter Tryz.func254, Tryz.ntmps254
  go_wp2_with fail
  go_loopw [10] (fun s10 wr => ∃ (k : Nat) (l' : List Label), k ≤ n ∧ s10 = .int .i64 k ∧ SubL l' l ∧ RowE encL 2 98 base wr l' (.slice (some ⟨g, 0, none⟩) l.length cap) ∧ Aside (fun q => q = g) w wr) (fun s10 _ => n - (intOf s10).toNat)
  case atStart => exact ⟨0, l, Nat.zero_le _, rfl, SubL.refl _, H.out, Aside.refl _ _⟩
  case round =>
    obtain ⟨k, l', hk, rfl, hS, hR, hA⟩ := hrel
    have HS := Lib.hid hS
    have HR := Lib.hid hR
    have HA := Lib.hid hA
    have hll : l'.length = l.length := hS.1
    by_cases hlt : k < n
    · obtain ⟨x, hx⟩ := exists_at (l := l') (k := a + k) (by omega)
      obtain ⟨y, hy⟩ := exists_at (l := l') (k := b + k) (by omega)
      obtain ⟨-, -, hcap, -, cur, hg, hcs, hrow⟩ := hR.at encL_len
      have hx0 : wr.cell? ⟨g, (a + k) * 2, none⟩ = some (.string x.key) := by rw [cell_of_row _ g _ cur _ _ hg]; exact hrow _ x hx 0 (by decide)
      have hx1 : wr.cell? ⟨g, (a + k) * 2 + 1, none⟩ = some (.string x.value) := by rw [cell_of_row _ g _ cur _ _ hg]; exact hrow _ x hx 1 (by decide)
      have hy0 : wr.cell? ⟨g, (b + k) * 2, none⟩ = some (.string y.key) := by rw [cell_of_row _ g _ cur _ _ hg]; exact hrow _ y hy 0 (by decide)
      have hy1 : wr.cell? ⟨g, (b + k) * 2 + 1, none⟩ = some (.string y.value) := by rw [cell_of_row _ g _ cur _ _ hg]; exact hrow _ y hy 1 (by decide)
      have hfz : ∀ o, wr.frozen? ⟨g, o, none⟩ = false := fun o => frozen_row hg o
      have hgl := row_lt hg
      have e0 : (0 : Int) ≤ (a : Int) + k := by omega
      have e1 : (a : Int) + k < l.length := by omega
      have e2 : (0 : Int) ≤ (b : Int) + k := by omega
      have e3 : (b : Int) + k < l.length := by omega
      have e4 : (k : Int) < n := by omega
      have n0 : ¬ (a + k) * 2 = (b + k) * 2 := by omega
      have n1 : ¬ (a + k) * 2 + 1 = (b + k) * 2 := by omega
      have n2 : ¬ (a + k) * 2 = (b + k) * 2 + 1 := by omega
      have n3 : ¬ (a + k) * 2 + 1 = (b + k) * 2 + 1 := by omega
      have HR2 := Lib.hid ((hR.store (k := a + k) encL_len (by decide) (by omega) (x := y)).store (k := b + k) encL_len (by decide) (by rw [List.length_set]; omega) (x := x))
      have HS2 := Lib.hid (SubL.trans (SubL.swap (i := a + k) (j := b + k) (List.mem_of_getElem? hx) (List.mem_of_getElem? hy)) hS)
      clear hrow hcs hS hR hA hg hx hy
      go_wp2_with fail
      have mixed : Tryz.prog.follows Departure.mixedOrders = true := by kernel_rfl
      go_big_region_o
      all_goals go_wp2
      go_roundw
      case rel => exact ⟨k + 1, _, by omega, by go_num, HS2.out, HR2.out.carry (fun _ _ => rfl), HA.out.trans (aside_drew (Aside.setCell (Aside.setCell (Aside.setCell (Aside.setCell (Aside.refl _ _) rfl) rfl) rfl) rfl))⟩
      case measure => simp [intOf]; omega
    · obtain rfl : k = n := by omega
      go_wp2_with fail
      go_end0
      exact ⟨l', rfl, HS.out, HR.out, HA.out⟩
set_option maxHeartbeats 4000000 in
theorem c_rotate (l : List Label) (N g cap base a m b : Nat) (fv : Value) (w : World) (hN : l.length = N) (h : RowE encL 2 98 base w l (.slice (some ⟨g, 0, none⟩) N cap)) (hl : N ≤ 1048576) (ham : a < m) (hmb : m < b) (hb : b ≤ N) :
    Calls Tryz.prog 246 #[.slice (some ⟨g, 0, none⟩) N cap, .int .i64 a, .int .i64 m, .int .i64 b, fv] w fun e w' => ∃ l' : List Label, e = .returned (.tuple #[]) ∧ SubL l' l ∧ RowE encL 2 98 base w' l' (.slice (some ⟨g, 0, none⟩) N cap) ∧ Aside (fun q => q = g) w w' := by
  subst hN
  have H := Lib.hid h
  clear h
  go_enter Tryz.func246, Tryz.ntmps246
  go_wp2_with fail
  go_loopw [10, 11] (fun s10 s11 wr => ∃ (i j : Nat) (l' : List Label), 0 < i ∧ 0 < j ∧ i ≤ m - a ∧ j ≤ b - m ∧ s10 = .int .i64 i ∧ s11 = .int .i64 j ∧ SubL l' l ∧ RowE encL 2 98 base wr l' (.slice (some ⟨g, 0, none⟩) l.length cap) ∧ Aside (fun q => q = g) w wr) (fun s10 s11 _ => (intOf s10).toNat + (intOf s11).toNat)
  case atStart => exact ⟨m - a, b - m, l, by omega, by omega, Nat.le_refl _, Nat.le_refl _, by go_num, by go_num, SubL.refl _, H.out, Aside.refl _ _⟩
  case round =>
    obtain ⟨i, j, l', hi, hj, hia, hjb, rfl, rfl, hS, hR, hA⟩ := hrel
    have HS := Lib.hid hS
    have HA := Lib.hid hA
    have hll : l'.length = l.length := hS.1
    have HR := Lib.hid hR
    have HLL := Lib.hid hll
    clear hS hR hA hll
    by_cases hij : i = j
    · subst hij
      go_wp2_with fail
      rw [show ((m : Int) - i) = ((m - i : Nat) : Int) by omega]
      refine (c_swapRange l' _ g cap base (m - i) m i fv _ HLL.out HR.out hl (by omega) (by omega)).mono ?_
      rintro e w1 ⟨l2, rfl, hS2, hR2, hA2⟩
      go_wp2_with fail
      go_end0
      exact ⟨l2, rfl, hS2.trans HS.out, hR2, HA.out.trans hA2⟩
    · have hne : ¬ (i : Int) = j := by omega
      by_cases hgt : j < i
      · have hgt2 : (j : Int) < i := by omega
        go_wp2_with fail
        rw [show ((m : Int) - i) = ((m - i : Nat) : Int) by omega]
        refine (c_swapRange l' _ g cap base (m - i) m j fv _ HLL.out HR.out hl (by omega) (by omega)).mono ?_
        rintro e w1 ⟨l2, rfl, hS2, hR2, hA2⟩
        go_wp2_with fail
        go_roundw
        case rel => exact ⟨i - j, j, l2, by omega, by omega, by omega, by omega, by go_num, rfl, hS2.trans HS.out, hR2, HA.out.trans hA2⟩
        case measure => simp [intOf]; omega
      · have hgt2 : ¬ (j : Int) < i := by omega
        go_wp2_with fail
        rw [show ((m : Int) - i) = ((m - i : Nat) : Int) by omega, show ((m : Int) + j - i) = ((m + j - i : Nat) : Int) by omega]
        refine (c_swapRange l' _ g cap base (m - i) (m + j - i) i fv _ HLL.out HR.out hl (by omega) (by omega)).mono ?_
        rintro e w1 ⟨l2, rfl, hS2, hR2, hA2⟩
        go_wp2_with fail
        go_roundw
        case rel => exact ⟨i, j - i, l2, by omega, by omega, by omega, by omega, rfl, by go_num, hS2.trans HS.out, hR2, HA.out.trans hA2⟩
        case measure => simp [intOf]; omega
end Go.Proofs.YtmhlnbihppojmaaGreat
