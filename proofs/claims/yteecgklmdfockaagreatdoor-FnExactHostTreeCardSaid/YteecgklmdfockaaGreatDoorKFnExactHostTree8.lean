/- Written by wip/tools/pack.py: the texts that FnExactHostTree needs, without what it does not need. No conditions. -/
import Derived.Test.YteecgklmdfockaaGreatDoorKFnExactHostTree5
import Derived.Test.YteecgklmdfockaaGreatDoorKFnExactHostTree7
import Derived.Test.YteecgklmdfockaaGreatDoorKFnExactHostTree3
import Derived.Test.YteecgklmdfockaaGreatDoorKFnExactHostTree1
import Derived.Test.YteecgklmdfockaaGreatDoorKFnExactHostTree4
import Derived.Test.YteecgklmdfockaaGreatDoorKFnExactHostTree6
import Derived.Shelf.LaysM
import Derived.Shelf.Strconv.Itoa3
namespace Go.Proofs.YteecgklmdfockaaGreatDoor
open Go.RowKit
theorem bless_trans : ∀ a b c : List UInt8, Op.bytesLess a b = true → Op.bytesLess b c = true → Op.bytesLess a c = true
  | _, _, [], _, h => by cases ‹List UInt8› <;> simp [Op.bytesLess] at h
  | [], _, _ :: _, _, _ => by simp [Op.bytesLess]
  | _ :: _, [], _ :: _, h, _ => by simp [Op.bytesLess] at h
  | x :: a, y :: b, z :: c, h1, h2 => by
    simp only [Op.bytesLess, Bool.or_eq_true, Bool.and_eq_true, decide_eq_true_eq, beq_iff_eq] at h1 h2 ⊢
    rcases h1 with h1 | ⟨rfl, h1⟩
    · rcases h2 with h2 | ⟨rfl, h2⟩
      · exact .inl (UInt8.lt_trans h1 h2)
      · exact .inl h1
    · rcases h2 with h2 | ⟨rfl, h2⟩
      · exact .inl h2
      · exact .inr ⟨rfl, bless_trans a b c h1 h2⟩
theorem lessS_trans {a b c : ByteArray} (h1 : lessS a b = true) (h2 : lessS b c = true) : lessS a c = true := bless_trans _ _ _ h1 h2
theorem chain_less {l : List Label} (h : labelsB l = true) : ∀ (k : Nat) (d : Label), l[k]? = some d → ∀ x ∈ (l.map Label.key).take k, lessS x d.key = true := by
  rw [labelsB_def, Bool.and_eq_true] at h
  have h2 := h.2
  unfold chainB at h2
  rw [List.all_eq_true] at h2
  intro k
  induction k with
  | zero => intro d _ x hx; simp at hx
  | succ k ih =>
    intro d hd x hx
    have hk : k + 1 < l.length := (List.getElem?_eq_some_iff.1 hd).1
    obtain ⟨c, hc⟩ := exists_at (l := l) (k := k) (by omega)
    have h3 := h2 (k + 1) (by simpa using hk)
    rw [stepB_succ okL lessL l k c d hc hd, Bool.and_eq_true] at h3
    rw [List.take_add_one, List.mem_append] at hx
    rcases hx with hx | hx
    · exact lessS_trans (ih c hc x hx) h3.2
    · simp [hc] at hx
      subst hx
      exact h3.2
theorem labels_short {l : List Label} (h : labelsB l = true) : l.length ≤ 6 := by
  rw [labelsB_def, Bool.and_eq_true] at h
  exact of_decide_eq_true h.1
def labelsT (l : List Label) : TreeD := if labelsB l = true then pairT (l.map Label.key) (l.map Label.value) else pairT [] []
theorem take_key {l : List Label} {k : Nat} {d : Label} (h : l[k]? = some d) : (l.map Label.key).take (k + 1) = (l.map Label.key).take k ++ [d.key] := by
  rw [List.take_add_one, List.getElem?_map, h]; rfl
theorem take_leaf {l : List Label} {k : Nat} {d : Label} (h : l[k]? = some d) : ((l.map Label.value).map leafC).take (k + 1) = ((l.map Label.value).map leafC).take k ++ [leafC d.value] := by
  rw [List.take_add_one, List.getElem?_map, List.getElem?_map, h]; rfl
theorem LeafMap.carryB {base tb : Nat} {w w' : World} {ks : List ByteArray} {css : List (List Value)} {vk vl : Value} (h : LeafMap base tb w ks css vk vl) (hb : ∀ q, q < w.heap.size → w'.heap[q]? = w.heap[q]?) : LeafMap base tb w' ks css vk vl :=
  ⟨(hb tb (row_lt h.row)).trans h.row, ownsRow_carry h.keys (fun q hq => hb q (h.keys.lt q hq).2), ownsRow_carry h.kids (fun q hq => hb q (h.kids.lt q hq).2), h.six, h.lt⟩
theorem lab_ok {lo hi : Nat} {w : World} {l : List Label} {v : Value} (h : Sl_Label lo hi w l v) : ∀ d ∈ l, d.key.size ≤ 9223372036854775807 ∧ d.value.size ≤ 9223372036854775807 := by
  intro d hd
  obtain ⟨A, c, rfl, -, -, hA⟩ := h
  obtain ⟨i, hi⟩ := List.getElem?_of_mem hd
  obtain ⟨b, o, -, -, -, hc⟩ := hA (by have := (List.getElem?_eq_some_iff.1 hi).1; omega)
  obtain ⟨es, -, -, -, h1, h2⟩ := hc i d hi
  exact ⟨h1, h2⟩
set_option maxHeartbeats 4000000 in
set_option maxRecDepth 10000 in
theorem c_impl_LabelsTree (n : Nat) (l : List Label) (v : Value) (w : World) (lo : Nat) (hs : Sl_Label lo w.heap.size w l v) :
    Calls Tryz.prog 83 #[v] w fun e w' => ∃ cs, e = .returned (.agg cs.toArray) ∧ OwnT (n + 2) (fun b => w.heap.size ≤ b ∧ b < w'.heap.size) w' (labelsT l) cs ∧ Below w.heap.size w w' := by
  have HS := hs
  obtain ⟨A, c, rfl, hlc, hcc, hA⟩ := hs
  rcases ho : labelsB l with _ | _
  · have HT := Lib.hid (show labelsT l = pairT [] [] by unfold labelsT; rw [if_neg (by rw [ho]; decide)])
    clear hA
    go_enter Tryz.func83, Tryz.ntmps83
    go_wp2_with fail
    refine (c_impl_LabelsOk l _ _ lo (HS.now bel)).mono ?_
    rintro e w1 ⟨rfl, hb⟩
    rw [ho]
    have Z := (hb.block w.heap.size (by simp; omega)).trans ((Below.heap_alloc _ _ _ (by simp)).trans (heap_at (by simp)))
    have Y := (hb.block (w.heap.size + 1) (by simp)).trans (heap_at (by simp))
    have hl := row_lt Z
    have hl2 := row_lt Y
    obtain ⟨x0, x1, x2, x3, x4, x5, xf⟩ := row6 Z
    obtain ⟨y0, y1, y2, y3, y4, y5, yf⟩ := row6 Y
    have Bw : Below w.heap.size w w1 := Below.trans bel (hb.mono (by simp; omega))
    clear Z Y hb
    go_wp2_with fail
    exact bodyPost_ret (v := .agg #[.int .i64 6, .bool false, .int .i64 0, .string ⟨#[]⟩, .slice none 0 0, .slice none 0 0]) (by simp only [results, Tryz.results83]; go_simp) rfl (tree_fin6 HT.out (Bw.trans (Aside.below (S := fun b => b = w.heap.size) (by repeat (first | (with_reducible exact Aside.refl _ _) | ((with_reducible refine aside_set ?_ ?_); (focus (simp; done))) | (with_reducible refine aside_alloc ?_))) Bw.size (fun i hi => by omega))))
  · have HT := Lib.hid (show labelsT l = pairT (l.map Label.key) (l.map Label.value) by unfold labelsT; rw [if_pos ho])
    have hl6 := labels_short ho
    have HO := Lib.hid ho
    go_enter Tryz.func83, Tryz.ntmps83
    go_wp2_with fail
    refine (c_impl_LabelsOk l _ _ lo (HS.now bel)).mono ?_
    rintro e w1 ⟨rfl, hb⟩
    rw [ho]
    obtain ⟨tb, htb⟩ : ∃ tb, tb = w.heap.size + 1 := ⟨_, rfl⟩
    have S2 : w1.heap[w.heap.size]? = some (.cells #[.int .i64 0, .bool false, .int .i64 0, .string ⟨#[]⟩, .slice none 0 0, .slice none 0 0] 30 (0, 0)) := (hb.block w.heap.size (by simp; omega)).trans ((Below.heap_alloc _ _ _ (by simp)).trans (heap_at (by simp)))
    have S3 : w1.heap[tb]? = some (.cells #[.int .i64 6, .bool false, .int .i64 0, .string ⟨#[]⟩, .slice none 0 0, .slice none 0 0] 30 (0, 0)) := by rw [htb]; exact (hb.block (w.heap.size + 1) (by simp)).trans (heap_at (by simp))
    have Bw : Below w.heap.size w w1 := Below.trans bel (hb.mono (by simp; omega))
    have htw : w.heap.size < tb := by omega
    rw [← htb]
    clear hb htb ho
    have R2 := Lib.hid S2
    have R3 := Lib.hid S3
    clear S2 S3
    go_wp2_with fail
    go_loopw [13] (fun i wr => ∃ (k : Nat) (vk vl : Value), k ≤ l.length ∧ i = .int .i64 k ∧ (LeafMap (tb + 1) tb wr ((l.map Label.key).take k) (((l.map Label.value).map leafC).take k) vk vl) ∧ wr.heap[w.heap.size]? = some (.cells #[.int .i64 0, .bool false, .int .i64 0, .string ⟨#[]⟩, .slice none 0 0, .slice none 0 0] 30 (0, 0)) ∧ Below w.heap.size w wr) (fun i _ => l.length - (intOf i).toNat)
    case atStart => exact ⟨0, .slice none 0 0, .slice none 0 0, Nat.zero_le _, rfl, leafMap_nil R3.out, R2.out, Bw⟩
    case round =>
      clear R2 R3 Bw
      obtain ⟨k, vk, vl, hk, rfl, hm, hz2, hbr⟩ := hrel
      have HM := Lib.hid hm
      have R2 := Lib.hid hz2
      obtain ⟨A4, c4, rfl⟩ := own_form hm.keys
      obtain ⟨A5, c5, rfl⟩ := own_form hm.kids
      have lt3 := row_lt hm.row
      have lt2 := row_lt hz2
      by_cases hlt : k < l.length
      · obtain ⟨b, o, rfl, -, hb2, hcell⟩ := hA (by omega)
        obtain ⟨d, hd⟩ := exists_at hlt
        obtain ⟨es, -, hcs, hC⟩ := hcell k d hd
        obtain ⟨rfl, ea0, ea1⟩ := hC
        have hc0 := (hbr.cell (p := ⟨b, o + k * 2 + 0, none⟩) (by simp; omega)).trans (hcs 0 (by omega))
        have hc1 := (hbr.cell (p := ⟨b, o + k * 2 + 1, none⟩) (by simp; omega)).trans (hcs 1 (by omega))
        simp at hc0 hc1
        have hbl : b < wr.heap.size := Nat.lt_of_lt_of_le hb2 hbr.size
        have hk0 : (0 : Int) ≤ k := by omega
        have hk1 : (k : Int) < l.length := by omega
        have Hd := Lib.hid hd
        have HA := Lib.hid hA
        clear hcs hcell hA hm hz2 hd
        go_wp2_with fail
        generalize hW : wr.alloc (.cells #[.string d.key, .string d.value] 111 (0, 0)) = W
        have S5 : W.heap[wr.heap.size]? = some (.cells #[.string d.key, .string d.value] 111 (0, 0)) := by rw [← hW]; exact heap_at rfl
        have hWb : ∀ q, q < wr.heap.size → W.heap[q]? = wr.heap[q]? := by rw [← hW]; exact fun q hq => Below.heap_alloc _ _ _ hq
        have hWs : W.heap.size = wr.heap.size + 1 := by rw [← hW]; simp
        have Bw2 : Below w.heap.size w W := by rw [← hW]; exact hbr.alloc (by omega) _
        clear hW
        obtain ⟨p0, p1, pf⟩ := row2 S5
        have l5 := row_lt S5
        have R5 := Lib.hid S5
        clear S5
        refine comb (P := ?PP) (fun hP => ?_) ?_; rotate_left 1
        · go_region_law (first | (go_simp; go_at_call 81; refine (c_impl_TextTree _ _).mono ?_; rintro e wb ⟨rfl, hbb⟩; obtain ⟨q0, q1, qf⟩ := row2 ((hbb.block wr.heap.size (by simpa using l5)).trans R5.out)) | (go_simp; go_at_call 32; refine (c_addLeaf ((l.map Label.key).take k) (((l.map Label.value).map leafC).take k) _ _ _ _ tb (tb + 1) _ (HM.out.carryB (fun q hq => (hbb.block q (show q < W.heap.size by omega)).trans (hWb q hq))) (by have := hbb.size; simp at this; omega) (by simp; omega) (by simp; omega)).mono ?_; rintro e wc ⟨vk2, vl2, rfl, hL, hbc, hzz⟩))
          all_goals
            have hbs := hbb.size
            simp at hbs
            have E2 := (hbc.block w.heap.size (by omega)).trans ((hbb.block w.heap.size (show w.heap.size < W.heap.size by omega)).trans ((hWb w.heap.size lt2).trans R2.out))
            have Bb : Below w.heap.size w wb := bel
            have Bc := Bb.trans (hbc.mono (by omega))
            rw [← take_key Hd.out, ← take_leaf Hd.out] at hL
            clear hbc hzz
            revert hL E2 Bc
            revert vk2 vl2
            revert wc
            exact hP.out
        · intro wc vk2 vl2 hL E2 Bc
          clear R2 HM
          go_wp2_with fail
          go_roundw
          case rel => exact ⟨k + 1, vk2, vl2, by omega, by go_num, hL, E2, Bc⟩
          case measure => simp [intOf]; omega
      · obtain rfl : k = l.length := by omega
        obtain ⟨t0, t1, t2, t3, t4, t5, tf⟩ := row6 hm.row
        obtain ⟨z0, z1, z2, z3, z4, z5, zf⟩ := row6 hz2
        have hm2 := hm
        rw [List.take_of_length_le (by simp), List.take_of_length_le (by simp)] at hm2
        have HM2 := Lib.hid hm2
        have e1 : (List.take l.length (l.map Label.key)).length = l.length := by simp
        have e2 : (List.take l.length ((l.map Label.value).map leafC)).length = l.length := by simp
        have hks : ∀ s ∈ l.map Label.key, s.size ≤ 9223372036854775807 := by
          intro s hs
          obtain ⟨d, hd, rfl⟩ := List.mem_map.1 hs
          exact (lab_ok HS d hd).1
        have hts : ∀ s ∈ l.map Label.value, s.size ≤ 9223372036854775807 := by
          intro s hs
          obtain ⟨d, hd, rfl⟩ := List.mem_map.1 hs
          exact (lab_ok HS d hd).2
        have HKS := Lib.hid hks
        have HTS := Lib.hid hts
        have ne1 : tb ≠ w.heap.size := by omega
        clear hA hm hz2 hm2 hks hts
        rw [e1] at t4
        rw [e2] at t5
        simp only [List.length_map] at HM2
        clear HM e1 e2
        go_wp2_with fail
        exact bodyPost_ret (v := .agg #[.int .i64 6, .bool false, .int .i64 0, .string ⟨#[]⟩, .slice A4 l.length c4, .slice A5 l.length c5]) (by simp only [results, Tryz.results83]; go_simp) rfl (tree_finL HT.out rfl HM2.out (t2 := w.heap.size) (by repeat (first | (with_reducible exact Aside.refl _ _) | ((with_reducible refine aside_set ?_ ?_); (focus (simp; done))) | (with_reducible refine aside_alloc ?_))) htw (Nat.le_refl _) HKS.out HTS.out hbr)
set_option maxHeartbeats 4000000 in
set_option maxRecDepth 10000 in
theorem c_spec_LabelsTree (n : Nat) (l : List Label) (v : Value) (w : World) (lo : Nat) (hs : Sl_Label lo w.heap.size w l v) :
    Calls Tryz.prog 70 #[v] w fun e w' => ∃ cs, e = .returned (.agg cs.toArray) ∧ OwnT (n + 2) (fun b => w.heap.size ≤ b ∧ b < w'.heap.size) w' (labelsT l) cs ∧ Below w.heap.size w w' := by
  have HS := hs
  obtain ⟨A, c, rfl, hlc, hcc, hA⟩ := hs
  rcases ho : labelsB l with _ | _
  · have HT := Lib.hid (show labelsT l = pairT [] [] by unfold labelsT; rw [if_neg (by rw [ho]; decide)])
    have hne : 0 < l.length := by
      rcases l with _ | _
      · exact absurd ho (by decide)
      · exact Nat.succ_pos _
    have hne2 : (0 : Int) < l.length := by omega
    clear hA
    go_enter Tryz.func70, Tryz.ntmps70
    go_wp2_with fail
    go_loopw [4] (fun i wr => i = .int .i64 0 ∧ wr.heap[w.heap.size + 1]? = some (.cells #[.int .i64 6, .bool false, .int .i64 0, .string ⟨#[]⟩, .slice none 0 0, .slice none 0 0] 30 (0, 0)) ∧ wr.heap[w.heap.size]? = some (.cells #[.int .i64 0, .bool false, .int .i64 0, .string ⟨#[]⟩, .slice none 0 0, .slice none 0 0] 30 (0, 0)) ∧ Below w.heap.size w wr) (fun _ _ => 0)
    case atStart => exact ⟨rfl, heap_at (by simp), (Below.heap_alloc _ _ _ (by simp)).trans (heap_at (by simp)), bel⟩
    case round =>
      obtain ⟨rfl, hm, hz, hbr⟩ := hrel
      go_wp2_with fail
      refine (c_spec_LabelsOk l _ _ lo (HS.now hbr)).mono ?_
      rintro e w1 ⟨rfl, hb⟩
      rw [ho]
      have hr1 := row_lt hm
      have hr2 := row_lt hz
      have Z := (hb.block w.heap.size hr2).trans hz
      have Y := (hb.block (w.heap.size + 1) hr1).trans hm
      have hl := row_lt Z
      have hl2 := row_lt Y
      obtain ⟨x0, x1, x2, x3, x4, x5, xf⟩ := row6 Z
      obtain ⟨y0, y1, y2, y3, y4, y5, yf⟩ := row6 Y
      have Bw : Below w.heap.size w w1 := hbr.trans (hb.mono (by omega))
      clear Z Y hb hm hz hbr
      go_wp2_with fail
      exact bodyPost_ret (v := .agg #[.int .i64 6, .bool false, .int .i64 0, .string ⟨#[]⟩, .slice none 0 0, .slice none 0 0]) (by simp only [results, Tryz.results70]; go_simp) rfl (tree_fin6 HT.out (Bw.trans (Aside.below (S := fun b => b = w.heap.size) (by repeat (first | (with_reducible exact Aside.refl _ _) | ((with_reducible refine aside_set ?_ ?_); (focus (simp; done))) | (with_reducible refine aside_alloc ?_))) Bw.size (fun i hi => by omega))))
  · have HT := Lib.hid (show labelsT l = pairT (l.map Label.key) (l.map Label.value) by unfold labelsT; rw [if_pos ho])
    have hl6 := labels_short ho
    have HO := Lib.hid ho
    have Hch := Lib.hid (chain_less ho)
    have hks : ∀ s ∈ l.map Label.key, s.size ≤ 9223372036854775807 := by
      intro s hs
      obtain ⟨d, hd, rfl⟩ := List.mem_map.1 hs
      exact (lab_ok HS d hd).1
    have hts : ∀ s ∈ l.map Label.value, s.size ≤ 9223372036854775807 := by
      intro s hs
      obtain ⟨d, hd, rfl⟩ := List.mem_map.1 hs
      exact (lab_ok HS d hd).2
    have HKS := Lib.hid hks
    have HTS := Lib.hid hts
    obtain ⟨tb, htb⟩ : ∃ tb, tb = w.heap.size + 1 := ⟨_, rfl⟩
    have htw : w.heap.size < tb := by omega
    clear ho hks hts
    go_enter Tryz.func70, Tryz.ntmps70
    go_wp2_with fail
    rw [← htb]
    go_loopw [4] (fun i wr => ∃ (k : Nat) (A4 : Option Addr) (c4 : Nat) (A5 : Option Addr) (c5 : Nat), k ≤ l.length ∧ i = .int .i64 k ∧ MapRows (tb + 1) wr ((l.map Label.key).take k) (((l.map Label.value).map leafC).take k) (.slice A4 k c4) (.slice A5 k c5) ∧ wr.heap[tb]? = some (.cells #[.int .i64 6, .bool false, .int .i64 0, .string ⟨#[]⟩, .slice A4 k c4, .slice A5 k c5] 30 (0, 0)) ∧ wr.heap[w.heap.size]? = some (.cells #[.int .i64 0, .bool false, .int .i64 0, .string ⟨#[]⟩, .slice none 0 0, .slice none 0 0] 30 (0, 0)) ∧ Below w.heap.size w wr) (fun i _ => l.length - (intOf i).toNat)
    case atStart => exact ⟨0, none, 0, none, 0, Nat.zero_le _, rfl, mapRows_nil, by rw [htb]; exact heap_at (by simp), (Below.heap_alloc _ _ _ (by simp)).trans (heap_at (by simp)), bel⟩
    case round =>
      subst htb
      obtain ⟨k, A4, c4, A5, c5, hk, rfl, hm, hz3, hz2, hbr⟩ := hrel
      have HM := Lib.hid hm
      have R2 := Lib.hid hz2
      have R3 := Lib.hid hz3
      have lt3 := row_lt hz3
      have lt2 := row_lt hz2
      obtain ⟨t0, t1, t2, t3, t4, t5, tf⟩ := row6 hz3
      by_cases hlt : k < l.length
      · obtain ⟨b, o, rfl, -, hb2, hcell⟩ := hA (by omega)
        obtain ⟨d, hd⟩ := exists_at hlt
        obtain ⟨es, -, hcs, hC⟩ := hcell k d hd
        obtain ⟨rfl, ea0, ea1⟩ := hC
        have hc0 := (hbr.cell (p := ⟨b, o + k * 2 + 0, none⟩) (by simp; omega)).trans (hcs 0 (by omega))
        have hc1 := (hbr.cell (p := ⟨b, o + k * 2 + 1, none⟩) (by simp; omega)).trans (hcs 1 (by omega))
        simp at hc0 hc1
        have hbl : b < wr.heap.size := Nat.lt_of_lt_of_le hb2 hbr.size
        have hk0 : (0 : Int) ≤ k := by omega
        have hk1 : (k : Int) < l.length := by omega
        have Hd := Lib.hid hd
        have HA := Lib.hid hA
        clear hcs hcell hA hm hz2 hz3 hd
        go_wp2_with fail
        refine (c_spec_LabelsOk l _ _ lo (HS.now hbr)).mono ?_
        rintro e W ⟨rfl, hb⟩
        rw [HO.out]
        have S2 := (hb.block w.heap.size lt2).trans R2.out
        have S3 := (hb.block (w.heap.size + 1) lt3).trans R3.out
        have HMW := Lib.hid (HM.out.carry hb)
        have d0 := (hb.cell (p := ⟨b, o + k * 2, none⟩) hbl).trans hc0
        have d1 := (hb.cell (p := ⟨b, o + k * 2 + 1, none⟩) hbl).trans hc1
        have dl : b < W.heap.size := Nat.lt_of_lt_of_le hbl hb.size
        have Bw := hbr.trans (hb.mono hbr.size)
        clear t0 t1 t2 t3 t4 t5 tf hc0 hc1 hbl R2 R3 HM lt2 lt3 hbr hb
        obtain ⟨t0, t1, t2, t3, t4, t5, tf⟩ := row6 S3
        have lt2 := row_lt S2
        have lt3 := row_lt S3
        have R2 := Lib.hid S2
        have R3 := Lib.hid S3
        clear S2 S3
        go_wp2_with fail
        refine comb (P := ?PP) (fun hP => ?_) ?_; rotate_left 1
        · go_region_law (first | (go_simp; go_at_call 68; refine (c_spec_TextTree _ _).mono ?_; rintro e wb ⟨rfl, hbb⟩; have e0 := (hbb.cell (p := ⟨b, o + k * 2, none⟩) (by simpa using dl)).trans d0; obtain ⟨q0, q1, q2, q3, q4, q5, qf⟩ := row6 ((hbb.block (w.heap.size + 1) (by simpa using lt3)).trans R3.out)) | (go_simp; go_at_call 24; refine (c_l20Put ((l.map Label.key).take k) (((l.map Label.value).map leafC).take k) _ _ _ _ _ _ _ _ _ none none 0 0 0 0 _ _ (w.heap.size + 1 + 1) _ (MapRows.carryB (w := W) HMW.out (fun q hq => hbb.block q hq)) (by simp) (fun x hx => HKS.out x (List.mem_of_mem_take hx)) (Hch.out k d Hd.out) (by simp; omega)).mono ?_; rintro e wc ⟨vk1, vl1, rfl, hmc, hbc⟩; have hch : ∀ q, q < W.heap.size → wc.heap[q]? = W.heap[q]? := (fun q hq => (hbc.block q (Nat.lt_of_lt_of_le hq hbb.size)).trans (hbb.block q hq)); obtain ⟨qc0, qc1, qc2, qc3, qc4, qc5, qcf⟩ := row6 ((hch (w.heap.size + 1) lt3).trans R3.out); have lc := row_lt ((hch (w.heap.size + 1) lt3).trans R3.out); obtain ⟨B4, d4, rfl⟩ := own_form hmc.keys; obtain ⟨B5, d5, rfl⟩ := own_form hmc.kids))
          all_goals
            have C3 := (hch (w.heap.size + 1) lt3).trans R3.out
            have Bc : Below w.heap.size w wc := bel
            have hmc2 : MapRows wb.heap.size wc ((l.map Label.key).take k ++ [d.key]) (((l.map Label.value).map leafC).take k ++ [leafC d.value]) (.slice B4 ((l.map Label.key).take k ++ [d.key]).length d4) (.slice B5 (((l.map Label.value).map leafC).take k ++ [leafC d.value]).length d5) := hmc
            rw [show ((l.map Label.key).take k ++ [d.key]).length = k + 1 by simp; omega, show (((l.map Label.value).map leafC).take k ++ [leafC d.value]).length = k + 1 by simp; omega, ← take_key Hd.out, ← take_leaf Hd.out] at hmc2
            generalize hW : ((((((wc.setCell ⟨w.heap.size + 1, 0, none⟩ (.int .i64 6)).setCell ⟨w.heap.size + 1, 1, none⟩ (.bool false)).setCell ⟨w.heap.size + 1, 2, none⟩ (.int .i64 0)).setCell ⟨w.heap.size + 1, 3, none⟩ (.string ⟨#[]⟩)).setCell ⟨w.heap.size + 1, 4, none⟩ (.slice B4 (k + 1) d4)).setCell ⟨w.heap.size + 1, 5, none⟩ (.slice B5 (k + 1) d5)) = W2
            have hF : Aside (fun b => b = w.heap.size + 1) wc W2 := by rw [← hW]; exact (by repeat (first | (with_reducible exact Aside.refl _ _) | ((with_reducible refine aside_set ?_ ?_); (focus (simp; done))) | (with_reducible refine aside_alloc ?_)))
            have S2 := (hF.block w.heap.size (Nat.lt_trans (Nat.lt_succ_self _) lc) (by omega)).trans ((hch w.heap.size lt2).trans R2.out)
            have S3 : W2.heap[w.heap.size + 1]? = some (.cells #[.int .i64 6, .bool false, .int .i64 0, .string ⟨#[]⟩, .slice B4 (k + 1) d4, .slice B5 (k + 1) d5] 30 (0, 0)) := by rw [← hW]; exact six_set _ _ _ _ _ _ C3
            have hts : w.heap.size + 1 + 1 ≤ wb.heap.size := by have e1 := hbb.size; simp at e1; omega
            have HM2 := (hmc2.less hts).aside hF (Nat.lt_succ_self _)
            have Bw2 := Bc.trans (hF.below Bc.size (fun i hi => by omega))
            clear hW hF hmc hmc2 hch C3
            revert HM2 Bw2 S2 S3
            revert W2
            revert B4 d4 B5 d5
            exact hP.out
        · intro B4 d4 B5 d5 W2 S2 S3 HM2 Bw2
          clear R2 R3 HMW t0 t1 t2 t3 t4 t5 tf
          go_wp2_with fail
          go_roundw
          case rel => exact ⟨k + 1, B4, d4, B5, d5, by omega, by go_num, HM2, S3, S2, Bw2⟩
          case measure => simp [intOf]; omega
      · obtain rfl : k = l.length := by omega
        obtain ⟨z0, z1, z2, z3, z4, z5, zf⟩ := row6 hz2
        have hm2 := hm
        rw [List.take_of_length_le (by simp), List.take_of_length_le (by simp)] at hm2
        have HM2 := Lib.hid hm2
        have ne1 : (w.heap.size + 1) ≠ w.heap.size := by omega
        clear hA hm hz2 hm2 hz3 HM
        go_wp2_with fail
        exact bodyPost_ret (v := .agg #[.int .i64 6, .bool false, .int .i64 0, .string ⟨#[]⟩, .slice A4 l.length c4, .slice A5 l.length c5]) (by simp only [results, Tryz.results70]; go_simp) rfl (tree_finM HT.out rfl HM2.out (t2 := w.heap.size) (by repeat (first | (with_reducible exact Aside.refl _ _) | ((with_reducible refine aside_set ?_ ?_); (focus (simp; done))) | (with_reducible refine aside_alloc ?_))) (by omega) (Nat.le_refl _) HKS.out HTS.out hbr)
end Go.Proofs.YteecgklmdfockaaGreatDoor
namespace Go.Proofs.YteecgklmdfockaaGreatDoor
open Go.RowKit
theorem nTree_leaf (n : Nat) (t : ByteArray) : nTree (n + 1) (leafD t) = t.size := by rw [nTree_succ]; simp [leafD, nL, szL]
end Go.Proofs.YteecgklmdfockaaGreatDoor
namespace Go.Proofs.YteecgklmdfockaaGreatDoor
open Go.RowKit
/-- The box tb holds a map with the keys ks and the kids whose cells are css; both lie in rows of the call's own behind block base, apart from the box. -/
structure LeafMapA (base tb : Nat) (w : World) (ks : List ByteArray) (css : List (List Value)) (vk vl : Value) : Prop where
  row : w.heap[tb]? = some (.cells #[.int .i64 6, .bool false, .int .i64 0, .string ⟨#[]⟩, vk, vl] 30 (0, 0))
  keys : w.ownsRow base 9 1 vk ks.length (ks.map Value.string)
  kids : w.ownsRow base 30 6 vl css.length css.flatten
  six : ∀ es ∈ css, es.length = 6
  apk : vk.ownBlock ≠ some tb
  apl : vl.ownBlock ≠ some tb
theorem ownsRow_set_apart {w : World} {base : Nat} {e : TypeId} {size n : Nat} {v : Value} {xs : List Value} {a : Addr} (h : w.ownsRow base e size v n xs) (ha : v.ownBlock ≠ some a.block) (u : Value) : (w.setCell a u).ownsRow base e size v n xs :=
  ownsRow_carry h (fun q hq => Below.heap_setCell w a u q (fun e => ha (e ▸ hq)))
theorem leaf_fin3 {tb base g g2 cap cap2 : Nat} {w w2 wF : World} {ks : List ByteArray} {vs : List (List Value)} {key : ByteArray} {kc : List Value} {vk vl : Value} (h6 : ∀ es ∈ vs, es.length = 6) (hk6 : kc.length = 6) (hF : Aside (fun b => b = g2 ∨ b = tb) w2 wF) (hgt : g ≠ tb) (hg2t : g2 ≠ tb) (hgg : g ≠ g2)
    (hrow : wF.heap[tb]? = some (.cells #[.int .i64 6, .bool false, .int .i64 0, .string ⟨#[]⟩, .slice (some ⟨g, 0, none⟩) (ks.length + 1) cap, .slice (some ⟨g2, 0, none⟩) (vs.length + 1) cap2] 30 (0, 0)))
    (KK : w2.ownsRow base 9 1 (.slice (some ⟨g, 0, none⟩) (ks.length + 1) cap) (ks.length + 1) (ks.map Value.string ++ [.string key]))
    (hkids : wF.ownsRow base 30 6 (.slice (some ⟨g2, 0, none⟩) (vs.length + 1) cap2) (vs.length + 1) (vs.flatten ++ kc))
    (A2 : Aside (fun b => b = tb ∨ vk.ownBlock = some b ∨ vl.ownBlock = some b) w w2) (hat : vl.ownBlock = some g2 ∨ w.heap.size ≤ g2) (hatk : vk.ownBlock = some g ∨ w.heap.size ≤ g) :
    ∃ vk' vl', Ending.returned (.tuple #[]) = Ending.returned (.tuple #[]) ∧ LeafMapA base tb wF (ks ++ [key]) (vs ++ [kc]) vk' vl' ∧ Aside (fun b => b = tb ∨ vk.ownBlock = some b ∨ vl.ownBlock = some b) w wF  ∧ (∀ q, vl'.ownBlock = some q → vl.ownBlock = some q ∨ w.heap.size ≤ q) ∧ (∀ q, vk'.ownBlock = some q → vk.ownBlock = some q ∨ w.heap.size ≤ q) := by
  refine ⟨_, _, rfl, ⟨hrow, ?_, ?_, six_push h6 hk6, (fun e => by simp [Value.ownBlock] at e; exact hgt e), (fun e => by simp [Value.ownBlock] at e; exact hg2t e)⟩, ?_, fun q hq => ?_, fun q hq => ?_⟩
  · simpa using ownsRow_carry KK (fun q hq => by
      simp [Value.ownBlock] at hq
      subst hq
      have := KK.lt g rfl
      exact hF.block g this.2 (by rintro (e | e); exact hgg e; exact hgt e))
  · rw [List.flatten_append, List.length_append]
    simpa using hkids
  · exact ⟨hF.os.trans A2.os, hF.tape.trans A2.tape, hF.output.trans A2.output, Nat.le_trans A2.size hF.size, fun b hb hn => (hF.block b (Nat.lt_of_lt_of_le hb A2.size) (by
      rintro (rfl | rfl)
      · rcases hat with hat | hat
        · exact hn (.inr (.inr hat))
        · omega
      · exact hn (.inl rfl))).trans (A2.block b hb hn)⟩
  · simp [Value.ownBlock] at hq
    subst hq
    exact hat
  · simp [Value.ownBlock] at hq
    subst hq
    exact hatk
set_option maxHeartbeats 4000000 in
set_option maxRecDepth 10000 in
theorem c_addKid3 (ks : List ByteArray) (vs : List (List Value)) (key t : ByteArray) (k m : Int) (f : Bool) (B4 B5 : Option Addr) (n4 d4 n5 d5 : Nat) (vk vl : Value) (tb base : Nat) (w : World) (h : LeafMapA base tb w ks vs vk vl) (hb : base ≤ w.heap.size) (hk : ks.length ≤ 1048576) (hv : vs.length ≤ 1048576) :
    Calls Tryz.prog 32 #[.pointer (some ⟨tb, 0, none⟩), .string key, .agg #[.int .i64 k, .bool f, .int .i64 m, .string t, .slice B4 n4 d4, .slice B5 n5 d5]] w fun e w' => ∃ vk' vl', e = .returned (.tuple #[]) ∧ LeafMapA base tb w' (ks ++ [key]) (vs ++ [[.int .i64 k, .bool f, .int .i64 m, .string t, .slice B4 n4 d4, .slice B5 n5 d5]]) vk' vl' ∧ Aside (fun b => b = tb ∨ vk.ownBlock = some b ∨ vl.ownBlock = some b) w w'  ∧ (∀ q, vl'.ownBlock = some q → vl.ownBlock = some q ∨ w.heap.size ≤ q) ∧ (∀ q, vk'.ownBlock = some q → vk.ownBlock = some q ∨ w.heap.size ≤ q) := by
  obtain ⟨i0, hi, hz0, hz1, hz2⟩ := info_parts (show (Tryz.prog.info? 30).map (fun i => (i.zero, i.size, i.bytes)) = some (some (.agg #[.int .i64 0, .bool false, .int .i64 0, .string ⟨#[]⟩, .slice none 0 0, .slice none 0 0]), 6, 88) from by kernel_rfl)
  obtain ⟨j0, gi, gz0, gz1, gz2⟩ := info_parts (show (Tryz.prog.info? 9).map (fun i => (i.zero, i.size, i.bytes)) = some (some (.string ⟨#[]⟩), 1, 16) from by kernel_rfl)
  obtain ⟨hrow, hkeys, hkids, h6, hak, hal⟩ := h
  obtain ⟨A4, c4, rfl⟩ := own_form hkeys
  obtain ⟨A5, c5, rfl⟩ := own_form hkids
  obtain ⟨x0, x1, x2, x3, x4, x5, xf⟩ := row6 hrow
  have hl1 := row_lt hrow
  have hl2 : tb < w.heap.size + 1 := by omega
  have Hrow := Lib.hid hrow
  have Hkeys := Lib.hid hkeys
  have Hkids := Lib.hid hkids
  have Hap := Lib.hid (own_apart hkeys hkids (by decide))
  have Hak := Lib.hid hak
  have Hal := Lib.hid hal
  clear hrow hkeys hkids hak hal
  go_enter Tryz.func32, Tryz.ntmps32
  go_wp2_with (at_builtin; refine wpList_append_lies _ rfl (.tmp 10) (.tmp 12) 27 rfl base 9 j0 (.string ⟨#[]⟩) 1 16 Tryz.underlying27 gi gz0 gz1 gz2 rfl (by decide) _ ks.length (ks.map Value.string) rfl ((Hkeys.out.alloc _).alloc _) _ 1 1 [.string key] rfl rfl (World.news_of_block (heap_at (by simp))) (by intro u hu; simp at hu; subst hu; rfl) (by decide) (by unfold maxLen; omega) (by omega) (by simp; omega) _ rfl ?_)
  intro g cap w1 hown hgrow hat hlt1
  have hs1 := hgrow.size
  simp at hs1
  have R1 : w1.heap[tb]? = some (.cells #[.int .i64 6, .bool false, .int .i64 0, .string ⟨#[]⟩, .slice A4 ks.length c4, .slice A5 vs.length c5] 30 (0, 0)) := (hgrow.block tb (by simp; omega) (fun e => Hak.out e.symm)).trans ((Below.heap_alloc _ _ _ (by simp; omega)).trans ((Below.heap_alloc _ _ _ hl1).trans Hrow.out))
  have X1 : w1.heap[w.heap.size]? = some (.cells #[.int .i64 k, .bool f, .int .i64 m, .string t, .slice B4 n4 d4, .slice B5 n5 d5] 30 (0, 0)) := (hgrow.block w.heap.size (by simp; try omega) (fun e => by have := (Hkeys.out.lt _ e.symm).2; omega)).trans ((Below.heap_alloc _ _ _ (by simp)).trans (heap_alloc_new _ _))
  have K1 : w1.ownsRow base 30 6 (.slice A5 vs.length c5) vs.length vs.flatten := ownsRow_carry Hkids.out (fun q hq => (hgrow.block q (by have := (Hkids.out.lt q hq).2; simp; omega) (fun e => Hap.out q e.symm hq)).trans ((Below.heap_alloc _ _ _ (by have := (Hkids.out.lt q hq).2; simp; omega)).trans (Below.heap_alloc _ _ _ (Hkids.out.lt q hq).2)))
  have A1 : Aside (fun b => b = tb ∨ (Value.slice A4 ks.length c4).ownBlock = some b ∨ (Value.slice A5 vs.length c5).ownBlock = some b) w w1 := ⟨hgrow.os, hgrow.tape, hgrow.output, by omega, fun b hb1 hn => (hgrow.block b (by simp; omega) (fun e => hn (.inr (.inl e.symm)))).trans ((Below.heap_alloc _ _ _ (by simp; omega)).trans (Below.heap_alloc _ _ _ hb1))⟩
  obtain ⟨x0, x1, x2, x3, x4, x5, xf⟩ := row6 R1
  obtain ⟨y0, y1, y2, y3, y4, y5, yf⟩ := row6 X1
  have hl3 := row_lt R1
  have hl4 := row_lt X1
  have hne : w.heap.size ≠ tb := by omega
  have HR1 := Lib.hid R1
  have HX1 := Lib.hid X1
  have HK1 := Lib.hid K1
  have HA1 := Lib.hid A1
  have HO1 := Lib.hid hown
  have HG1 : (Value.slice A4 ks.length c4).ownBlock = some g ∨ w.heap.size ≤ g := by
    rcases hat with h | h
    · exact .inl h
    · right; (try simp at h); omega
  have HG1h := Lib.hid HG1
  have Hgt := Lib.hid (show g ≠ tb by rcases HG1 with h | h; intro e; subst e; exact Hak.out h; omega)
  clear R1 X1 K1 A1 hown hgrow hat HG1
  go_wp2_with fail
  go_region_law (refine step_append_lies _ rfl (.tmp 19) (.tmp 22) 28 rfl base 30 i0 (.agg #[.int .i64 0, .bool false, .int .i64 0, .string ⟨#[]⟩, .slice none 0 0, .slice none 0 0]) 6 88 Tryz.underlying28 hi hz0 hz1 hz2 rfl (by decide) _ vs.length vs.flatten rfl ((ownsRow_set_apart HK1.out Hal.out _).alloc _) _ 1 1 zeroC rfl rfl (World.news_of_block (heap_at (by simp))) (by intro u hu; simp [zeroC] at hu; rcases hu with rfl | rfl | rfl | rfl | rfl <;> rfl) (by decide) (by unfold maxLen; omega) (by omega) (by simp; omega) _ rfl ?_; intro g2 cap2 w2 hown2 hgrow2 hat2 hlt2; have T2 : w2.heap[tb]? = some (.cells #[.int .i64 6, .bool false, .int .i64 0, .string ⟨#[]⟩, .slice (some ⟨g, 0, none⟩) (ks.length + 1) cap, .slice A5 vs.length c5] 30 (0, 0)) := (hgrow2.block tb (by simp; omega) (fun e => Hal.out e.symm)).trans ((Below.heap_alloc _ _ _ (by simp; omega)).trans (heap_setCell_same w1 tb 4 _ _ _ HR1.out)); have X2 : w2.heap[w.heap.size]? = some (.cells #[.int .i64 k, .bool f, .int .i64 m, .string t, .slice B4 n4 d4, .slice B5 n5 d5] 30 (0, 0)) := (hgrow2.block w.heap.size (by simp; omega) (fun e => by have := (Hkids.out.lt _ e.symm).2; omega)).trans ((Below.heap_alloc _ _ _ (by simp; omega)).trans ((Below.heap_setCell _ _ _ _ (by simp; omega)).trans HX1.out)); obtain ⟨-, -, -, -, -, t5, tf⟩ := row6 T2; obtain ⟨u0, u1, u2, u3, u4, u5, uf⟩ := row6 X2; obtain ⟨l0, l1, l2, l3, l4, l5, lf⟩ := own_last hown2 (flat_len vs h6); have hl5 := row_lt T2; have hl6 := row_lt X2; have hg2 : g2 ≠ tb := (fun e => hat2.elim (fun h => Hal.out (e ▸ h)) (fun h => (by have h9 := hl3; rw [e] at h; (try simp at h); omega))); have ib1 : (0 : Int) ≤ (vs.length : Int) := (by omega); have ib2 : (vs.length : Int) < ((vs.length + 1 : Nat) : Int) := (by omega); have ib3 : (vs.length : Int) < (vs.length : Int) + 1 := (by omega))
  all_goals
    have S2 := hgrow2.size
    simp at S2
    have KK : w2.ownsRow base 9 1 (.slice (some ⟨g, 0, none⟩) (ks.length + 1) cap) (ks.length + 1) (ks.map Value.string ++ [.string key]) := ownsRow_carry HO1.out (fun q hq => by
      have hq2 := HO1.out.lt q hq
      exact (hgrow2.block q (by simp; omega) (fun e => own_apart HO1.out HK1.out (by decide) q hq e.symm)).trans ((Below.heap_alloc _ _ _ (by simp; omega)).trans (Below.heap_setCell _ _ _ _ (by have h9 := Hgt.out; simp [Value.ownBlock] at hq; subst hq; exact h9))))
    have hgg : g ≠ g2 := fun e => own_apart KK hown2 (by decide) g rfl (by rw [e]; rfl)
    have A2 : Aside (fun b => b = tb ∨ (Value.slice A4 ks.length c4).ownBlock = some b ∨ (Value.slice A5 vs.length c5).ownBlock = some b) w w2 := HA1.out.trans ⟨hgrow2.os, hgrow2.tape, hgrow2.output, by omega, fun b hb1 hn => (hgrow2.block b (by simp; omega) (fun e => hn (.inr (.inr e.symm)))).trans ((Below.heap_alloc _ _ _ (by simp; omega)).trans (Below.heap_setCell _ _ _ _ (fun e => hn (.inl e))))⟩
    have HG2 : (Value.slice A5 vs.length c5).ownBlock = some g2 ∨ w.heap.size ≤ g2 := by
      rcases hat2 with h | h
      · exact .inl h
      · right; simp at h; omega
    have P2 := own_put (us := [.int .i64 k, .bool f, .int .i64 m, .string t, .slice B4 n4 d4, .slice B5 n5 d5]) hown2 (flat_len vs h6) rfl rfl
    have HT2 := Lib.hid T2
    clear hgrow2 hat2 X2 T2
    go_wp2_with fail
    have KP := own_put (us := [.int .i64 k, .bool f, .int .i64 m, .string t, .slice B4 n4 d4, .slice B5 n5 d5]) (ownsRow_set_apart (a := ⟨tb, 5, none⟩) hown2 (by simp [Value.ownBlock]; exact hg2) (.slice (some ⟨g2, 0, none⟩) (vs.length + 1) cap2)) (flat_len vs h6) rfl rfl
    simp only [putCells, Nat.add_assoc, Nat.reduceAdd] at P2 KP
    refine bodyPost_end (v := .tuple #[]) (by simp only [results, Tryz.results32]; go_simp) rfl (leaf_fin3 (cap2 := cap2) h6 rfl (by repeat (first | (with_reducible exact Aside.refl _ _) | ((with_reducible refine aside_set ?_ ?_); (focus (simp; done))) | (with_reducible refine aside_alloc ?_))) Hgt.out hg2 hgg ?_ KK ?_ A2 HG2 HG1h.out)
    · first
        | ((with_reducible refine row_last (a5 := .slice A5 vs.length c5) ?_); exact Eq.trans (Aside.block (S := fun b => b = g2) (w := w2) (by repeat (first | (with_reducible exact Aside.refl _ _) | ((with_reducible refine aside_set ?_ ?_); (focus (simp; done))) | (with_reducible refine aside_alloc ?_))) tb hl5 (fun e => hg2 e.symm)) HT2.out)
        | exact Eq.trans (Aside.block (S := fun b => b = g2) (w := w2.setCell ⟨tb, 5, none⟩ (.slice (some ⟨g2, 0, none⟩) (vs.length + 1) cap2)) (by repeat (first | (with_reducible exact Aside.refl _ _) | ((with_reducible refine aside_set ?_ ?_); (focus (simp; done))) | (with_reducible refine aside_alloc ?_))) tb (by simpa using hl5) (fun e => hg2 e.symm)) (row_last HT2.out)
    · first
        | ((with_reducible refine ownsRow_set_apart (a := ⟨tb, 5, none⟩) ?_ ?_ _); exact P2; (simp [Value.ownBlock]; exact hg2))
        | exact KP
/-- The rows vk, vl hold the keys ks and the kids ts of a map; all lies behind block base, each part in blocks of its own, no kid's part in block tb. -/
def GRow (n base : Nat) (tb : Option Nat) (w : World) (ks : List ByteArray) (ts : List TreeD) (vk vl : Value) : Prop :=
  ∃ (css : List (List Value)) (F : Nat → Nat → Prop), css.length = ts.length ∧ w.ownsRow base 9 1 vk ks.length (ks.map Value.string) ∧ w.ownsRow base 30 6 vl css.length css.flatten ∧ (∀ es ∈ css, es.length = 6) ∧
    (∀ i b, F i b → base ≤ b ∧ b < w.heap.size ∧ vk.ownBlock ≠ some b ∧ vl.ownBlock ≠ some b ∧ tb ≠ some b) ∧ (∀ i j b, F i b → F j b → i = j) ∧ ∀ i d es, ts[i]? = some d → css[i]? = some es → OwnT n (F i) w d es
theorem GRow.nil (n base : Nat) (tb : Option Nat) (w : World) : GRow n base tb w [] [] (.slice none 0 0) (.slice none 0 0) :=
  ⟨[], fun _ _ => False, rfl, ⟨rfl, .inl ⟨rfl, rfl⟩⟩, ⟨rfl, .inl ⟨rfl, rfl⟩⟩, fun _ h => (by cases h), fun _ _ h => h.elim, fun _ _ _ h => h.elim, fun i d es h => (by simp at h)⟩
theorem GRow.carry {n base : Nat} {tb : Option Nat} {w w' : World} {ks : List ByteArray} {ts : List TreeD} {vk vl : Value} (h : GRow n base tb w ks ts vk vl) (hs : w.heap.size ≤ w'.heap.size) (hb : ∀ q, base ≤ q → q < w.heap.size → w'.heap[q]? = w.heap[q]?) : GRow n base tb w' ks ts vk vl := by
  obtain ⟨css, F, e, h1, h2, h3, h4, h5, h6⟩ := h
  exact ⟨css, F, e, ownsRow_carry h1 (fun q hq => hb q (h1.lt q hq).1 (h1.lt q hq).2), ownsRow_carry h2 (fun q hq => hb q (h2.lt q hq).1 (h2.lt q hq).2), h3, fun i b hF => ⟨(h4 i b hF).1, by have := (h4 i b hF).2.1; omega, (h4 i b hF).2.2⟩, h5,
    fun i d es hd he => (h6 i d es hd he).carry (fun b hF => hb b (h4 i b hF).1 (h4 i b hF).2.1) (fun _ h => h)⟩
theorem GRow.less {n base base' : Nat} {tb : Option Nat} {w : World} {ks : List ByteArray} {ts : List TreeD} {vk vl : Value} (h : GRow n base tb w ks ts vk vl) (hb : base' ≤ base) : GRow n base' tb w ks ts vk vl := by
  obtain ⟨css, F, e, h1, h2, h3, h4, h5, h6⟩ := h
  exact ⟨css, F, e, own_less h1 hb, own_less h2 hb, h3, fun i b hF => ⟨by have := (h4 i b hF).1; omega, (h4 i b hF).2⟩, h5, h6⟩
theorem GRow.up {n m base : Nat} {tb : Option Nat} {w : World} {ks : List ByteArray} {ts : List TreeD} {vk vl : Value} (h : GRow n base tb w ks ts vk vl) (hm : n ≤ m) : GRow m base tb w ks ts vk vl := by
  obtain ⟨css, F, e, h1, h2, h3, h4, h5, h6⟩ := h
  exact ⟨css, F, e, h1, h2, h3, h4, h5, fun i d es hd he => (h6 i d es hd he).up hm⟩
/-- Another box, made since. -/
theorem GRow.box {n base : Nat} {tb : Option Nat} {w : World} {ks : List ByteArray} {ts : List TreeD} {vk vl : Value} (h : GRow n base tb w ks ts vk vl) (t2 : Nat) (h2 : w.heap.size ≤ t2 ∨ t2 < base) : GRow n base (some t2) w ks ts vk vl := by
  obtain ⟨css, F, e, h1, h1b, h3, h4, h5, h6⟩ := h
  exact ⟨css, F, e, h1, h1b, h3, fun i b hF => ⟨(h4 i b hF).1, (h4 i b hF).2.1, (h4 i b hF).2.2.1, (h4 i b hF).2.2.2.1, fun e => by injection e with e; have := (h4 i b hF).1; have := (h4 i b hF).2.1; omega⟩, h5, h6⟩
theorem GRow.free {n base : Nat} {tb : Option Nat} {w : World} {ks : List ByteArray} {ts : List TreeD} {vk vl : Value} (h : GRow n base tb w ks ts vk vl) : GRow n base none w ks ts vk vl := by
  obtain ⟨css, F, e, h1, h1b, h3, h4, h5, h6⟩ := h
  exact ⟨css, F, e, h1, h1b, h3, fun i b hF => ⟨(h4 i b hF).1, (h4 i b hF).2.1, (h4 i b hF).2.2.1, (h4 i b hF).2.2.2.1, fun e => by cases e⟩, h5, h6⟩
theorem GRow.lt {n base : Nat} {tb : Option Nat} {w : World} {ks : List ByteArray} {ts : List TreeD} {vk vl : Value} (h : GRow n base tb w ks ts vk vl) : (∀ q, vk.ownBlock = some q → base ≤ q ∧ q < w.heap.size) ∧ ∀ q, vl.ownBlock = some q → base ≤ q ∧ q < w.heap.size := by
  obtain ⟨css, F, e, h1, h2, -⟩ := h
  exact ⟨fun q hq => h1.lt q hq, fun q hq => h2.lt q hq⟩
theorem GRow.form {n base : Nat} {tb : Option Nat} {w : World} {ks : List ByteArray} {ts : List TreeD} {vk vl : Value} (h : GRow n base tb w ks ts vk vl) : ∃ A4 c4 A5 c5, vk = .slice A4 ks.length c4 ∧ vl = .slice A5 ts.length c5 := by
  obtain ⟨css, F, e, h1, h2, -⟩ := h
  obtain ⟨A4, c4, rfl⟩ := own_form h1
  obtain ⟨A5, c5, rfl⟩ := own_form h2
  exact ⟨A4, c4, A5, c5, rfl, by rw [e]⟩
/-- The map as a whole. -/
theorem GRow.tree {n base : Nat} {tb : Option Nat} {w : World} {ks : List ByteArray} {ts : List TreeD} {vk vl : Value} (h : GRow n base tb w ks ts vk vl) (hk : ∀ k ∈ ks, k.size ≤ 9223372036854775807) :
    OwnT (n + 1) (fun b => base ≤ b ∧ b < w.heap.size) w ⟨6, false, 0, ⟨#[]⟩, ks, ts⟩ [.int .i64 6, .bool false, .int .i64 0, .string ⟨#[]⟩, vk, vl] := by
  obtain ⟨css, F, e, h1, h2, h3, h4, h5, h6⟩ := h
  exact own_map (n := n) (base := base) (css := css) F e h3 h1 h2 hk (fun i b hF => ⟨⟨(h4 i b hF).1, (h4 i b hF).2.1⟩, (h4 i b hF).2.2.1, (h4 i b hF).2.2.2.1⟩) h5 h6 (fun b h1 h3 => ⟨h1, h3⟩)
end Go.Proofs.YteecgklmdfockaaGreatDoor
namespace Go.Proofs.YteecgklmdfockaaGreatDoor
open Go.RowKit
theorem GRow.push {n base : Nat} {tb : Option Nat} {w w' : World} {ks : List ByteArray} {ts : List TreeD} {vk vl vk' vl' : Value} {key : ByteArray} {d : TreeD} {kc : List Value} {S : Nat → Prop}
    (css : List (List Value)) (F : Nat → Nat → Prop) (e : css.length = ts.length) (h3 : ∀ es ∈ css, es.length = 6) (B : Nat)
    (h4 : ∀ i b, F i b → base ≤ b ∧ b < B ∧ vk.ownBlock ≠ some b ∧ vl.ownBlock ≠ some b ∧ tb ≠ some b) (h5 : ∀ i j b, F i b → F j b → i = j) (h6 : ∀ i d es, ts[i]? = some d → css[i]? = some es → OwnT n (F i) w d es)
    (hk : w'.ownsRow base 9 1 vk' (ks ++ [key]).length ((ks ++ [key]).map Value.string)) (hl : w'.ownsRow base 30 6 vl' (css ++ [kc]).length (css ++ [kc]).flatten) (hkc : kc.length = 6)
    (hB : base ≤ B) (hBw : B ≤ w.heap.size) (hw : w.heap.size ≤ w'.heap.size) (hO : OwnT n S w d kc) (hS : ∀ b, S b → B ≤ b ∧ b < w.heap.size ∧ vk.ownBlock ≠ some b ∧ vl.ownBlock ≠ some b ∧ tb ≠ some b)
    (hkeep : ∀ b, b < w.heap.size → base ≤ b → vk.ownBlock ≠ some b → vl.ownBlock ≠ some b → tb ≠ some b → w'.heap[b]? = w.heap[b]?)
    (hk' : ∀ q, vk'.ownBlock = some q → vk.ownBlock = some q ∨ w.heap.size ≤ q) (hl' : ∀ q, vl'.ownBlock = some q → vl.ownBlock = some q ∨ w.heap.size ≤ q) : GRow n base tb w' (ks ++ [key]) (ts ++ [d]) vk' vl' := by
  have apart : ∀ b, b < w.heap.size → vk.ownBlock ≠ some b → vl.ownBlock ≠ some b → vk'.ownBlock ≠ some b ∧ vl'.ownBlock ≠ some b := fun b hb a1 a2 =>
    ⟨fun e => by rcases hk' b e with h | h; exact a1 h; omega, fun e => by rcases hl' b e with h | h; exact a2 h; omega⟩
  refine ⟨css ++ [kc], fun i b => (i < ts.length ∧ F i b) ∨ (i = ts.length ∧ S b), by simp [e], hk, hl, ?_, ?_, ?_, ?_⟩
  · intro x hx
    rcases List.mem_append.1 hx with hx | hx
    · exact h3 x hx
    · simp at hx; subst hx; exact hkc
  · rintro i b (⟨-, hF⟩ | ⟨-, hF⟩)
    · obtain ⟨f1, f2, f3, f4, f5⟩ := h4 i b hF
      exact ⟨f1, by omega, (apart b (by omega) f3 f4).1, (apart b (by omega) f3 f4).2, f5⟩
    · obtain ⟨f1, f2, f3, f4, f5⟩ := hS b hF
      exact ⟨by omega, by omega, (apart b f2 f3 f4).1, (apart b f2 f3 f4).2, f5⟩
  · rintro i j b (⟨hi, hF⟩ | ⟨hi, hF⟩) (⟨hj, hG⟩ | ⟨hj, hG⟩)
    · exact h5 i j b hF hG
    · have := (h4 i b hF).2.1; have := (hS b hG).1; omega
    · have := (h4 j b hG).2.1; have := (hS b hF).1; omega
    · omega
  · intro i d' es' hd' hes'
    by_cases hlt : i < ts.length
    · rw [List.getElem?_append_left hlt] at hd'
      rw [List.getElem?_append_left (by omega)] at hes'
      refine (h6 i d' es' hd' hes').carry (fun b hF => ?_) (fun b hF => .inl ⟨hlt, hF⟩)
      obtain ⟨f1, f2, f3, f4, f5⟩ := h4 i b hF
      exact hkeep b (by omega) f1 f3 f4 f5
    · have hil : i = ts.length := by
        have := (List.getElem?_eq_some_iff.1 hd').1
        simp at this
        omega
      subst hil
      rw [List.getElem?_append_right (by omega)] at hd'
      rw [List.getElem?_append_right (by omega), e] at hes'
      simp at hd' hes'
      subst hd' hes'
      refine hO.carry (fun b hb => ?_) (fun b hb => .inr ⟨rfl, hb⟩)
      obtain ⟨f1, f2, f3, f4, f5⟩ := hS b hb
      exact hkeep b f2 (by omega) f3 f4 f5
/-- The box tb holds a map under construction. -/
def GMap (n base tb : Nat) (w : World) (ks : List ByteArray) (ts : List TreeD) : Prop :=
  ∃ vk vl, w.heap[tb]? = some (.cells #[.int .i64 6, .bool false, .int .i64 0, .string ⟨#[]⟩, vk, vl] 30 (0, 0)) ∧ GRow n base (some tb) w ks ts vk vl ∧ vk.ownBlock ≠ some tb ∧ vl.ownBlock ≠ some tb
theorem GMap.nil {n base tb : Nat} {w : World} (hr : w.heap[tb]? = some (.cells #[.int .i64 6, .bool false, .int .i64 0, .string ⟨#[]⟩, .slice none 0 0, .slice none 0 0] 30 (0, 0))) : GMap n base tb w [] [] :=
  ⟨_, _, hr, GRow.nil n base (some tb) w, fun h => (by cases h), fun h => (by cases h)⟩
theorem GMap.carry {n base tb : Nat} {w w' : World} {ks : List ByteArray} {ts : List TreeD} (h : GMap n base tb w ks ts) (hb : Below w.heap.size w w') : GMap n base tb w' ks ts := by
  obtain ⟨vk, vl, hr, hg, a1, a2⟩ := h
  exact ⟨vk, vl, (hb.block tb (row_lt hr)).trans hr, hg.carry hb.size (fun q _ hq => hb.block q hq), a1, a2⟩
theorem GMap.open {n base tb : Nat} {w : World} {ks : List ByteArray} {ts : List TreeD} (h : GMap n base tb w ks ts) : ∃ (A4 A5 : Option Addr) (n4 c4 n5 c5 : Nat), w.heap[tb]? = some (.cells #[.int .i64 6, .bool false, .int .i64 0, .string ⟨#[]⟩, .slice A4 n4 c4, .slice A5 n5 c5] 30 (0, 0)) ∧ GRow n base (some tb) w ks ts (.slice A4 n4 c4) (.slice A5 n5 c5) ∧ (Value.slice A4 n4 c4).ownBlock ≠ some tb ∧ (Value.slice A5 n5 c5).ownBlock ≠ some tb := by
  obtain ⟨vk, vl, hr, hg, a1, a2⟩ := h
  obtain ⟨A4, c4, A5, c5, rfl, rfl⟩ := hg.form
  exact ⟨_, _, _, _, _, _, hr, hg, a1, a2⟩
theorem GMap.lt {n base tb : Nat} {w : World} {ks : List ByteArray} {ts : List TreeD} (h : GMap n base tb w ks ts) : tb < w.heap.size := by
  obtain ⟨vk, vl, hr, -⟩ := h
  exact row_lt hr
/-- One pair more; what the kid points to has been made since the map was last told. -/
theorem c_addKidG (n : Nat) (ks : List ByteArray) (ts : List TreeD) (key : ByteArray) (d : TreeD) (kc : List Value) (tb base : Nat) (w0 w : World) (h : GMap n base tb w0 ks ts) (hb : Below w0.heap.size w0 w) (hO : OwnT n (fun b => w0.heap.size ≤ b ∧ b < w.heap.size) w d kc) (hbase : base ≤ w0.heap.size) (hk : ks.length ≤ 1048576) (hv : ts.length ≤ 1048576) :
    Calls Tryz.prog 32 #[.pointer (some ⟨tb, 0, none⟩), .string key, .agg kc.toArray] w fun e w' => e = .returned (.tuple #[]) ∧ GMap n base tb w' (ks ++ [key]) (ts ++ [d]) ∧ (∀ B, B ≤ tb → B ≤ base → Below B w w') ∧ w.heap.size ≤ w'.heap.size := by
  obtain ⟨A4, c4, A5, c5, rfl, -⟩ := hO.flat
  obtain ⟨vk, vl, hr, hG, a1, a2⟩ := h
  obtain ⟨b1, b2⟩ := hG.lt
  obtain ⟨css, F, e, h1, h2, h3, h4, h5, h6⟩ := hG
  have hkw : w.ownsRow base 9 1 vk ks.length (ks.map Value.string) := ownsRow_carry h1 (fun q hq => hb.block q (h1.lt q hq).2)
  have hlw : w.ownsRow base 30 6 vl css.length css.flatten := ownsRow_carry h2 (fun q hq => hb.block q (h2.lt q hq).2)
  have hsz := hb.size
  have htb := row_lt hr
  refine (c_addKid3 ks css key d.text d.kind d.num d.flag A4 A5 d.keys.length c4 d.kids.length c5 vk vl tb base w ⟨(hb.block tb (row_lt hr)).trans hr, hkw, hlw, h3, a1, a2⟩ (by omega) hk (by omega)).mono ?_
  rintro e' w' ⟨vk', vl', rfl, hL, hA, hl', hk'⟩
  refine ⟨rfl, ⟨vk', vl', hL.row, ?_, hL.apk, hL.apl⟩, fun B q1 q2 => hA.below (by omega) ?_, hA.size⟩
  · refine GRow.push (B := w0.heap.size) (w := w) (vk := vk) (vl := vl) (key := key) (S := fun b => w0.heap.size ≤ b ∧ b < w.heap.size) css F e h3 h4 h5 (fun i d es hd he => (h6 i d es hd he).carry (fun b hF => hb.block b (h4 i b hF).2.1) (fun _ h => h)) hL.keys hL.kids rfl hbase hsz hA.size
      hO (fun b hb => ⟨hb.1, hb.2, fun e => by have := (b1 b e).2; omega, fun e => by have := (b2 b e).2; omega, fun e => by injection e with e; omega⟩) (fun b q1 q2 q3 q4 q5 => hA.block b q1 (by rintro (e | e | e); exact q5 (by rw [e]); exact q3 e; exact q4 e)) hk' hl'
  · rintro i (rfl | hi | hi)
    · exact q1
    · have := (hkw.lt i hi).1; omega
    · have := (hlw.lt i hi).1; omega
/-- One pair more, of the reference: new rows. -/
theorem c_l20PutG (n : Nat) (ks : List ByteArray) (ts : List TreeD) (key : ByteArray) (d : TreeD) (kc : List Value) (vk vl : Value) (base : Nat) (tb : Option Nat) (w0 w : World) (h : GRow n base tb w0 ks ts vk vl) (hb : Below w0.heap.size w0 w) (hO : OwnT n (fun b => w0.heap.size ≤ b ∧ b < w.heap.size) w d kc) (htb : ∀ q, tb = some q → q < w0.heap.size) (hbase : base ≤ w0.heap.size) (hlen : ts.length = ks.length) (hks : ∀ x ∈ ks, x.size ≤ 9223372036854775807) (hlt : ∀ x ∈ ks, lessS x key = true) (hk : ks.length ≤ 1048576) :
    Calls Tryz.prog 24 #[.agg #[.int .i64 6, .bool false, .int .i64 0, .string ⟨#[]⟩, vk, vl], .string key, .agg kc.toArray] w fun e w' => ∃ (A4 A5 : Option Addr) (n4 c4 n5 c5 : Nat), e = .returned (.agg #[.int .i64 6, .bool false, .int .i64 0, .string ⟨#[]⟩, .slice A4 n4 c4, .slice A5 n5 c5]) ∧ GRow n base tb w' (ks ++ [key]) (ts ++ [d]) (.slice A4 n4 c4) (.slice A5 n5 c5) ∧ (∀ q, (Value.slice A4 n4 c4).ownBlock = some q → w.heap.size ≤ q) ∧ (∀ q, (Value.slice A5 n5 c5).ownBlock = some q → w.heap.size ≤ q) ∧ Below w.heap.size w w' := by
  obtain ⟨A4, c4, A5, c5, rfl, -⟩ := hO.flat
  obtain ⟨b1, b2⟩ := h.lt
  obtain ⟨css, F, e, h1, h2, h3, h4, h5, h6⟩ := h
  have hkw : w.ownsRow base 9 1 vk ks.length (ks.map Value.string) := ownsRow_carry h1 (fun q hq => hb.block q (h1.lt q hq).2)
  have hlw : w.ownsRow base 30 6 vl css.length css.flatten := ownsRow_carry h2 (fun q hq => hb.block q (h2.lt q hq).2)
  have hsz := hb.size
  have hone : ∀ x ∈ css.flatten, x.oneCell' = true := by
    intro x hx
    obtain ⟨es, hes, hxe⟩ := List.mem_flatten.1 hx
    obtain ⟨i, hi⟩ := List.mem_iff_getElem?.1 hes
    have hil : i < ts.length := by rw [← e]; exact (List.getElem?_eq_some_iff.1 hi).1
    obtain ⟨t, ht⟩ := exists_at hil
    exact (h6 i t es ht hi).one x hxe
  refine (c_l20Put ks css key d.text 6 0 d.kind d.num false d.flag ⟨#[]⟩ A4 A5 d.keys.length c4 d.kids.length c5 vk vl base w ⟨hkw, hlw, h3, hone⟩ (by omega) hks hlt hk).mono ?_
  rintro e' w' ⟨vk', vl', rfl, hL, hA⟩
  obtain ⟨E4, e4, rfl⟩ := own_form hL.keys
  obtain ⟨E5, e5, rfl⟩ := own_form hL.kids
  refine ⟨_, _, _, _, _, _, rfl, ?_, fun q hq => (hL.keys.lt q hq).1, fun q hq => (hL.kids.lt q hq).1, hA⟩
  refine GRow.push (B := w0.heap.size) (w := w) (vk := vk) (vl := vl) (key := key) (S := fun b => w0.heap.size ≤ b ∧ b < w.heap.size) css F e h3 h4 h5 (fun i d es hd he => (h6 i d es hd he).carry (fun b hF => hb.block b (h4 i b hF).2.1) (fun _ h => h)) (own_less hL.keys (by omega)) (own_less hL.kids (by omega)) rfl hbase hsz hA.size
      hO (fun b hb => ⟨hb.1, hb.2, fun e => by have := (b1 b e).2; omega, fun e => by have := (b2 b e).2; omega, fun e => by have := htb b e; omega⟩) (fun b q1 _ _ _ _ => hA.block b q1) (fun q hq => .inr (hL.keys.lt q hq).1) (fun q hq => .inr (hL.kids.lt q hq).1)
/-- The rows told anew in a box: all else is as it was. -/
theorem GMap.of_put {n base tb : Nat} {w wF : World} {ks : List ByteArray} {ts : List TreeD} {A4 A5 : Option Addr} {n4 c4 n5 c5 : Nat} (h : GRow n base (some tb) w ks ts (.slice A4 n4 c4) (.slice A5 n5 c5)) (hA : Aside (fun b => b = tb) w wF)
    (hr : wF.heap[tb]? = some (.cells #[.int .i64 6, .bool false, .int .i64 0, .string ⟨#[]⟩, .slice A4 n4 c4, .slice A5 n5 c5] 30 (0, 0))) (a1 : (Value.slice A4 n4 c4).ownBlock ≠ some tb) (a2 : (Value.slice A5 n5 c5).ownBlock ≠ some tb) : GMap n base tb wF ks ts := by
  refine ⟨_, _, hr, ?_, a1, a2⟩
  obtain ⟨css, F, e, h1, h2, h3, h4, h5, h6⟩ := h
  have hz := hA.size
  refine ⟨css, F, e, ownsRow_carry h1 (fun q hq => hA.block q (h1.lt q hq).2 (fun e => a1 (by rw [hq, e]))), ownsRow_carry h2 (fun q hq => hA.block q (h2.lt q hq).2 (fun e => a2 (by rw [hq, e]))), h3, fun i b hF => ⟨(h4 i b hF).1, by have := (h4 i b hF).2.1; omega, (h4 i b hF).2.2⟩, h5,
    fun i d es hd he => (h6 i d es hd he).carry (fun b hF => hA.block b (h4 i b hF).2.1 (fun e => (h4 i b hF).2.2.2.2 (by rw [e]))) (fun _ h => h)⟩
/-- All six cells of a box turned. -/
def set6 (w : World) (tb : Nat) (v4 v5 : Value) : World := ((((((w.setCell ⟨tb, 0, none⟩ (.int .i64 6)).setCell ⟨tb, 1, none⟩ (.bool false)).setCell ⟨tb, 2, none⟩ (.int .i64 0)).setCell ⟨tb, 3, none⟩ (.string ⟨#[]⟩)).setCell ⟨tb, 4, none⟩ v4).setCell ⟨tb, 5, none⟩ v5)
theorem set6_aside (w : World) (tb : Nat) (v4 v5 : Value) : Aside (fun b => b = tb) w (set6 w tb v4 v5) := by
  unfold set6
  exact (by repeat (first | (with_reducible exact Aside.refl _ _) | ((with_reducible refine aside_set ?_ ?_); (focus (simp; done))) | (with_reducible refine aside_alloc ?_)))
end Go.Proofs.YteecgklmdfockaaGreatDoor
namespace Go.Proofs.YteecgklmdfockaaGreatDoor
open Go.Shelf
def laysItoa_ren : Go.Shelf.Ren := ⟨fun | 171 => 129 | 243 => 137 | 246 => 141 | 283 => 144 | 284 => 145 | 285 => 146 | 286 => 147 | 129 => 150 | 317 => 149 | 318 => 151 | 319 => 152 | 320 => 153 | 337 => 154 | 338 => 155 | n => n, fun | 3 => 3 | 9 => 9 | 2 => 2 | 4 => 4 | 171 => 146 | 0 => 0 | 53 => 147 | 37 => 131 | 5 => 5 | 173 => 150 | 212 => 154 | 51 => 155 | 20 => 20 | 213 => 156 | 46 => 157 | 232 => 160 | 233 => 161 | n => n, fun | 17 => 1 | 18 => 2 | 19 => 3 | n => n⟩
theorem laysItoa : Go.Proofs.LaysM.n171 Tryz.prog laysItoa_ren := {
  mixed := by kernel_rfl
  f129 := Tryz.func150.trans (congrArg some (by kernel_rfl))
  f171 := Tryz.func129.trans (congrArg some (by kernel_rfl))
  f243 := Tryz.func137.trans (congrArg some (by kernel_rfl))
  f246 := Tryz.func141.trans (congrArg some (by kernel_rfl))
  f283 := Tryz.func144.trans (congrArg some (by kernel_rfl))
  f284 := Tryz.func145.trans (congrArg some (by kernel_rfl))
  f285 := Tryz.func146.trans (congrArg some (by kernel_rfl))
  f286 := Tryz.func147.trans (congrArg some (by kernel_rfl))
  f317 := Tryz.func149.trans (congrArg some (by kernel_rfl))
  f318 := Tryz.func151.trans (congrArg some (by kernel_rfl))
  f319 := Tryz.func152.trans (congrArg some (by kernel_rfl))
  f320 := Tryz.func153.trans (congrArg some (by kernel_rfl))
  f337 := Tryz.func154.trans (congrArg some (by kernel_rfl))
  f338 := Tryz.func155.trans (congrArg some (by kernel_rfl))
  t0 := Tryz.underlying0
  a0 := Tryz.isAgg0
  z0 := Tryz.sizeOf0
  v0 := Tryz.zeroValue0
  t2 := Tryz.underlying2
  a2 := Tryz.isAgg2
  z2 := Tryz.sizeOf2
  v2 := Tryz.zeroValue2
  t3 := Tryz.underlying3
  a3 := Tryz.isAgg3
  z3 := Tryz.sizeOf3
  v3 := Tryz.zeroValue3
  t4 := Tryz.underlying4
  a4 := Tryz.isAgg4
  z4 := Tryz.sizeOf4
  v4 := Tryz.zeroValue4
  t5 := Tryz.underlying5
  a5 := Tryz.isAgg5
  z5 := Tryz.sizeOf5
  v5 := Tryz.zeroValue5
  t9 := Tryz.underlying9
  a9 := Tryz.isAgg9
  z9 := Tryz.sizeOf9
  v9 := Tryz.zeroValue9
  t20 := Tryz.underlying20
  a20 := Tryz.isAgg20
  z20 := Tryz.sizeOf20
  v20 := Tryz.zeroValue20
  t37 := Tryz.underlying131
  a37 := Tryz.isAgg131
  z37 := Tryz.sizeOf131
  v37 := Tryz.zeroValue131
  t46 := Tryz.underlying157
  a46 := Tryz.isAgg157
  z46 := Tryz.sizeOf157
  v46 := Tryz.zeroValue157
  t51 := Tryz.underlying155
  a51 := Tryz.isAgg155
  z51 := Tryz.sizeOf155
  v51 := Tryz.zeroValue155
  t53 := Tryz.underlying147
  a53 := Tryz.isAgg147
  z53 := Tryz.sizeOf147
  v53 := Tryz.zeroValue147
  t171 := Tryz.underlying146
  a171 := Tryz.isAgg146
  z171 := Tryz.sizeOf146
  v171 := Tryz.zeroValue146
  t173 := Tryz.underlying150
  a173 := Tryz.isAgg150
  z173 := Tryz.sizeOf150
  v173 := Tryz.zeroValue150
  t212 := Tryz.underlying154
  a212 := Tryz.isAgg154
  z212 := Tryz.sizeOf154
  v212 := Tryz.zeroValue154
  t213 := Tryz.underlying156
  a213 := Tryz.isAgg156
  z213 := Tryz.sizeOf156
  t232 := Tryz.underlying160
  a232 := Tryz.isAgg160
  z232 := Tryz.sizeOf160
  v232 := Tryz.zeroValue160
  t233 := Tryz.underlying161
  a233 := Tryz.isAgg161
  z233 := Tryz.sizeOf161
  v233 := Tryz.zeroValue161
  g17 := by kernel_rfl
  g18 := by kernel_rfl
  g19 := by kernel_rfl
  i0 := by kernel_rfl
  i2 := by kernel_rfl
  i3 := by kernel_rfl
  i4 := by kernel_rfl
  i5 := by kernel_rfl
  i9 := by kernel_rfl
  i20 := by kernel_rfl
  i37 := by kernel_rfl
  i46 := by kernel_rfl
  i51 := by kernel_rfl
  i53 := by kernel_rfl
  i171 := by kernel_rfl
  i173 := by kernel_rfl
  i212 := by kernel_rfl
  i232 := by kernel_rfl
  i233 := by kernel_rfl
  m17 := by kernel_rfl
  m18 := by kernel_rfl
  m19 := by kernel_rfl }
end Go.Proofs.YteecgklmdfockaaGreatDoor
