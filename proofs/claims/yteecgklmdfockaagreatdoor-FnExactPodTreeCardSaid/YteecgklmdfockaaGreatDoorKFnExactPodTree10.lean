/- Written by wip/tools/pack.py: the texts that FnExactPodTree needs, without what it does not need. No conditions. -/
import Derived.Test.YteecgklmdfockaaGreatDoorKFnExactPodTree5
import Derived.Test.YteecgklmdfockaaGreatDoorKFnExactPodTree9
namespace Go.Proofs.YteecgklmdfockaaGreatDoor
open Go.RowKit
theorem bless_trans : ∀ a b c : List UInt8, Op.bytesLess a b = true → Op.bytesLess b c = true → Op.bytesLess a c = true
  | _, _, [], _, h => by cases ‹List UInt8› <;> simp [Op.bytesLess] at h
  | [], _, _ :: _, _, _ => by simp [Op.bytesLess]
  | _ :: _, [], _ :: _, h, _ => by simp [Op.bytesLess] at h
  | x :: a, y :: b, z :: c, h1, h2 => by
    simp only [Op.bytesLess, Bool.or_eq_true, Bool.and_eq_true, decide_eq_true_eq, beq_iff_eq] at h1 h2 ⊢
    rcases h1 with h1 | ⟨rfl, h1⟩
    · rcases h2 with h2 | ⟨rfl, h2⟩
      · exact .inl (UInt8.lt_trans h1 h2)
      · exact .inl h1
    · rcases h2 with h2 | ⟨rfl, h2⟩
      · exact .inl h2
      · exact .inr ⟨rfl, bless_trans a b c h1 h2⟩
theorem lessS_trans {a b c : ByteArray} (h1 : lessS a b = true) (h2 : lessS b c = true) : lessS a c = true := bless_trans _ _ _ h1 h2
theorem chain_less {l : List Label} (h : labelsB l = true) : ∀ (k : Nat) (d : Label), l[k]? = some d → ∀ x ∈ (l.map Label.key).take k, lessS x d.key = true := by
  rw [labelsB_def, Bool.and_eq_true] at h
  have h2 := h.2
  unfold chainB at h2
  rw [List.all_eq_true] at h2
  intro k
  induction k with
  | zero => intro d _ x hx; simp at hx
  | succ k ih =>
    intro d hd x hx
    have hk : k + 1 < l.length := (List.getElem?_eq_some_iff.1 hd).1
    obtain ⟨c, hc⟩ := exists_at (l := l) (k := k) (by omega)
    have h3 := h2 (k + 1) (by simpa using hk)
    rw [stepB_succ okL lessL l k c d hc hd, Bool.and_eq_true] at h3
    rw [List.take_add_one, List.mem_append] at hx
    rcases hx with hx | hx
    · exact lessS_trans (ih c hc x hx) h3.2
    · simp [hc] at hx
      subst hx
      exact h3.2
theorem labels_short {l : List Label} (h : labelsB l = true) : l.length ≤ 6 := by
  rw [labelsB_def, Bool.and_eq_true] at h
  exact of_decide_eq_true h.1
def labelsT (l : List Label) : TreeD := if labelsB l = true then pairT (l.map Label.key) (l.map Label.value) else pairT [] []
theorem take_key {l : List Label} {k : Nat} {d : Label} (h : l[k]? = some d) : (l.map Label.key).take (k + 1) = (l.map Label.key).take k ++ [d.key] := by
  rw [List.take_add_one, List.getElem?_map, h]; rfl
theorem take_leaf {l : List Label} {k : Nat} {d : Label} (h : l[k]? = some d) : ((l.map Label.value).map leafC).take (k + 1) = ((l.map Label.value).map leafC).take k ++ [leafC d.value] := by
  rw [List.take_add_one, List.getElem?_map, List.getElem?_map, h]; rfl
theorem LeafMap.carryB {base tb : Nat} {w w' : World} {ks : List ByteArray} {css : List (List Value)} {vk vl : Value} (h : LeafMap base tb w ks css vk vl) (hb : ∀ q, q < w.heap.size → w'.heap[q]? = w.heap[q]?) : LeafMap base tb w' ks css vk vl :=
  ⟨(hb tb (row_lt h.row)).trans h.row, ownsRow_carry h.keys (fun q hq => hb q (h.keys.lt q hq).2), ownsRow_carry h.kids (fun q hq => hb q (h.kids.lt q hq).2), h.six, h.lt⟩
theorem lab_ok {lo hi : Nat} {w : World} {l : List Label} {v : Value} (h : Sl_Label lo hi w l v) : ∀ d ∈ l, d.key.size ≤ 9223372036854775807 ∧ d.value.size ≤ 9223372036854775807 := by
  intro d hd
  obtain ⟨A, c, rfl, -, -, hA⟩ := h
  obtain ⟨i, hi⟩ := List.getElem?_of_mem hd
  obtain ⟨b, o, -, -, -, hc⟩ := hA (by have := (List.getElem?_eq_some_iff.1 hi).1; omega)
  obtain ⟨es, -, -, -, h1, h2⟩ := hc i d hi
  exact ⟨h1, h2⟩
set_option maxHeartbeats 4000000 in
set_option maxRecDepth 10000 in
theorem c_impl_LabelsTree (n : Nat) (l : List Label) (v : Value) (w : World) (lo : Nat) (hs : Sl_Label lo w.heap.size w l v) :
    Calls Tryz.prog 83 #[v] w fun e w' => ∃ cs, e = .returned (.agg cs.toArray) ∧ OwnT (n + 2) (fun b => w.heap.size ≤ b ∧ b < w'.heap.size) w' (labelsT l) cs ∧ Below w.heap.size w w' := by
  have HS := hs
  obtain ⟨A, c, rfl, hlc, hcc, hA⟩ := hs
  rcases ho : labelsB l with _ | _
  · have HT := Lib.hid (show labelsT l = pairT [] [] by unfold labelsT; rw [if_neg (by rw [ho]; decide)])
    clear hA
    go_enter Tryz.func83, Tryz.ntmps83
    go_wp2_with fail
    refine (c_impl_LabelsOk l _ _ lo (HS.now bel)).mono ?_
    rintro e w1 ⟨rfl, hb⟩
    rw [ho]
    have Z := (hb.block w.heap.size (by simp; omega)).trans ((Below.heap_alloc _ _ _ (by simp)).trans (heap_at (by simp)))
    have Y := (hb.block (w.heap.size + 1) (by simp)).trans (heap_at (by simp))
    have hl := row_lt Z
    have hl2 := row_lt Y
    obtain ⟨x0, x1, x2, x3, x4, x5, xf⟩ := row6 Z
    obtain ⟨y0, y1, y2, y3, y4, y5, yf⟩ := row6 Y
    have Bw : Below w.heap.size w w1 := Below.trans bel (hb.mono (by simp; omega))
    clear Z Y hb
    go_wp2_with fail
    exact bodyPost_ret (v := .agg #[.int .i64 6, .bool false, .int .i64 0, .string ⟨#[]⟩, .slice none 0 0, .slice none 0 0]) (by simp only [results, Tryz.results83]; go_simp) rfl (tree_fin6 HT.out (Bw.trans (Aside.below (S := fun b => b = w.heap.size) (by repeat (first | (with_reducible exact Aside.refl _ _) | ((with_reducible refine aside_set ?_ ?_); (focus (simp; done))) | (with_reducible refine aside_alloc ?_))) Bw.size (fun i hi => by omega))))
  · have HT := Lib.hid (show labelsT l = pairT (l.map Label.key) (l.map Label.value) by unfold labelsT; rw [if_pos ho])
    have hl6 := labels_short ho
    have HO := Lib.hid ho
    go_enter Tryz.func83, Tryz.ntmps83
    go_wp2_with fail
    refine (c_impl_LabelsOk l _ _ lo (HS.now bel)).mono ?_
    rintro e w1 ⟨rfl, hb⟩
    rw [ho]
    obtain ⟨tb, htb⟩ : ∃ tb, tb = w.heap.size + 1 := ⟨_, rfl⟩
    have S2 : w1.heap[w.heap.size]? = some (.cells #[.int .i64 0, .bool false, .int .i64 0, .string ⟨#[]⟩, .slice none 0 0, .slice none 0 0] 30 (0, 0)) := (hb.block w.heap.size (by simp; omega)).trans ((Below.heap_alloc _ _ _ (by simp)).trans (heap_at (by simp)))
    have S3 : w1.heap[tb]? = some (.cells #[.int .i64 6, .bool false, .int .i64 0, .string ⟨#[]⟩, .slice none 0 0, .slice none 0 0] 30 (0, 0)) := by rw [htb]; exact (hb.block (w.heap.size + 1) (by simp)).trans (heap_at (by simp))
    have Bw : Below w.heap.size w w1 := Below.trans bel (hb.mono (by simp; omega))
    have htw : w.heap.size < tb := by omega
    rw [← htb]
    clear hb htb ho
    have R2 := Lib.hid S2
    have R3 := Lib.hid S3
    clear S2 S3
    go_wp2_with fail
    go_loopw [13] (fun i wr => ∃ (k : Nat) (vk vl : Value), k ≤ l.length ∧ i = .int .i64 k ∧ (LeafMap (tb + 1) tb wr ((l.map Label.key).take k) (((l.map Label.value).map leafC).take k) vk vl) ∧ wr.heap[w.heap.size]? = some (.cells #[.int .i64 0, .bool false, .int .i64 0, .string ⟨#[]⟩, .slice none 0 0, .slice none 0 0] 30 (0, 0)) ∧ Below w.heap.size w wr) (fun i _ => l.length - (intOf i).toNat)
    case atStart => exact ⟨0, .slice none 0 0, .slice none 0 0, Nat.zero_le _, rfl, leafMap_nil R3.out, R2.out, Bw⟩
    case round =>
      clear R2 R3 Bw
      obtain ⟨k, vk, vl, hk, rfl, hm, hz2, hbr⟩ := hrel
      have HM := Lib.hid hm
      have R2 := Lib.hid hz2
      obtain ⟨A4, c4, rfl⟩ := own_form hm.keys
      obtain ⟨A5, c5, rfl⟩ := own_form hm.kids
      have lt3 := row_lt hm.row
      have lt2 := row_lt hz2
      by_cases hlt : k < l.length
      · obtain ⟨b, o, rfl, -, hb2, hcell⟩ := hA (by omega)
        obtain ⟨d, hd⟩ := exists_at hlt
        obtain ⟨es, -, hcs, hC⟩ := hcell k d hd
        obtain ⟨rfl, ea0, ea1⟩ := hC
        have hc0 := (hbr.cell (p := ⟨b, o + k * 2 + 0, none⟩) (by simp; omega)).trans (hcs 0 (by omega))
        have hc1 := (hbr.cell (p := ⟨b, o + k * 2 + 1, none⟩) (by simp; omega)).trans (hcs 1 (by omega))
        simp at hc0 hc1
        have hbl : b < wr.heap.size := Nat.lt_of_lt_of_le hb2 hbr.size
        have hk0 : (0 : Int) ≤ k := by omega
        have hk1 : (k : Int) < l.length := by omega
        have Hd := Lib.hid hd
        have HA := Lib.hid hA
        clear hcs hcell hA hm hz2 hd
        go_wp2_with fail
        generalize hW : wr.alloc (.cells #[.string d.key, .string d.value] 111 (0, 0)) = W
        have S5 : W.heap[wr.heap.size]? = some (.cells #[.string d.key, .string d.value] 111 (0, 0)) := by rw [← hW]; exact heap_at rfl
        have hWb : ∀ q, q < wr.heap.size → W.heap[q]? = wr.heap[q]? := by rw [← hW]; exact fun q hq => Below.heap_alloc _ _ _ hq
        have hWs : W.heap.size = wr.heap.size + 1 := by rw [← hW]; simp
        have Bw2 : Below w.heap.size w W := by rw [← hW]; exact hbr.alloc (by omega) _
        clear hW
        obtain ⟨p0, p1, pf⟩ := row2 S5
        have l5 := row_lt S5
        have R5 := Lib.hid S5
        clear S5
        refine comb (P := ?PP) (fun hP => ?_) ?_; rotate_left 1
        · go_region_law (first | (go_simp; go_at_call 81; refine (c_impl_TextTree _ _).mono ?_; rintro e wb ⟨rfl, hbb⟩; obtain ⟨q0, q1, qf⟩ := row2 ((hbb.block wr.heap.size (by simpa using l5)).trans R5.out)) | (go_simp; go_at_call 32; refine (c_addLeaf ((l.map Label.key).take k) (((l.map Label.value).map leafC).take k) _ _ _ _ tb (tb + 1) _ (HM.out.carryB (fun q hq => (hbb.block q (show q < W.heap.size by omega)).trans (hWb q hq))) (by have := hbb.size; simp at this; omega) (by simp; omega) (by simp; omega)).mono ?_; rintro e wc ⟨vk2, vl2, rfl, hL, hbc, hzz⟩))
          all_goals
            have hbs := hbb.size
            simp at hbs
            have E2 := (hbc.block w.heap.size (by omega)).trans ((hbb.block w.heap.size (show w.heap.size < W.heap.size by omega)).trans ((hWb w.heap.size lt2).trans R2.out))
            have Bb : Below w.heap.size w wb := bel
            have Bc := Bb.trans (hbc.mono (by omega))
            rw [← take_key Hd.out, ← take_leaf Hd.out] at hL
            clear hbc hzz
            revert hL E2 Bc
            revert vk2 vl2
            revert wc
            exact hP.out
        · intro wc vk2 vl2 hL E2 Bc
          clear R2 HM
          go_wp2_with fail
          go_roundw
          case rel => exact ⟨k + 1, vk2, vl2, by omega, by go_num, hL, E2, Bc⟩
          case measure => simp [intOf]; omega
      · obtain rfl : k = l.length := by omega
        obtain ⟨t0, t1, t2, t3, t4, t5, tf⟩ := row6 hm.row
        obtain ⟨z0, z1, z2, z3, z4, z5, zf⟩ := row6 hz2
        have hm2 := hm
        rw [List.take_of_length_le (by simp), List.take_of_length_le (by simp)] at hm2
        have HM2 := Lib.hid hm2
        have e1 : (List.take l.length (l.map Label.key)).length = l.length := by simp
        have e2 : (List.take l.length ((l.map Label.value).map leafC)).length = l.length := by simp
        have hks : ∀ s ∈ l.map Label.key, s.size ≤ 9223372036854775807 := by
          intro s hs
          obtain ⟨d, hd, rfl⟩ := List.mem_map.1 hs
          exact (lab_ok HS d hd).1
        have hts : ∀ s ∈ l.map Label.value, s.size ≤ 9223372036854775807 := by
          intro s hs
          obtain ⟨d, hd, rfl⟩ := List.mem_map.1 hs
          exact (lab_ok HS d hd).2
        have HKS := Lib.hid hks
        have HTS := Lib.hid hts
        have ne1 : tb ≠ w.heap.size := by omega
        clear hA hm hz2 hm2 hks hts
        rw [e1] at t4
        rw [e2] at t5
        simp only [List.length_map] at HM2
        clear HM e1 e2
        go_wp2_with fail
        exact bodyPost_ret (v := .agg #[.int .i64 6, .bool false, .int .i64 0, .string ⟨#[]⟩, .slice A4 l.length c4, .slice A5 l.length c5]) (by simp only [results, Tryz.results83]; go_simp) rfl (tree_finL HT.out rfl HM2.out (t2 := w.heap.size) (by repeat (first | (with_reducible exact Aside.refl _ _) | ((with_reducible refine aside_set ?_ ?_); (focus (simp; done))) | (with_reducible refine aside_alloc ?_))) htw (Nat.le_refl _) HKS.out HTS.out hbr)
set_option maxHeartbeats 4000000 in
set_option maxRecDepth 10000 in
theorem c_spec_LabelsTree (n : Nat) (l : List Label) (v : Value) (w : World) (lo : Nat) (hs : Sl_Label lo w.heap.size w l v) :
    Calls Tryz.prog 70 #[v] w fun e w' => ∃ cs, e = .returned (.agg cs.toArray) ∧ OwnT (n + 2) (fun b => w.heap.size ≤ b ∧ b < w'.heap.size) w' (labelsT l) cs ∧ Below w.heap.size w w' := by
  have HS := hs
  obtain ⟨A, c, rfl, hlc, hcc, hA⟩ := hs
  rcases ho : labelsB l with _ | _
  · have HT := Lib.hid (show labelsT l = pairT [] [] by unfold labelsT; rw [if_neg (by rw [ho]; decide)])
    have hne : 0 < l.length := by
      rcases l with _ | _
      · exact absurd ho (by decide)
      · exact Nat.succ_pos _
    have hne2 : (0 : Int) < l.length := by omega
    clear hA
    go_enter Tryz.func70, Tryz.ntmps70
    go_wp2_with fail
    go_loopw [4] (fun i wr => i = .int .i64 0 ∧ wr.heap[w.heap.size + 1]? = some (.cells #[.int .i64 6, .bool false, .int .i64 0, .string ⟨#[]⟩, .slice none 0 0, .slice none 0 0] 30 (0, 0)) ∧ wr.heap[w.heap.size]? = some (.cells #[.int .i64 0, .bool false, .int .i64 0, .string ⟨#[]⟩, .slice none 0 0, .slice none 0 0] 30 (0, 0)) ∧ Below w.heap.size w wr) (fun _ _ => 0)
    case atStart => exact ⟨rfl, heap_at (by simp), (Below.heap_alloc _ _ _ (by simp)).trans (heap_at (by simp)), bel⟩
    case round =>
      obtain ⟨rfl, hm, hz, hbr⟩ := hrel
      go_wp2_with fail
      refine (c_spec_LabelsOk l _ _ lo (HS.now hbr)).mono ?_
      rintro e w1 ⟨rfl, hb⟩
      rw [ho]
      have hr1 := row_lt hm
      have hr2 := row_lt hz
      have Z := (hb.block w.heap.size hr2).trans hz
      have Y := (hb.block (w.heap.size + 1) hr1).trans hm
      have hl := row_lt Z
      have hl2 := row_lt Y
      obtain ⟨x0, x1, x2, x3, x4, x5, xf⟩ := row6 Z
      obtain ⟨y0, y1, y2, y3, y4, y5, yf⟩ := row6 Y
      have Bw : Below w.heap.size w w1 := hbr.trans (hb.mono (by omega))
      clear Z Y hb hm hz hbr
      go_wp2_with fail
      exact bodyPost_ret (v := .agg #[.int .i64 6, .bool false, .int .i64 0, .string ⟨#[]⟩, .slice none 0 0, .slice none 0 0]) (by simp only [results, Tryz.results70]; go_simp) rfl (tree_fin6 HT.out (Bw.trans (Aside.below (S := fun b => b = w.heap.size) (by repeat (first | (with_reducible exact Aside.refl _ _) | ((with_reducible refine aside_set ?_ ?_); (focus (simp; done))) | (with_reducible refine aside_alloc ?_))) Bw.size (fun i hi => by omega))))
  · have HT := Lib.hid (show labelsT l = pairT (l.map Label.key) (l.map Label.value) by unfold labelsT; rw [if_pos ho])
    have hl6 := labels_short ho
    have HO := Lib.hid ho
    have Hch := Lib.hid (chain_less ho)
    have hks : ∀ s ∈ l.map Label.key, s.size ≤ 9223372036854775807 := by
      intro s hs
      obtain ⟨d, hd, rfl⟩ := List.mem_map.1 hs
      exact (lab_ok HS d hd).1
    have hts : ∀ s ∈ l.map Label.value, s.size ≤ 9223372036854775807 := by
      intro s hs
      obtain ⟨d, hd, rfl⟩ := List.mem_map.1 hs
      exact (lab_ok HS d hd).2
    have HKS := Lib.hid hks
    have HTS := Lib.hid hts
    obtain ⟨tb, htb⟩ : ∃ tb, tb = w.heap.size + 1 := ⟨_, rfl⟩
    have htw : w.heap.size < tb := by omega
    clear ho hks hts
    go_enter Tryz.func70, Tryz.ntmps70
    go_wp2_with fail
    rw [← htb]
    go_loopw [4] (fun i wr => ∃ (k : Nat) (A4 : Option Addr) (c4 : Nat) (A5 : Option Addr) (c5 : Nat), k ≤ l.length ∧ i = .int .i64 k ∧ MapRows (tb + 1) wr ((l.map Label.key).take k) (((l.map Label.value).map leafC).take k) (.slice A4 k c4) (.slice A5 k c5) ∧ wr.heap[tb]? = some (.cells #[.int .i64 6, .bool false, .int .i64 0, .string ⟨#[]⟩, .slice A4 k c4, .slice A5 k c5] 30 (0, 0)) ∧ wr.heap[w.heap.size]? = some (.cells #[.int .i64 0, .bool false, .int .i64 0, .string ⟨#[]⟩, .slice none 0 0, .slice none 0 0] 30 (0, 0)) ∧ Below w.heap.size w wr) (fun i _ => l.length - (intOf i).toNat)
    case atStart => exact ⟨0, none, 0, none, 0, Nat.zero_le _, rfl, mapRows_nil, by rw [htb]; exact heap_at (by simp), (Below.heap_alloc _ _ _ (by simp)).trans (heap_at (by simp)), bel⟩
    case round =>
      subst htb
      obtain ⟨k, A4, c4, A5, c5, hk, rfl, hm, hz3, hz2, hbr⟩ := hrel
      have HM := Lib.hid hm
      have R2 := Lib.hid hz2
      have R3 := Lib.hid hz3
      have lt3 := row_lt hz3
      have lt2 := row_lt hz2
      obtain ⟨t0, t1, t2, t3, t4, t5, tf⟩ := row6 hz3
      by_cases hlt : k < l.length
      · obtain ⟨b, o, rfl, -, hb2, hcell⟩ := hA (by omega)
        obtain ⟨d, hd⟩ := exists_at hlt
        obtain ⟨es, -, hcs, hC⟩ := hcell k d hd
        obtain ⟨rfl, ea0, ea1⟩ := hC
        have hc0 := (hbr.cell (p := ⟨b, o + k * 2 + 0, none⟩) (by simp; omega)).trans (hcs 0 (by omega))
        have hc1 := (hbr.cell (p := ⟨b, o + k * 2 + 1, none⟩) (by simp; omega)).trans (hcs 1 (by omega))
        simp at hc0 hc1
        have hbl : b < wr.heap.size := Nat.lt_of_lt_of_le hb2 hbr.size
        have hk0 : (0 : Int) ≤ k := by omega
        have hk1 : (k : Int) < l.length := by omega
        have Hd := Lib.hid hd
        have HA := Lib.hid hA
        clear hcs hcell hA hm hz2 hz3 hd
        go_wp2_with fail
        refine (c_spec_LabelsOk l _ _ lo (HS.now hbr)).mono ?_
        rintro e W ⟨rfl, hb⟩
        rw [HO.out]
        have S2 := (hb.block w.heap.size lt2).trans R2.out
        have S3 := (hb.block (w.heap.size + 1) lt3).trans R3.out
        have HMW := Lib.hid (HM.out.carry hb)
        have d0 := (hb.cell (p := ⟨b, o + k * 2, none⟩) hbl).trans hc0
        have d1 := (hb.cell (p := ⟨b, o + k * 2 + 1, none⟩) hbl).trans hc1
        have dl : b < W.heap.size := Nat.lt_of_lt_of_le hbl hb.size
        have Bw := hbr.trans (hb.mono hbr.size)
        clear t0 t1 t2 t3 t4 t5 tf hc0 hc1 hbl R2 R3 HM lt2 lt3 hbr hb
        obtain ⟨t0, t1, t2, t3, t4, t5, tf⟩ := row6 S3
        have lt2 := row_lt S2
        have lt3 := row_lt S3
        have R2 := Lib.hid S2
        have R3 := Lib.hid S3
        clear S2 S3
        go_wp2_with fail
        refine comb (P := ?PP) (fun hP => ?_) ?_; rotate_left 1
        · go_region_law (first | (go_simp; go_at_call 68; refine (c_spec_TextTree _ _).mono ?_; rintro e wb ⟨rfl, hbb⟩; have e0 := (hbb.cell (p := ⟨b, o + k * 2, none⟩) (by simpa using dl)).trans d0; obtain ⟨q0, q1, q2, q3, q4, q5, qf⟩ := row6 ((hbb.block (w.heap.size + 1) (by simpa using lt3)).trans R3.out)) | (go_simp; go_at_call 24; refine (c_l20Put ((l.map Label.key).take k) (((l.map Label.value).map leafC).take k) _ _ _ _ _ _ _ _ _ none none 0 0 0 0 _ _ (w.heap.size + 1 + 1) _ (MapRows.carryB (w := W) HMW.out (fun q hq => hbb.block q hq)) (by simp) (fun x hx => HKS.out x (List.mem_of_mem_take hx)) (Hch.out k d Hd.out) (by simp; omega)).mono ?_; rintro e wc ⟨vk1, vl1, rfl, hmc, hbc⟩; have hch : ∀ q, q < W.heap.size → wc.heap[q]? = W.heap[q]? := (fun q hq => (hbc.block q (Nat.lt_of_lt_of_le hq hbb.size)).trans (hbb.block q hq)); obtain ⟨qc0, qc1, qc2, qc3, qc4, qc5, qcf⟩ := row6 ((hch (w.heap.size + 1) lt3).trans R3.out); have lc := row_lt ((hch (w.heap.size + 1) lt3).trans R3.out); obtain ⟨B4, d4, rfl⟩ := own_form hmc.keys; obtain ⟨B5, d5, rfl⟩ := own_form hmc.kids))
          all_goals
            have C3 := (hch (w.heap.size + 1) lt3).trans R3.out
            have Bc : Below w.heap.size w wc := bel
            have hmc2 : MapRows wb.heap.size wc ((l.map Label.key).take k ++ [d.key]) (((l.map Label.value).map leafC).take k ++ [leafC d.value]) (.slice B4 ((l.map Label.key).take k ++ [d.key]).length d4) (.slice B5 (((l.map Label.value).map leafC).take k ++ [leafC d.value]).length d5) := hmc
            rw [show ((l.map Label.key).take k ++ [d.key]).length = k + 1 by simp; omega, show (((l.map Label.value).map leafC).take k ++ [leafC d.value]).length = k + 1 by simp; omega, ← take_key Hd.out, ← take_leaf Hd.out] at hmc2
            generalize hW : ((((((wc.setCell ⟨w.heap.size + 1, 0, none⟩ (.int .i64 6)).setCell ⟨w.heap.size + 1, 1, none⟩ (.bool false)).setCell ⟨w.heap.size + 1, 2, none⟩ (.int .i64 0)).setCell ⟨w.heap.size + 1, 3, none⟩ (.string ⟨#[]⟩)).setCell ⟨w.heap.size + 1, 4, none⟩ (.slice B4 (k + 1) d4)).setCell ⟨w.heap.size + 1, 5, none⟩ (.slice B5 (k + 1) d5)) = W2
            have hF : Aside (fun b => b = w.heap.size + 1) wc W2 := by rw [← hW]; exact (by repeat (first | (with_reducible exact Aside.refl _ _) | ((with_reducible refine aside_set ?_ ?_); (focus (simp; done))) | (with_reducible refine aside_alloc ?_)))
            have S2 := (hF.block w.heap.size (Nat.lt_trans (Nat.lt_succ_self _) lc) (by omega)).trans ((hch w.heap.size lt2).trans R2.out)
            have S3 : W2.heap[w.heap.size + 1]? = some (.cells #[.int .i64 6, .bool false, .int .i64 0, .string ⟨#[]⟩, .slice B4 (k + 1) d4, .slice B5 (k + 1) d5] 30 (0, 0)) := by rw [← hW]; exact six_set _ _ _ _ _ _ C3
            have hts : w.heap.size + 1 + 1 ≤ wb.heap.size := by have e1 := hbb.size; simp at e1; omega
            have HM2 := (hmc2.less hts).aside hF (Nat.lt_succ_self _)
            have Bw2 := Bc.trans (hF.below Bc.size (fun i hi => by omega))
            clear hW hF hmc hmc2 hch C3
            revert HM2 Bw2 S2 S3
            revert W2
            revert B4 d4 B5 d5
            exact hP.out
        · intro B4 d4 B5 d5 W2 S2 S3 HM2 Bw2
          clear R2 R3 HMW t0 t1 t2 t3 t4 t5 tf
          go_wp2_with fail
          go_roundw
          case rel => exact ⟨k + 1, B4, d4, B5, d5, by omega, by go_num, HM2, S3, S2, Bw2⟩
          case measure => simp [intOf]; omega
      · obtain rfl : k = l.length := by omega
        obtain ⟨z0, z1, z2, z3, z4, z5, zf⟩ := row6 hz2
        have hm2 := hm
        rw [List.take_of_length_le (by simp), List.take_of_length_le (by simp)] at hm2
        have HM2 := Lib.hid hm2
        have ne1 : (w.heap.size + 1) ≠ w.heap.size := by omega
        clear hA hm hz2 hm2 hz3 HM
        go_wp2_with fail
        exact bodyPost_ret (v := .agg #[.int .i64 6, .bool false, .int .i64 0, .string ⟨#[]⟩, .slice A4 l.length c4, .slice A5 l.length c5]) (by simp only [results, Tryz.results70]; go_simp) rfl (tree_finM HT.out rfl HM2.out (t2 := w.heap.size) (by repeat (first | (with_reducible exact Aside.refl _ _) | ((with_reducible refine aside_set ?_ ?_); (focus (simp; done))) | (with_reducible refine aside_alloc ?_))) (by omega) (Nat.le_refl _) HKS.out HTS.out hbr)
end Go.Proofs.YteecgklmdfockaaGreatDoor
