/- Written by wip/tools/pack.py: the texts that FnExactPodTree needs, without what it does not need. No conditions. -/
import Derived.Test.YteecgklmdfockaaGreatDoorKFnExactPodTree3
import Derived.Test.YteecgklmdfockaaGreatDoorKFnExactPodTree1
namespace Go.Proofs.YteecgklmdfockaaGreatDoor
open Go.RowKit
theorem leaf_fin2 {tb base g g2 cap cap2 : Nat} {w w2 wF : World} {ks : List ByteArray} {vs : List (List Value)} {key : ByteArray} {kc : List Value} {vk vl : Value} (h6 : ∀ es ∈ vs, es.length = 6) (hk6 : kc.length = 6) (hF : Aside (fun b => b = g2 ∨ b = tb) w2 wF) (hlt : tb < base) (hbg : base ≤ g2) (hgg : g ≠ g2)
    (hrow : wF.heap[tb]? = some (.cells #[.int .i64 6, .bool false, .int .i64 0, .string ⟨#[]⟩, .slice (some ⟨g, 0, none⟩) (ks.length + 1) cap, .slice (some ⟨g2, 0, none⟩) (vs.length + 1) cap2] 30 (0, 0)))
    (KK : w2.ownsRow base 9 1 (.slice (some ⟨g, 0, none⟩) (ks.length + 1) cap) (ks.length + 1) (ks.map Value.string ++ [.string key]))
    (hkids : wF.ownsRow base 30 6 (.slice (some ⟨g2, 0, none⟩) (vs.length + 1) cap2) (vs.length + 1) (vs.flatten ++ kc))
    (A2 : Aside (fun b => b = tb ∨ vk.ownBlock = some b ∨ vl.ownBlock = some b) w w2) (hat : vl.ownBlock = some g2 ∨ w.heap.size ≤ g2) :
    ∃ vk' vl', Ending.returned (.tuple #[]) = Ending.returned (.tuple #[]) ∧ LeafMap base tb wF (ks ++ [key]) (vs ++ [kc]) vk' vl' ∧ Aside (fun b => b = tb ∨ vk.ownBlock = some b ∨ vl.ownBlock = some b) w wF  ∧ (∀ q, vl'.ownBlock = some q → vl.ownBlock = some q ∨ w.heap.size ≤ q) := by
  refine ⟨_, _, rfl, ⟨hrow, ?_, ?_, six_push h6 hk6, hlt⟩, ?_, fun q hq => ?_⟩
  · simpa using ownsRow_carry KK (fun q hq => by
      simp [Value.ownBlock] at hq
      subst hq
      have := KK.lt g rfl
      exact hF.block g this.2 (by omega))
  · rw [List.flatten_append, List.length_append]
    simpa using hkids
  · exact ⟨hF.os.trans A2.os, hF.tape.trans A2.tape, hF.output.trans A2.output, Nat.le_trans A2.size hF.size, fun b hb hn => (hF.block b (Nat.lt_of_lt_of_le hb A2.size) (by
      rintro (rfl | rfl)
      · rcases hat with hat | hat
        · exact hn (.inr (.inr hat))
        · omega
      · exact hn (.inl rfl))).trans (A2.block b hb hn)⟩
  · simp [Value.ownBlock] at hq
    subst hq
    exact hat
set_option maxHeartbeats 4000000 in
set_option maxRecDepth 10000 in
theorem c_addKid2 (ks : List ByteArray) (vs : List (List Value)) (key t : ByteArray) (k m : Int) (f : Bool) (B4 B5 : Option Addr) (n4 d4 n5 d5 : Nat) (vk vl : Value) (tb base : Nat) (w : World) (h : LeafMap base tb w ks vs vk vl) (hb : base ≤ w.heap.size) (hk : ks.length ≤ 1048576) (hv : vs.length ≤ 1048576) :
    Calls Tryz.prog 32 #[.pointer (some ⟨tb, 0, none⟩), .string key, .agg #[.int .i64 k, .bool f, .int .i64 m, .string t, .slice B4 n4 d4, .slice B5 n5 d5]] w fun e w' => ∃ vk' vl', e = .returned (.tuple #[]) ∧ LeafMap base tb w' (ks ++ [key]) (vs ++ [[.int .i64 k, .bool f, .int .i64 m, .string t, .slice B4 n4 d4, .slice B5 n5 d5]]) vk' vl' ∧ Aside (fun b => b = tb ∨ vk.ownBlock = some b ∨ vl.ownBlock = some b) w w'  ∧ (∀ q, vl'.ownBlock = some q → vl.ownBlock = some q ∨ w.heap.size ≤ q) := by
  obtain ⟨i0, hi, hz0, hz1, hz2⟩ := info_parts (show (Tryz.prog.info? 30).map (fun i => (i.zero, i.size, i.bytes)) = some (some (.agg #[.int .i64 0, .bool false, .int .i64 0, .string ⟨#[]⟩, .slice none 0 0, .slice none 0 0]), 6, 88) from by kernel_rfl)
  obtain ⟨j0, gi, gz0, gz1, gz2⟩ := info_parts (show (Tryz.prog.info? 9).map (fun i => (i.zero, i.size, i.bytes)) = some (some (.string ⟨#[]⟩), 1, 16) from by kernel_rfl)
  obtain ⟨hrow, hkeys, hkids, h6, hlt⟩ := h
  obtain ⟨A4, c4, rfl⟩ := own_form hkeys
  obtain ⟨A5, c5, rfl⟩ := own_form hkids
  obtain ⟨x0, x1, x2, x3, x4, x5, xf⟩ := row6 hrow
  have hl1 := row_lt hrow
  have hl2 : tb < w.heap.size + 1 := by omega
  have Hrow := Lib.hid hrow
  have Hkeys := Lib.hid hkeys
  have Hkids := Lib.hid hkids
  have Hap := Lib.hid (own_apart hkeys hkids (by decide))
  clear hrow hkeys hkids
  go_enter Tryz.func32, Tryz.ntmps32
  go_wp2_with (at_builtin; refine wpList_append_lies _ rfl (.tmp 10) (.tmp 12) 27 rfl base 9 j0 (.string ⟨#[]⟩) 1 16 Tryz.underlying27 gi gz0 gz1 gz2 rfl (by decide) _ ks.length (ks.map Value.string) rfl ((Hkeys.out.alloc _).alloc _) _ 1 1 [.string key] rfl rfl (World.news_of_block (heap_at (by simp))) (by intro u hu; simp at hu; subst hu; rfl) (by decide) (by unfold maxLen; omega) (by omega) (by simp; omega) _ rfl ?_)
  intro g cap w1 hown hgrow hat hlt1
  have hs1 := hgrow.size
  simp at hs1
  have R1 : w1.heap[tb]? = some (.cells #[.int .i64 6, .bool false, .int .i64 0, .string ⟨#[]⟩, .slice A4 ks.length c4, .slice A5 vs.length c5] 30 (0, 0)) := (hgrow.block tb (by simp; omega) (fun e => by have := (Hkeys.out.lt tb e.symm).1; omega)).trans ((Below.heap_alloc _ _ _ (by simp; omega)).trans ((Below.heap_alloc _ _ _ hl1).trans Hrow.out))
  have X1 : w1.heap[w.heap.size]? = some (.cells #[.int .i64 k, .bool f, .int .i64 m, .string t, .slice B4 n4 d4, .slice B5 n5 d5] 30 (0, 0)) := (hgrow.block w.heap.size (by simp; try omega) (fun e => by have := (Hkeys.out.lt _ e.symm).2; omega)).trans ((Below.heap_alloc _ _ _ (by simp)).trans (heap_alloc_new _ _))
  have K1 : w1.ownsRow base 30 6 (.slice A5 vs.length c5) vs.length vs.flatten := ownsRow_carry Hkids.out (fun q hq => (hgrow.block q (by have := (Hkids.out.lt q hq).2; simp; omega) (fun e => Hap.out q e.symm hq)).trans ((Below.heap_alloc _ _ _ (by have := (Hkids.out.lt q hq).2; simp; omega)).trans (Below.heap_alloc _ _ _ (Hkids.out.lt q hq).2)))
  have A1 : Aside (fun b => b = tb ∨ (Value.slice A4 ks.length c4).ownBlock = some b ∨ (Value.slice A5 vs.length c5).ownBlock = some b) w w1 := ⟨hgrow.os, hgrow.tape, hgrow.output, by omega, fun b hb1 hn => (hgrow.block b (by simp; omega) (fun e => hn (.inr (.inl e.symm)))).trans ((Below.heap_alloc _ _ _ (by simp; omega)).trans (Below.heap_alloc _ _ _ hb1))⟩
  obtain ⟨x0, x1, x2, x3, x4, x5, xf⟩ := row6 R1
  obtain ⟨y0, y1, y2, y3, y4, y5, yf⟩ := row6 X1
  have hl3 := row_lt R1
  have hl4 := row_lt X1
  have hne : w.heap.size ≠ tb := by omega
  have HR1 := Lib.hid R1
  have HX1 := Lib.hid X1
  have HK1 := Lib.hid K1
  have HA1 := Lib.hid A1
  have HO1 := Lib.hid hown
  clear R1 X1 K1 A1 hown hgrow hat
  go_wp2_with fail
  go_region_law (refine step_append_lies _ rfl (.tmp 19) (.tmp 22) 28 rfl base 30 i0 (.agg #[.int .i64 0, .bool false, .int .i64 0, .string ⟨#[]⟩, .slice none 0 0, .slice none 0 0]) 6 88 Tryz.underlying28 hi hz0 hz1 hz2 rfl (by decide) _ vs.length vs.flatten rfl ((ownsRow_setCell_below HK1.out (by simpa using hlt) _).alloc _) _ 1 1 zeroC rfl rfl (World.news_of_block (heap_at (by simp))) (by intro u hu; simp [zeroC] at hu; rcases hu with rfl | rfl | rfl | rfl | rfl <;> rfl) (by decide) (by unfold maxLen; omega) (by omega) (by simp; omega) _ rfl ?_; intro g2 cap2 w2 hown2 hgrow2 hat2 hlt2; have T2 : w2.heap[tb]? = some (.cells #[.int .i64 6, .bool false, .int .i64 0, .string ⟨#[]⟩, .slice (some ⟨g, 0, none⟩) (ks.length + 1) cap, .slice A5 vs.length c5] 30 (0, 0)) := (hgrow2.block tb (by simp; omega) (fun e => by have := (HK1.out.lt tb e.symm).1; omega)).trans ((Below.heap_alloc _ _ _ (by simp; omega)).trans (heap_setCell_same w1 tb 4 _ _ _ HR1.out)); have X2 : w2.heap[w.heap.size]? = some (.cells #[.int .i64 k, .bool f, .int .i64 m, .string t, .slice B4 n4 d4, .slice B5 n5 d5] 30 (0, 0)) := (hgrow2.block w.heap.size (by simp; omega) (fun e => by have := (Hkids.out.lt _ e.symm).2; omega)).trans ((Below.heap_alloc _ _ _ (by simp; omega)).trans ((Below.heap_setCell _ _ _ _ (by simp; omega)).trans HX1.out)); obtain ⟨-, -, -, -, -, t5, tf⟩ := row6 T2; obtain ⟨u0, u1, u2, u3, u4, u5, uf⟩ := row6 X2; obtain ⟨l0, l1, l2, l3, l4, l5, lf⟩ := own_last hown2 (flat_len vs h6); have hl5 := row_lt T2; have hl6 := row_lt X2; have hbg : base ≤ g2 := (own_row hown2).choose_spec.2.2.2.2.2; have hg2 : g2 ≠ tb := (by omega); have ib1 : (0 : Int) ≤ (vs.length : Int) := (by omega); have ib2 : (vs.length : Int) < ((vs.length + 1 : Nat) : Int) := (by omega); have ib3 : (vs.length : Int) < (vs.length : Int) + 1 := (by omega))
  all_goals
    have S2 := hgrow2.size
    simp at S2
    have KK : w2.ownsRow base 9 1 (.slice (some ⟨g, 0, none⟩) (ks.length + 1) cap) (ks.length + 1) (ks.map Value.string ++ [.string key]) := ownsRow_carry HO1.out (fun q hq => by
      have hq2 := HO1.out.lt q hq
      exact (hgrow2.block q (by simp; omega) (fun e => own_apart HO1.out HK1.out (by decide) q hq e.symm)).trans ((Below.heap_alloc _ _ _ (by simp; omega)).trans (Below.heap_setCell _ _ _ _ (by simp; omega))))
    have hgg : g ≠ g2 := fun e => own_apart KK hown2 (by decide) g rfl (by rw [e]; rfl)
    have A2 : Aside (fun b => b = tb ∨ (Value.slice A4 ks.length c4).ownBlock = some b ∨ (Value.slice A5 vs.length c5).ownBlock = some b) w w2 := HA1.out.trans ⟨hgrow2.os, hgrow2.tape, hgrow2.output, by omega, fun b hb1 hn => (hgrow2.block b (by simp; omega) (fun e => hn (.inr (.inr e.symm)))).trans ((Below.heap_alloc _ _ _ (by simp; omega)).trans (Below.heap_setCell _ _ _ _ (fun e => hn (.inl e))))⟩
    have HG2 : (Value.slice A5 vs.length c5).ownBlock = some g2 ∨ w.heap.size ≤ g2 := by
      rcases hat2 with h | h
      · exact .inl h
      · right; simp at h; omega
    have P2 := own_put (us := [.int .i64 k, .bool f, .int .i64 m, .string t, .slice B4 n4 d4, .slice B5 n5 d5]) hown2 (flat_len vs h6) rfl rfl
    have HT2 := Lib.hid T2
    clear hgrow2 hat2 X2 T2
    go_wp2_with fail
    have KP := own_put (us := [.int .i64 k, .bool f, .int .i64 m, .string t, .slice B4 n4 d4, .slice B5 n5 d5]) (ownsRow_setCell_below hown2 hlt (a := ⟨tb, 5, none⟩) (.slice (some ⟨g2, 0, none⟩) (vs.length + 1) cap2)) (flat_len vs h6) rfl rfl
    simp only [putCells, Nat.add_assoc, Nat.reduceAdd] at P2 KP
    refine bodyPost_end (v := .tuple #[]) (by simp only [results, Tryz.results32]; go_simp) rfl (leaf_fin2 (cap2 := cap2) h6 rfl (by repeat (first | (with_reducible exact Aside.refl _ _) | ((with_reducible refine aside_set ?_ ?_); (focus (simp; done))) | (with_reducible refine aside_alloc ?_))) hlt hbg hgg ?_ KK ?_ A2 HG2)
    · first
        | ((with_reducible refine row_last (a5 := .slice A5 vs.length c5) ?_); exact Eq.trans (Aside.block (S := fun b => b = g2) (w := w2) (by repeat (first | (with_reducible exact Aside.refl _ _) | ((with_reducible refine aside_set ?_ ?_); (focus (simp; done))) | (with_reducible refine aside_alloc ?_))) tb hl5 (by omega)) HT2.out)
        | exact Eq.trans (Aside.block (S := fun b => b = g2) (w := w2.setCell ⟨tb, 5, none⟩ (.slice (some ⟨g2, 0, none⟩) (vs.length + 1) cap2)) (by repeat (first | (with_reducible exact Aside.refl _ _) | ((with_reducible refine aside_set ?_ ?_); (focus (simp; done))) | (with_reducible refine aside_alloc ?_))) tb (by simpa using hl5) (by omega)) (row_last HT2.out)
    · first
        | ((with_reducible refine ownsRow_setCell_below ?_ hlt _); exact P2)
        | exact KP
end Go.Proofs.YteecgklmdfockaaGreatDoor
namespace Go.Proofs.YteecgklmdfockaaGreatDoor
def stepB {D : Type} (ok : D → Bool) (lt : D → D → Bool) (l : List D) (i : Nat) : Bool :=
  match l[i]? with
  | none => true
  | some d => ok d && (match i with | 0 => true | j + 1 => match l[j]? with | some c => lt c d | none => true)
def chainB {D : Type} (ok : D → Bool) (lt : D → D → Bool) (l : List D) : Bool := (List.range l.length).all (stepB ok lt l)
theorem chain_succ {D : Type} (ok : D → Bool) (lt : D → D → Bool) (l : List D) (k : Nat) : (List.range (k + 1)).all (stepB ok lt l) = ((List.range k).all (stepB ok lt l) && stepB ok lt l k) := by
  rw [List.range_succ, List.all_append]; simp
theorem chain_bad {D : Type} (ok : D → Bool) (lt : D → D → Bool) (l : List D) (k : Nat) (hk : k < l.length) (h : stepB ok lt l k = false) : chainB ok lt l = false := by
  unfold chainB
  rw [List.all_eq_false]
  exact ⟨k, by simpa using hk, by simp [h]⟩
theorem stepB_zero {D : Type} (ok : D → Bool) (lt : D → D → Bool) (l : List D) (d : D) (h : l[0]? = some d) : stepB ok lt l 0 = ok d := by
  unfold stepB; rw [h]; simp
theorem stepB_succ {D : Type} (ok : D → Bool) (lt : D → D → Bool) (l : List D) (k : Nat) (c d : D) (hc : l[k]? = some c) (h : l[k + 1]? = some d) : stepB ok lt l (k + 1) = (ok d && lt c d) := by
  unfold stepB; rw [h]; simp only [hc]
theorem stepB_no {D : Type} (ok : D → Bool) (lt : D → D → Bool) (l : List D) (k : Nat) (d : D) (h : l[k]? = some d) (ho : ok d = false) : stepB ok lt l k = false := by
  unfold stepB; rw [h]; simp [ho]
theorem chain_all {D : Type} {ok : D → Bool} {lt : D → D → Bool} {l : List D} (h : (List.range l.length).all (stepB ok lt l) = true) : chainB ok lt l = true := h
end Go.Proofs.YteecgklmdfockaaGreatDoor
