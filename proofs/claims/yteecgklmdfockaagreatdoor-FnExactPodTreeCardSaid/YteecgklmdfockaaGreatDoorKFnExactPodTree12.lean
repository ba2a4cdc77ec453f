/- Written by wip/tools/pack.py: the texts that FnExactPodTree needs, without what it does not need. No conditions. -/
import Derived.Test.YteecgklmdfockaaGreatDoorKFnExactPodTree6
import Derived.Test.YteecgklmdfockaaGreatDoorKFnExactPodTree4
import Derived.Shelf.LaysM
import Derived.Shelf.Strconv.Itoa3
import Derived.Test.YteecgklmdfockaaGreatDoorKFnExactPodTree1
import Derived.Lib.ItoaNum
import Derived.Test.YteecgklmdfockaaGreatDoorKFnExactPodTree2
import Derived.Test.YteecgklmdfockaaGreatDoorKFnExactPodTree3
namespace Go.Proofs.YteecgklmdfockaaGreatDoor
open Go.RowKit
/-- The box tb holds a map with the keys ks and the kids whose cells are css; both lie in rows of the call's own behind block base, apart from the box. -/
structure LeafMapA (base tb : Nat) (w : World) (ks : List ByteArray) (css : List (List Value)) (vk vl : Value) : Prop where
  row : w.heap[tb]? = some (.cells #[.int .i64 6, .bool false, .int .i64 0, .string ⟨#[]⟩, vk, vl] 30 (0, 0))
  keys : w.ownsRow base 9 1 vk ks.length (ks.map Value.string)
  kids : w.ownsRow base 30 6 vl css.length css.flatten
  six : ∀ es ∈ css, es.length = 6
  apk : vk.ownBlock ≠ some tb
  apl : vl.ownBlock ≠ some tb
theorem ownsRow_set_apart {w : World} {base : Nat} {e : TypeId} {size n : Nat} {v : Value} {xs : List Value} {a : Addr} (h : w.ownsRow base e size v n xs) (ha : v.ownBlock ≠ some a.block) (u : Value) : (w.setCell a u).ownsRow base e size v n xs :=
  ownsRow_carry h (fun q hq => Below.heap_setCell w a u q (fun e => ha (e ▸ hq)))
theorem leaf_fin3 {tb base g g2 cap cap2 : Nat} {w w2 wF : World} {ks : List ByteArray} {vs : List (List Value)} {key : ByteArray} {kc : List Value} {vk vl : Value} (h6 : ∀ es ∈ vs, es.length = 6) (hk6 : kc.length = 6) (hF : Aside (fun b => b = g2 ∨ b = tb) w2 wF) (hgt : g ≠ tb) (hg2t : g2 ≠ tb) (hgg : g ≠ g2)
    (hrow : wF.heap[tb]? = some (.cells #[.int .i64 6, .bool false, .int .i64 0, .string ⟨#[]⟩, .slice (some ⟨g, 0, none⟩) (ks.length + 1) cap, .slice (some ⟨g2, 0, none⟩) (vs.length + 1) cap2] 30 (0, 0)))
    (KK : w2.ownsRow base 9 1 (.slice (some ⟨g, 0, none⟩) (ks.length + 1) cap) (ks.length + 1) (ks.map Value.string ++ [.string key]))
    (hkids : wF.ownsRow base 30 6 (.slice (some ⟨g2, 0, none⟩) (vs.length + 1) cap2) (vs.length + 1) (vs.flatten ++ kc))
    (A2 : Aside (fun b => b = tb ∨ vk.ownBlock = some b ∨ vl.ownBlock = some b) w w2) (hat : vl.ownBlock = some g2 ∨ w.heap.size ≤ g2) (hatk : vk.ownBlock = some g ∨ w.heap.size ≤ g) :
    ∃ vk' vl', Ending.returned (.tuple #[]) = Ending.returned (.tuple #[]) ∧ LeafMapA base tb wF (ks ++ [key]) (vs ++ [kc]) vk' vl' ∧ Aside (fun b => b = tb ∨ vk.ownBlock = some b ∨ vl.ownBlock = some b) w wF  ∧ (∀ q, vl'.ownBlock = some q → vl.ownBlock = some q ∨ w.heap.size ≤ q) ∧ (∀ q, vk'.ownBlock = some q → vk.ownBlock = some q ∨ w.heap.size ≤ q) := by
  refine ⟨_, _, rfl, ⟨hrow, ?_, ?_, six_push h6 hk6, (fun e => by simp [Value.ownBlock] at e; exact hgt e), (fun e => by simp [Value.ownBlock] at e; exact hg2t e)⟩, ?_, fun q hq => ?_, fun q hq => ?_⟩
  · simpa using ownsRow_carry KK (fun q hq => by
      simp [Value.ownBlock] at hq
      subst hq
      have := KK.lt g rfl
      exact hF.block g this.2 (by rintro (e | e); exact hgg e; exact hgt e))
  · rw [List.flatten_append, List.length_append]
    simpa using hkids
  · exact ⟨hF.os.trans A2.os, hF.tape.trans A2.tape, hF.output.trans A2.output, Nat.le_trans A2.size hF.size, fun b hb hn => (hF.block b (Nat.lt_of_lt_of_le hb A2.size) (by
      rintro (rfl | rfl)
      · rcases hat with hat | hat
        · exact hn (.inr (.inr hat))
        · omega
      · exact hn (.inl rfl))).trans (A2.block b hb hn)⟩
  · simp [Value.ownBlock] at hq
    subst hq
    exact hat
  · simp [Value.ownBlock] at hq
    subst hq
    exact hatk
set_option maxHeartbeats 4000000 in
set_option maxRecDepth 10000 in
theorem c_addKid3 (ks : List ByteArray) (vs : List (List Value)) (key t : ByteArray) (k m : Int) (f : Bool) (B4 B5 : Option Addr) (n4 d4 n5 d5 : Nat) (vk vl : Value) (tb base : Nat) (w : World) (h : LeafMapA base tb w ks vs vk vl) (hb : base ≤ w.heap.size) (hk : ks.length ≤ 1048576) (hv : vs.length ≤ 1048576) :
    Calls Tryz.prog 32 #[.pointer (some ⟨tb, 0, none⟩), .string key, .agg #[.int .i64 k, .bool f, .int .i64 m, .string t, .slice B4 n4 d4, .slice B5 n5 d5]] w fun e w' => ∃ vk' vl', e = .returned (.tuple #[]) ∧ LeafMapA base tb w' (ks ++ [key]) (vs ++ [[.int .i64 k, .bool f, .int .i64 m, .string t, .slice B4 n4 d4, .slice B5 n5 d5]]) vk' vl' ∧ Aside (fun b => b = tb ∨ vk.ownBlock = some b ∨ vl.ownBlock = some b) w w'  ∧ (∀ q, vl'.ownBlock = some q → vl.ownBlock = some q ∨ w.heap.size ≤ q) ∧ (∀ q, vk'.ownBlock = some q → vk.ownBlock = some q ∨ w.heap.size ≤ q) := by
  obtain ⟨i0, hi, hz0, hz1, hz2⟩ := info_parts (show (Tryz.prog.info? 30).map (fun i => (i.zero, i.size, i.bytes)) = some (some (.agg #[.int .i64 0, .bool false, .int .i64 0, .string ⟨#[]⟩, .slice none 0 0, .slice none 0 0]), 6, 88) from by kernel_rfl)
  obtain ⟨j0, gi, gz0, gz1, gz2⟩ := info_parts (show (Tryz.prog.info? 9).map (fun i => (i.zero, i.size, i.bytes)) = some (some (.string ⟨#[]⟩), 1, 16) from by kernel_rfl)
  obtain ⟨hrow, hkeys, hkids, h6, hak, hal⟩ := h
  obtain ⟨A4, c4, rfl⟩ := own_form hkeys
  obtain ⟨A5, c5, rfl⟩ := own_form hkids
  obtain ⟨x0, x1, x2, x3, x4, x5, xf⟩ := row6 hrow
  have hl1 := row_lt hrow
  have hl2 : tb < w.heap.size + 1 := by omega
  have Hrow := Lib.hid hrow
  have Hkeys := Lib.hid hkeys
  have Hkids := Lib.hid hkids
  have Hap := Lib.hid (own_apart hkeys hkids (by decide))
  have Hak := Lib.hid hak
  have Hal := Lib.hid hal
  clear hrow hkeys hkids hak hal
  go_enter Tryz.func32, Tryz.ntmps32
  go_wp2_with (at_builtin; refine wpList_append_lies _ rfl (.tmp 10) (.tmp 12) 27 rfl base 9 j0 (.string ⟨#[]⟩) 1 16 Tryz.underlying27 gi gz0 gz1 gz2 rfl (by decide) _ ks.length (ks.map Value.string) rfl ((Hkeys.out.alloc _).alloc _) _ 1 1 [.string key] rfl rfl (World.news_of_block (heap_at (by simp))) (by intro u hu; simp at hu; subst hu; rfl) (by decide) (by unfold maxLen; omega) (by omega) (by simp; omega) _ rfl ?_)
  intro g cap w1 hown hgrow hat hlt1
  have hs1 := hgrow.size
  simp at hs1
  have R1 : w1.heap[tb]? = some (.cells #[.int .i64 6, .bool false, .int .i64 0, .string ⟨#[]⟩, .slice A4 ks.length c4, .slice A5 vs.length c5] 30 (0, 0)) := (hgrow.block tb (by simp; omega) (fun e => Hak.out e.symm)).trans ((Below.heap_alloc _ _ _ (by simp; omega)).trans ((Below.heap_alloc _ _ _ hl1).trans Hrow.out))
  have X1 : w1.heap[w.heap.size]? = some (.cells #[.int .i64 k, .bool f, .int .i64 m, .string t, .slice B4 n4 d4, .slice B5 n5 d5] 30 (0, 0)) := (hgrow.block w.heap.size (by simp; try omega) (fun e => by have := (Hkeys.out.lt _ e.symm).2; omega)).trans ((Below.heap_alloc _ _ _ (by simp)).trans (heap_alloc_new _ _))
  have K1 : w1.ownsRow base 30 6 (.slice A5 vs.length c5) vs.length vs.flatten := ownsRow_carry Hkids.out (fun q hq => (hgrow.block q (by have := (Hkids.out.lt q hq).2; simp; omega) (fun e => Hap.out q e.symm hq)).trans ((Below.heap_alloc _ _ _ (by have := (Hkids.out.lt q hq).2; simp; omega)).trans (Below.heap_alloc _ _ _ (Hkids.out.lt q hq).2)))
  have A1 : Aside (fun b => b = tb ∨ (Value.slice A4 ks.length c4).ownBlock = some b ∨ (Value.slice A5 vs.length c5).ownBlock = some b) w w1 := ⟨hgrow.os, hgrow.tape, hgrow.output, by omega, fun b hb1 hn => (hgrow.block b (by simp; omega) (fun e => hn (.inr (.inl e.symm)))).trans ((Below.heap_alloc _ _ _ (by simp; omega)).trans (Below.heap_alloc _ _ _ hb1))⟩
  obtain ⟨x0, x1, x2, x3, x4, x5, xf⟩ := row6 R1
  obtain ⟨y0, y1, y2, y3, y4, y5, yf⟩ := row6 X1
  have hl3 := row_lt R1
  have hl4 := row_lt X1
  have hne : w.heap.size ≠ tb := by omega
  have HR1 := Lib.hid R1
  have HX1 := Lib.hid X1
  have HK1 := Lib.hid K1
  have HA1 := Lib.hid A1
  have HO1 := Lib.hid hown
  have HG1 : (Value.slice A4 ks.length c4).ownBlock = some g ∨ w.heap.size ≤ g := by
    rcases hat with h | h
    · exact .inl h
    · right; (try simp at h); omega
  have HG1h := Lib.hid HG1
  have Hgt := Lib.hid (show g ≠ tb by rcases HG1 with h | h; intro e; subst e; exact Hak.out h; omega)
  clear R1 X1 K1 A1 hown hgrow hat HG1
  go_wp2_with fail
  go_region_law (refine step_append_lies _ rfl (.tmp 19) (.tmp 22) 28 rfl base 30 i0 (.agg #[.int .i64 0, .bool false, .int .i64 0, .string ⟨#[]⟩, .slice none 0 0, .slice none 0 0]) 6 88 Tryz.underlying28 hi hz0 hz1 hz2 rfl (by decide) _ vs.length vs.flatten rfl ((ownsRow_set_apart HK1.out Hal.out _).alloc _) _ 1 1 zeroC rfl rfl (World.news_of_block (heap_at (by simp))) (by intro u hu; simp [zeroC] at hu; rcases hu with rfl | rfl | rfl | rfl | rfl <;> rfl) (by decide) (by unfold maxLen; omega) (by omega) (by simp; omega) _ rfl ?_; intro g2 cap2 w2 hown2 hgrow2 hat2 hlt2; have T2 : w2.heap[tb]? = some (.cells #[.int .i64 6, .bool false, .int .i64 0, .string ⟨#[]⟩, .slice (some ⟨g, 0, none⟩) (ks.length + 1) cap, .slice A5 vs.length c5] 30 (0, 0)) := (hgrow2.block tb (by simp; omega) (fun e => Hal.out e.symm)).trans ((Below.heap_alloc _ _ _ (by simp; omega)).trans (heap_setCell_same w1 tb 4 _ _ _ HR1.out)); have X2 : w2.heap[w.heap.size]? = some (.cells #[.int .i64 k, .bool f, .int .i64 m, .string t, .slice B4 n4 d4, .slice B5 n5 d5] 30 (0, 0)) := (hgrow2.block w.heap.size (by simp; omega) (fun e => by have := (Hkids.out.lt _ e.symm).2; omega)).trans ((Below.heap_alloc _ _ _ (by simp; omega)).trans ((Below.heap_setCell _ _ _ _ (by simp; omega)).trans HX1.out)); obtain ⟨-, -, -, -, -, t5, tf⟩ := row6 T2; obtain ⟨u0, u1, u2, u3, u4, u5, uf⟩ := row6 X2; obtain ⟨l0, l1, l2, l3, l4, l5, lf⟩ := own_last hown2 (flat_len vs h6); have hl5 := row_lt T2; have hl6 := row_lt X2; have hg2 : g2 ≠ tb := (fun e => hat2.elim (fun h => Hal.out (e ▸ h)) (fun h => (by have h9 := hl3; rw [e] at h; (try simp at h); omega))); have ib1 : (0 : Int) ≤ (vs.length : Int) := (by omega); have ib2 : (vs.length : Int) < ((vs.length + 1 : Nat) : Int) := (by omega); have ib3 : (vs.length : Int) < (vs.length : Int) + 1 := (by omega))
  all_goals
    have S2 := hgrow2.size
    simp at S2
    have KK : w2.ownsRow base 9 1 (.slice (some ⟨g, 0, none⟩) (ks.length + 1) cap) (ks.length + 1) (ks.map Value.string ++ [.string key]) := ownsRow_carry HO1.out (fun q hq => by
      have hq2 := HO1.out.lt q hq
      exact (hgrow2.block q (by simp; omega) (fun e => own_apart HO1.out HK1.out (by decide) q hq e.symm)).trans ((Below.heap_alloc _ _ _ (by simp; omega)).trans (Below.heap_setCell _ _ _ _ (by have h9 := Hgt.out; simp [Value.ownBlock] at hq; subst hq; exact h9))))
    have hgg : g ≠ g2 := fun e => own_apart KK hown2 (by decide) g rfl (by rw [e]; rfl)
    have A2 : Aside (fun b => b = tb ∨ (Value.slice A4 ks.length c4).ownBlock = some b ∨ (Value.slice A5 vs.length c5).ownBlock = some b) w w2 := HA1.out.trans ⟨hgrow2.os, hgrow2.tape, hgrow2.output, by omega, fun b hb1 hn => (hgrow2.block b (by simp; omega) (fun e => hn (.inr (.inr e.symm)))).trans ((Below.heap_alloc _ _ _ (by simp; omega)).trans (Below.heap_setCell _ _ _ _ (fun e => hn (.inl e))))⟩
    have HG2 : (Value.slice A5 vs.length c5).ownBlock = some g2 ∨ w.heap.size ≤ g2 := by
      rcases hat2 with h | h
      · exact .inl h
      · right; simp at h; omega
    have P2 := own_put (us := [.int .i64 k, .bool f, .int .i64 m, .string t, .slice B4 n4 d4, .slice B5 n5 d5]) hown2 (flat_len vs h6) rfl rfl
    have HT2 := Lib.hid T2
    clear hgrow2 hat2 X2 T2
    go_wp2_with fail
    have KP := own_put (us := [.int .i64 k, .bool f, .int .i64 m, .string t, .slice B4 n4 d4, .slice B5 n5 d5]) (ownsRow_set_apart (a := ⟨tb, 5, none⟩) hown2 (by simp [Value.ownBlock]; exact hg2) (.slice (some ⟨g2, 0, none⟩) (vs.length + 1) cap2)) (flat_len vs h6) rfl rfl
    simp only [putCells, Nat.add_assoc, Nat.reduceAdd] at P2 KP
    refine bodyPost_end (v := .tuple #[]) (by simp only [results, Tryz.results32]; go_simp) rfl (leaf_fin3 (cap2 := cap2) h6 rfl (by repeat (first | (with_reducible exact Aside.refl _ _) | ((with_reducible refine aside_set ?_ ?_); (focus (simp; done))) | (with_reducible refine aside_alloc ?_))) Hgt.out hg2 hgg ?_ KK ?_ A2 HG2 HG1h.out)
    · first
        | ((with_reducible refine row_last (a5 := .slice A5 vs.length c5) ?_); exact Eq.trans (Aside.block (S := fun b => b = g2) (w := w2) (by repeat (first | (with_reducible exact Aside.refl _ _) | ((with_reducible refine aside_set ?_ ?_); (focus (simp; done))) | (with_reducible refine aside_alloc ?_))) tb hl5 (fun e => hg2 e.symm)) HT2.out)
        | exact Eq.trans (Aside.block (S := fun b => b = g2) (w := w2.setCell ⟨tb, 5, none⟩ (.slice (some ⟨g2, 0, none⟩) (vs.length + 1) cap2)) (by repeat (first | (with_reducible exact Aside.refl _ _) | ((with_reducible refine aside_set ?_ ?_); (focus (simp; done))) | (with_reducible refine aside_alloc ?_))) tb (by simpa using hl5) (fun e => hg2 e.symm)) (row_last HT2.out)
    · first
        | ((with_reducible refine ownsRow_set_apart (a := ⟨tb, 5, none⟩) ?_ ?_ _); exact P2; (simp [Value.ownBlock]; exact hg2))
        | exact KP
/-- The rows vk, vl hold the keys ks and the kids ts of a map; all lies behind block base, each part in blocks of its own, no kid's part in block tb. -/
def GRow (n base : Nat) (tb : Option Nat) (w : World) (ks : List ByteArray) (ts : List TreeD) (vk vl : Value) : Prop :=
  ∃ (css : List (List Value)) (F : Nat → Nat → Prop), css.length = ts.length ∧ w.ownsRow base 9 1 vk ks.length (ks.map Value.string) ∧ w.ownsRow base 30 6 vl css.length css.flatten ∧ (∀ es ∈ css, es.length = 6) ∧
    (∀ i b, F i b → base ≤ b ∧ b < w.heap.size ∧ vk.ownBlock ≠ some b ∧ vl.ownBlock ≠ some b ∧ tb ≠ some b) ∧ (∀ i j b, F i b → F j b → i = j) ∧ ∀ i d es, ts[i]? = some d → css[i]? = some es → OwnT n (F i) w d es
theorem GRow.nil (n base : Nat) (tb : Option Nat) (w : World) : GRow n base tb w [] [] (.slice none 0 0) (.slice none 0 0) :=
  ⟨[], fun _ _ => False, rfl, ⟨rfl, .inl ⟨rfl, rfl⟩⟩, ⟨rfl, .inl ⟨rfl, rfl⟩⟩, fun _ h => (by cases h), fun _ _ h => h.elim, fun _ _ _ h => h.elim, fun i d es h => (by simp at h)⟩
theorem GRow.carry {n base : Nat} {tb : Option Nat} {w w' : World} {ks : List ByteArray} {ts : List TreeD} {vk vl : Value} (h : GRow n base tb w ks ts vk vl) (hs : w.heap.size ≤ w'.heap.size) (hb : ∀ q, base ≤ q → q < w.heap.size → w'.heap[q]? = w.heap[q]?) : GRow n base tb w' ks ts vk vl := by
  obtain ⟨css, F, e, h1, h2, h3, h4, h5, h6⟩ := h
  exact ⟨css, F, e, ownsRow_carry h1 (fun q hq => hb q (h1.lt q hq).1 (h1.lt q hq).2), ownsRow_carry h2 (fun q hq => hb q (h2.lt q hq).1 (h2.lt q hq).2), h3, fun i b hF => ⟨(h4 i b hF).1, by have := (h4 i b hF).2.1; omega, (h4 i b hF).2.2⟩, h5,
    fun i d es hd he => (h6 i d es hd he).carry (fun b hF => hb b (h4 i b hF).1 (h4 i b hF).2.1) (fun _ h => h)⟩
theorem GRow.less {n base base' : Nat} {tb : Option Nat} {w : World} {ks : List ByteArray} {ts : List TreeD} {vk vl : Value} (h : GRow n base tb w ks ts vk vl) (hb : base' ≤ base) : GRow n base' tb w ks ts vk vl := by
  obtain ⟨css, F, e, h1, h2, h3, h4, h5, h6⟩ := h
  exact ⟨css, F, e, own_less h1 hb, own_less h2 hb, h3, fun i b hF => ⟨by have := (h4 i b hF).1; omega, (h4 i b hF).2⟩, h5, h6⟩
theorem GRow.up {n m base : Nat} {tb : Option Nat} {w : World} {ks : List ByteArray} {ts : List TreeD} {vk vl : Value} (h : GRow n base tb w ks ts vk vl) (hm : n ≤ m) : GRow m base tb w ks ts vk vl := by
  obtain ⟨css, F, e, h1, h2, h3, h4, h5, h6⟩ := h
  exact ⟨css, F, e, h1, h2, h3, h4, h5, fun i d es hd he => (h6 i d es hd he).up hm⟩
/-- Another box, made since. -/
theorem GRow.box {n base : Nat} {tb : Option Nat} {w : World} {ks : List ByteArray} {ts : List TreeD} {vk vl : Value} (h : GRow n base tb w ks ts vk vl) (t2 : Nat) (h2 : w.heap.size ≤ t2 ∨ t2 < base) : GRow n base (some t2) w ks ts vk vl := by
  obtain ⟨css, F, e, h1, h1b, h3, h4, h5, h6⟩ := h
  exact ⟨css, F, e, h1, h1b, h3, fun i b hF => ⟨(h4 i b hF).1, (h4 i b hF).2.1, (h4 i b hF).2.2.1, (h4 i b hF).2.2.2.1, fun e => by injection e with e; have := (h4 i b hF).1; have := (h4 i b hF).2.1; omega⟩, h5, h6⟩
theorem GRow.free {n base : Nat} {tb : Option Nat} {w : World} {ks : List ByteArray} {ts : List TreeD} {vk vl : Value} (h : GRow n base tb w ks ts vk vl) : GRow n base none w ks ts vk vl := by
  obtain ⟨css, F, e, h1, h1b, h3, h4, h5, h6⟩ := h
  exact ⟨css, F, e, h1, h1b, h3, fun i b hF => ⟨(h4 i b hF).1, (h4 i b hF).2.1, (h4 i b hF).2.2.1, (h4 i b hF).2.2.2.1, fun e => by cases e⟩, h5, h6⟩
theorem GRow.lt {n base : Nat} {tb : Option Nat} {w : World} {ks : List ByteArray} {ts : List TreeD} {vk vl : Value} (h : GRow n base tb w ks ts vk vl) : (∀ q, vk.ownBlock = some q → base ≤ q ∧ q < w.heap.size) ∧ ∀ q, vl.ownBlock = some q → base ≤ q ∧ q < w.heap.size := by
  obtain ⟨css, F, e, h1, h2, -⟩ := h
  exact ⟨fun q hq => h1.lt q hq, fun q hq => h2.lt q hq⟩
theorem GRow.form {n base : Nat} {tb : Option Nat} {w : World} {ks : List ByteArray} {ts : List TreeD} {vk vl : Value} (h : GRow n base tb w ks ts vk vl) : ∃ A4 c4 A5 c5, vk = .slice A4 ks.length c4 ∧ vl = .slice A5 ts.length c5 := by
  obtain ⟨css, F, e, h1, h2, -⟩ := h
  obtain ⟨A4, c4, rfl⟩ := own_form h1
  obtain ⟨A5, c5, rfl⟩ := own_form h2
  exact ⟨A4, c4, A5, c5, rfl, by rw [e]⟩
/-- The map as a whole. -/
theorem GRow.tree {n base : Nat} {tb : Option Nat} {w : World} {ks : List ByteArray} {ts : List TreeD} {vk vl : Value} (h : GRow n base tb w ks ts vk vl) (hk : ∀ k ∈ ks, k.size ≤ 9223372036854775807) :
    OwnT (n + 1) (fun b => base ≤ b ∧ b < w.heap.size) w ⟨6, false, 0, ⟨#[]⟩, ks, ts⟩ [.int .i64 6, .bool false, .int .i64 0, .string ⟨#[]⟩, vk, vl] := by
  obtain ⟨css, F, e, h1, h2, h3, h4, h5, h6⟩ := h
  exact own_map (n := n) (base := base) (css := css) F e h3 h1 h2 hk (fun i b hF => ⟨⟨(h4 i b hF).1, (h4 i b hF).2.1⟩, (h4 i b hF).2.2.1, (h4 i b hF).2.2.2.1⟩) h5 h6 (fun b h1 h3 => ⟨h1, h3⟩)
end Go.Proofs.YteecgklmdfockaaGreatDoor
namespace Go.Proofs.YteecgklmdfockaaGreatDoor
open Go.RowKit
theorem GRow.push {n base : Nat} {tb : Option Nat} {w w' : World} {ks : List ByteArray} {ts : List TreeD} {vk vl vk' vl' : Value} {key : ByteArray} {d : TreeD} {kc : List Value} {S : Nat → Prop}
    (css : List (List Value)) (F : Nat → Nat → Prop) (e : css.length = ts.length) (h3 : ∀ es ∈ css, es.length = 6) (B : Nat)
    (h4 : ∀ i b, F i b → base ≤ b ∧ b < B ∧ vk.ownBlock ≠ some b ∧ vl.ownBlock ≠ some b ∧ tb ≠ some b) (h5 : ∀ i j b, F i b → F j b → i = j) (h6 : ∀ i d es, ts[i]? = some d → css[i]? = some es → OwnT n (F i) w d es)
    (hk : w'.ownsRow base 9 1 vk' (ks ++ [key]).length ((ks ++ [key]).map Value.string)) (hl : w'.ownsRow base 30 6 vl' (css ++ [kc]).length (css ++ [kc]).flatten) (hkc : kc.length = 6)
    (hB : base ≤ B) (hBw : B ≤ w.heap.size) (hw : w.heap.size ≤ w'.heap.size) (hO : OwnT n S w d kc) (hS : ∀ b, S b → B ≤ b ∧ b < w.heap.size ∧ vk.ownBlock ≠ some b ∧ vl.ownBlock ≠ some b ∧ tb ≠ some b)
    (hkeep : ∀ b, b < w.heap.size → base ≤ b → vk.ownBlock ≠ some b → vl.ownBlock ≠ some b → tb ≠ some b → w'.heap[b]? = w.heap[b]?)
    (hk' : ∀ q, vk'.ownBlock = some q → vk.ownBlock = some q ∨ w.heap.size ≤ q) (hl' : ∀ q, vl'.ownBlock = some q → vl.ownBlock = some q ∨ w.heap.size ≤ q) : GRow n base tb w' (ks ++ [key]) (ts ++ [d]) vk' vl' := by
  have apart : ∀ b, b < w.heap.size → vk.ownBlock ≠ some b → vl.ownBlock ≠ some b → vk'.ownBlock ≠ some b ∧ vl'.ownBlock ≠ some b := fun b hb a1 a2 =>
    ⟨fun e => by rcases hk' b e with h | h; exact a1 h; omega, fun e => by rcases hl' b e with h | h; exact a2 h; omega⟩
  refine ⟨css ++ [kc], fun i b => (i < ts.length ∧ F i b) ∨ (i = ts.length ∧ S b), by simp [e], hk, hl, ?_, ?_, ?_, ?_⟩
  · intro x hx
    rcases List.mem_append.1 hx with hx | hx
    · exact h3 x hx
    · simp at hx; subst hx; exact hkc
  · rintro i b (⟨-, hF⟩ | ⟨-, hF⟩)
    · obtain ⟨f1, f2, f3, f4, f5⟩ := h4 i b hF
      exact ⟨f1, by omega, (apart b (by omega) f3 f4).1, (apart b (by omega) f3 f4).2, f5⟩
    · obtain ⟨f1, f2, f3, f4, f5⟩ := hS b hF
      exact ⟨by omega, by omega, (apart b f2 f3 f4).1, (apart b f2 f3 f4).2, f5⟩
  · rintro i j b (⟨hi, hF⟩ | ⟨hi, hF⟩) (⟨hj, hG⟩ | ⟨hj, hG⟩)
    · exact h5 i j b hF hG
    · have := (h4 i b hF).2.1; have := (hS b hG).1; omega
    · have := (h4 j b hG).2.1; have := (hS b hF).1; omega
    · omega
  · intro i d' es' hd' hes'
    by_cases hlt : i < ts.length
    · rw [List.getElem?_append_left hlt] at hd'
      rw [List.getElem?_append_left (by omega)] at hes'
      refine (h6 i d' es' hd' hes').carry (fun b hF => ?_) (fun b hF => .inl ⟨hlt, hF⟩)
      obtain ⟨f1, f2, f3, f4, f5⟩ := h4 i b hF
      exact hkeep b (by omega) f1 f3 f4 f5
    · have hil : i = ts.length := by
        have := (List.getElem?_eq_some_iff.1 hd').1
        simp at this
        omega
      subst hil
      rw [List.getElem?_append_right (by omega)] at hd'
      rw [List.getElem?_append_right (by omega), e] at hes'
      simp at hd' hes'
      subst hd' hes'
      refine hO.carry (fun b hb => ?_) (fun b hb => .inr ⟨rfl, hb⟩)
      obtain ⟨f1, f2, f3, f4, f5⟩ := hS b hb
      exact hkeep b f2 (by omega) f3 f4 f5
/-- The box tb holds a map under construction. -/
def GMap (n base tb : Nat) (w : World) (ks : List ByteArray) (ts : List TreeD) : Prop :=
  ∃ vk vl, w.heap[tb]? = some (.cells #[.int .i64 6, .bool false, .int .i64 0, .string ⟨#[]⟩, vk, vl] 30 (0, 0)) ∧ GRow n base (some tb) w ks ts vk vl ∧ vk.ownBlock ≠ some tb ∧ vl.ownBlock ≠ some tb
theorem GMap.nil {n base tb : Nat} {w : World} (hr : w.heap[tb]? = some (.cells #[.int .i64 6, .bool false, .int .i64 0, .string ⟨#[]⟩, .slice none 0 0, .slice none 0 0] 30 (0, 0))) : GMap n base tb w [] [] :=
  ⟨_, _, hr, GRow.nil n base (some tb) w, fun h => (by cases h), fun h => (by cases h)⟩
theorem GMap.carry {n base tb : Nat} {w w' : World} {ks : List ByteArray} {ts : List TreeD} (h : GMap n base tb w ks ts) (hb : Below w.heap.size w w') : GMap n base tb w' ks ts := by
  obtain ⟨vk, vl, hr, hg, a1, a2⟩ := h
  exact ⟨vk, vl, (hb.block tb (row_lt hr)).trans hr, hg.carry hb.size (fun q _ hq => hb.block q hq), a1, a2⟩
theorem GMap.open {n base tb : Nat} {w : World} {ks : List ByteArray} {ts : List TreeD} (h : GMap n base tb w ks ts) : ∃ (A4 A5 : Option Addr) (n4 c4 n5 c5 : Nat), w.heap[tb]? = some (.cells #[.int .i64 6, .bool false, .int .i64 0, .string ⟨#[]⟩, .slice A4 n4 c4, .slice A5 n5 c5] 30 (0, 0)) ∧ GRow n base (some tb) w ks ts (.slice A4 n4 c4) (.slice A5 n5 c5) ∧ (Value.slice A4 n4 c4).ownBlock ≠ some tb ∧ (Value.slice A5 n5 c5).ownBlock ≠ some tb := by
  obtain ⟨vk, vl, hr, hg, a1, a2⟩ := h
  obtain ⟨A4, c4, A5, c5, rfl, rfl⟩ := hg.form
  exact ⟨_, _, _, _, _, _, hr, hg, a1, a2⟩
theorem GMap.lt {n base tb : Nat} {w : World} {ks : List ByteArray} {ts : List TreeD} (h : GMap n base tb w ks ts) : tb < w.heap.size := by
  obtain ⟨vk, vl, hr, -⟩ := h
  exact row_lt hr
/-- One pair more; what the kid points to has been made since the map was last told. -/
theorem c_addKidG (n : Nat) (ks : List ByteArray) (ts : List TreeD) (key : ByteArray) (d : TreeD) (kc : List Value) (tb base : Nat) (w0 w : World) (h : GMap n base tb w0 ks ts) (hb : Below w0.heap.size w0 w) (hO : OwnT n (fun b => w0.heap.size ≤ b ∧ b < w.heap.size) w d kc) (hbase : base ≤ w0.heap.size) (hk : ks.length ≤ 1048576) (hv : ts.length ≤ 1048576) :
    Calls Tryz.prog 32 #[.pointer (some ⟨tb, 0, none⟩), .string key, .agg kc.toArray] w fun e w' => e = .returned (.tuple #[]) ∧ GMap n base tb w' (ks ++ [key]) (ts ++ [d]) ∧ (∀ B, B ≤ tb → B ≤ base → Below B w w') ∧ w.heap.size ≤ w'.heap.size := by
  obtain ⟨A4, c4, A5, c5, rfl, -⟩ := hO.flat
  obtain ⟨vk, vl, hr, hG, a1, a2⟩ := h
  obtain ⟨b1, b2⟩ := hG.lt
  obtain ⟨css, F, e, h1, h2, h3, h4, h5, h6⟩ := hG
  have hkw : w.ownsRow base 9 1 vk ks.length (ks.map Value.string) := ownsRow_carry h1 (fun q hq => hb.block q (h1.lt q hq).2)
  have hlw : w.ownsRow base 30 6 vl css.length css.flatten := ownsRow_carry h2 (fun q hq => hb.block q (h2.lt q hq).2)
  have hsz := hb.size
  have htb := row_lt hr
  refine (c_addKid3 ks css key d.text d.kind d.num d.flag A4 A5 d.keys.length c4 d.kids.length c5 vk vl tb base w ⟨(hb.block tb (row_lt hr)).trans hr, hkw, hlw, h3, a1, a2⟩ (by omega) hk (by omega)).mono ?_
  rintro e' w' ⟨vk', vl', rfl, hL, hA, hl', hk'⟩
  refine ⟨rfl, ⟨vk', vl', hL.row, ?_, hL.apk, hL.apl⟩, fun B q1 q2 => hA.below (by omega) ?_, hA.size⟩
  · refine GRow.push (B := w0.heap.size) (w := w) (vk := vk) (vl := vl) (key := key) (S := fun b => w0.heap.size ≤ b ∧ b < w.heap.size) css F e h3 h4 h5 (fun i d es hd he => (h6 i d es hd he).carry (fun b hF => hb.block b (h4 i b hF).2.1) (fun _ h => h)) hL.keys hL.kids rfl hbase hsz hA.size
      hO (fun b hb => ⟨hb.1, hb.2, fun e => by have := (b1 b e).2; omega, fun e => by have := (b2 b e).2; omega, fun e => by injection e with e; omega⟩) (fun b q1 q2 q3 q4 q5 => hA.block b q1 (by rintro (e | e | e); exact q5 (by rw [e]); exact q3 e; exact q4 e)) hk' hl'
  · rintro i (rfl | hi | hi)
    · exact q1
    · have := (hkw.lt i hi).1; omega
    · have := (hlw.lt i hi).1; omega
/-- One pair more, of the reference: new rows. -/
theorem c_l20PutG (n : Nat) (ks : List ByteArray) (ts : List TreeD) (key : ByteArray) (d : TreeD) (kc : List Value) (vk vl : Value) (base : Nat) (tb : Option Nat) (w0 w : World) (h : GRow n base tb w0 ks ts vk vl) (hb : Below w0.heap.size w0 w) (hO : OwnT n (fun b => w0.heap.size ≤ b ∧ b < w.heap.size) w d kc) (htb : ∀ q, tb = some q → q < w0.heap.size) (hbase : base ≤ w0.heap.size) (hlen : ts.length = ks.length) (hks : ∀ x ∈ ks, x.size ≤ 9223372036854775807) (hlt : ∀ x ∈ ks, lessS x key = true) (hk : ks.length ≤ 1048576) :
    Calls Tryz.prog 24 #[.agg #[.int .i64 6, .bool false, .int .i64 0, .string ⟨#[]⟩, vk, vl], .string key, .agg kc.toArray] w fun e w' => ∃ (A4 A5 : Option Addr) (n4 c4 n5 c5 : Nat), e = .returned (.agg #[.int .i64 6, .bool false, .int .i64 0, .string ⟨#[]⟩, .slice A4 n4 c4, .slice A5 n5 c5]) ∧ GRow n base tb w' (ks ++ [key]) (ts ++ [d]) (.slice A4 n4 c4) (.slice A5 n5 c5) ∧ (∀ q, (Value.slice A4 n4 c4).ownBlock = some q → w.heap.size ≤ q) ∧ (∀ q, (Value.slice A5 n5 c5).ownBlock = some q → w.heap.size ≤ q) ∧ Below w.heap.size w w' := by
  obtain ⟨A4, c4, A5, c5, rfl, -⟩ := hO.flat
  obtain ⟨b1, b2⟩ := h.lt
  obtain ⟨css, F, e, h1, h2, h3, h4, h5, h6⟩ := h
  have hkw : w.ownsRow base 9 1 vk ks.length (ks.map Value.string) := ownsRow_carry h1 (fun q hq => hb.block q (h1.lt q hq).2)
  have hlw : w.ownsRow base 30 6 vl css.length css.flatten := ownsRow_carry h2 (fun q hq => hb.block q (h2.lt q hq).2)
  have hsz := hb.size
  have hone : ∀ x ∈ css.flatten, x.oneCell' = true := by
    intro x hx
    obtain ⟨es, hes, hxe⟩ := List.mem_flatten.1 hx
    obtain ⟨i, hi⟩ := List.mem_iff_getElem?.1 hes
    have hil : i < ts.length := by rw [← e]; exact (List.getElem?_eq_some_iff.1 hi).1
    obtain ⟨t, ht⟩ := exists_at hil
    exact (h6 i t es ht hi).one x hxe
  refine (c_l20Put ks css key d.text 6 0 d.kind d.num false d.flag ⟨#[]⟩ A4 A5 d.keys.length c4 d.kids.length c5 vk vl base w ⟨hkw, hlw, h3, hone⟩ (by omega) hks hlt hk).mono ?_
  rintro e' w' ⟨vk', vl', rfl, hL, hA⟩
  obtain ⟨E4, e4, rfl⟩ := own_form hL.keys
  obtain ⟨E5, e5, rfl⟩ := own_form hL.kids
  refine ⟨_, _, _, _, _, _, rfl, ?_, fun q hq => (hL.keys.lt q hq).1, fun q hq => (hL.kids.lt q hq).1, hA⟩
  refine GRow.push (B := w0.heap.size) (w := w) (vk := vk) (vl := vl) (key := key) (S := fun b => w0.heap.size ≤ b ∧ b < w.heap.size) css F e h3 h4 h5 (fun i d es hd he => (h6 i d es hd he).carry (fun b hF => hb.block b (h4 i b hF).2.1) (fun _ h => h)) (own_less hL.keys (by omega)) (own_less hL.kids (by omega)) rfl hbase hsz hA.size
      hO (fun b hb => ⟨hb.1, hb.2, fun e => by have := (b1 b e).2; omega, fun e => by have := (b2 b e).2; omega, fun e => by have := htb b e; omega⟩) (fun b q1 _ _ _ _ => hA.block b q1) (fun q hq => .inr (hL.keys.lt q hq).1) (fun q hq => .inr (hL.kids.lt q hq).1)
/-- The rows told anew in a box: all else is as it was. -/
theorem GMap.of_put {n base tb : Nat} {w wF : World} {ks : List ByteArray} {ts : List TreeD} {A4 A5 : Option Addr} {n4 c4 n5 c5 : Nat} (h : GRow n base (some tb) w ks ts (.slice A4 n4 c4) (.slice A5 n5 c5)) (hA : Aside (fun b => b = tb) w wF)
    (hr : wF.heap[tb]? = some (.cells #[.int .i64 6, .bool false, .int .i64 0, .string ⟨#[]⟩, .slice A4 n4 c4, .slice A5 n5 c5] 30 (0, 0))) (a1 : (Value.slice A4 n4 c4).ownBlock ≠ some tb) (a2 : (Value.slice A5 n5 c5).ownBlock ≠ some tb) : GMap n base tb wF ks ts := by
  refine ⟨_, _, hr, ?_, a1, a2⟩
  obtain ⟨css, F, e, h1, h2, h3, h4, h5, h6⟩ := h
  have hz := hA.size
  refine ⟨css, F, e, ownsRow_carry h1 (fun q hq => hA.block q (h1.lt q hq).2 (fun e => a1 (by rw [hq, e]))), ownsRow_carry h2 (fun q hq => hA.block q (h2.lt q hq).2 (fun e => a2 (by rw [hq, e]))), h3, fun i b hF => ⟨(h4 i b hF).1, by have := (h4 i b hF).2.1; omega, (h4 i b hF).2.2⟩, h5,
    fun i d es hd he => (h6 i d es hd he).carry (fun b hF => hA.block b (h4 i b hF).2.1 (fun e => (h4 i b hF).2.2.2.2 (by rw [e]))) (fun _ h => h)⟩
/-- All six cells of a box turned. -/
def set6 (w : World) (tb : Nat) (v4 v5 : Value) : World := ((((((w.setCell ⟨tb, 0, none⟩ (.int .i64 6)).setCell ⟨tb, 1, none⟩ (.bool false)).setCell ⟨tb, 2, none⟩ (.int .i64 0)).setCell ⟨tb, 3, none⟩ (.string ⟨#[]⟩)).setCell ⟨tb, 4, none⟩ v4).setCell ⟨tb, 5, none⟩ v5)
theorem set6_aside (w : World) (tb : Nat) (v4 v5 : Value) : Aside (fun b => b = tb) w (set6 w tb v4 v5) := by
  unfold set6
  exact (by repeat (first | (with_reducible exact Aside.refl _ _) | ((with_reducible refine aside_set ?_ ?_); (focus (simp; done))) | (with_reducible refine aside_alloc ?_)))
end Go.Proofs.YteecgklmdfockaaGreatDoor
namespace Go.Proofs.YteecgklmdfockaaGreatDoor
open Go.Shelf
def laysItoa_ren : Go.Shelf.Ren := ⟨fun | 171 => 129 | 243 => 137 | 246 => 141 | 283 => 144 | 284 => 145 | 285 => 146 | 286 => 147 | 129 => 150 | 317 => 149 | 318 => 151 | 319 => 152 | 320 => 153 | 337 => 154 | 338 => 155 | n => n, fun | 3 => 3 | 9 => 9 | 2 => 2 | 4 => 4 | 171 => 146 | 0 => 0 | 53 => 147 | 37 => 131 | 5 => 5 | 173 => 150 | 212 => 154 | 51 => 155 | 20 => 20 | 213 => 156 | 46 => 157 | 232 => 160 | 233 => 161 | n => n, fun | 17 => 1 | 18 => 2 | 19 => 3 | n => n⟩
theorem laysItoa : Go.Proofs.LaysM.n171 Tryz.prog laysItoa_ren := {
  mixed := by kernel_rfl
  f129 := Tryz.func150.trans (congrArg some (by kernel_rfl))
  f171 := Tryz.func129.trans (congrArg some (by kernel_rfl))
  f243 := Tryz.func137.trans (congrArg some (by kernel_rfl))
  f246 := Tryz.func141.trans (congrArg some (by kernel_rfl))
  f283 := Tryz.func144.trans (congrArg some (by kernel_rfl))
  f284 := Tryz.func145.trans (congrArg some (by kernel_rfl))
  f285 := Tryz.func146.trans (congrArg some (by kernel_rfl))
  f286 := Tryz.func147.trans (congrArg some (by kernel_rfl))
  f317 := Tryz.func149.trans (congrArg some (by kernel_rfl))
  f318 := Tryz.func151.trans (congrArg some (by kernel_rfl))
  f319 := Tryz.func152.trans (congrArg some (by kernel_rfl))
  f320 := Tryz.func153.trans (congrArg some (by kernel_rfl))
  f337 := Tryz.func154.trans (congrArg some (by kernel_rfl))
  f338 := Tryz.func155.trans (congrArg some (by kernel_rfl))
  t0 := Tryz.underlying0
  a0 := Tryz.isAgg0
  z0 := Tryz.sizeOf0
  v0 := Tryz.zeroValue0
  t2 := Tryz.underlying2
  a2 := Tryz.isAgg2
  z2 := Tryz.sizeOf2
  v2 := Tryz.zeroValue2
  t3 := Tryz.underlying3
  a3 := Tryz.isAgg3
  z3 := Tryz.sizeOf3
  v3 := Tryz.zeroValue3
  t4 := Tryz.underlying4
  a4 := Tryz.isAgg4
  z4 := Tryz.sizeOf4
  v4 := Tryz.zeroValue4
  t5 := Tryz.underlying5
  a5 := Tryz.isAgg5
  z5 := Tryz.sizeOf5
  v5 := Tryz.zeroValue5
  t9 := Tryz.underlying9
  a9 := Tryz.isAgg9
  z9 := Tryz.sizeOf9
  v9 := Tryz.zeroValue9
  t20 := Tryz.underlying20
  a20 := Tryz.isAgg20
  z20 := Tryz.sizeOf20
  v20 := Tryz.zeroValue20
  t37 := Tryz.underlying131
  a37 := Tryz.isAgg131
  z37 := Tryz.sizeOf131
  v37 := Tryz.zeroValue131
  t46 := Tryz.underlying157
  a46 := Tryz.isAgg157
  z46 := Tryz.sizeOf157
  v46 := Tryz.zeroValue157
  t51 := Tryz.underlying155
  a51 := Tryz.isAgg155
  z51 := Tryz.sizeOf155
  v51 := Tryz.zeroValue155
  t53 := Tryz.underlying147
  a53 := Tryz.isAgg147
  z53 := Tryz.sizeOf147
  v53 := Tryz.zeroValue147
  t171 := Tryz.underlying146
  a171 := Tryz.isAgg146
  z171 := Tryz.sizeOf146
  v171 := Tryz.zeroValue146
  t173 := Tryz.underlying150
  a173 := Tryz.isAgg150
  z173 := Tryz.sizeOf150
  v173 := Tryz.zeroValue150
  t212 := Tryz.underlying154
  a212 := Tryz.isAgg154
  z212 := Tryz.sizeOf154
  v212 := Tryz.zeroValue154
  t213 := Tryz.underlying156
  a213 := Tryz.isAgg156
  z213 := Tryz.sizeOf156
  t232 := Tryz.underlying160
  a232 := Tryz.isAgg160
  z232 := Tryz.sizeOf160
  v232 := Tryz.zeroValue160
  t233 := Tryz.underlying161
  a233 := Tryz.isAgg161
  z233 := Tryz.sizeOf161
  v233 := Tryz.zeroValue161
  g17 := by kernel_rfl
  g18 := by kernel_rfl
  g19 := by kernel_rfl
  i0 := by kernel_rfl
  i2 := by kernel_rfl
  i3 := by kernel_rfl
  i4 := by kernel_rfl
  i5 := by kernel_rfl
  i9 := by kernel_rfl
  i20 := by kernel_rfl
  i37 := by kernel_rfl
  i46 := by kernel_rfl
  i51 := by kernel_rfl
  i53 := by kernel_rfl
  i171 := by kernel_rfl
  i173 := by kernel_rfl
  i212 := by kernel_rfl
  i232 := by kernel_rfl
  i233 := by kernel_rfl
  m17 := by kernel_rfl
  m18 := by kernel_rfl
  m19 := by kernel_rfl }
end Go.Proofs.YteecgklmdfockaaGreatDoor
namespace Go.Proofs.YteecgklmdfockaaGreatDoor
open Go.RowKit
def decS (n : Int) : ByteArray := ⟨(Lib.itoa n).toArray⟩
theorem dec_len : ∀ (k u : Nat), u < 10 ^ (k + 1) → (Lib.decDigits u).length ≤ k + 1
  | 0, u, h => by
    rw [Lib.decDigits, dif_pos (by simpa using h)]
    simp
  | k + 1, u, h => by
    rw [Lib.decDigits]
    by_cases h10 : u < 10
    · rw [dif_pos h10]; simp
    · rw [dif_neg h10, List.length_append]
      have h2 : u / 10 < 10 ^ (k + 1) := by
        rw [Nat.div_lt_iff_lt_mul (by decide)]
        rw [Nat.pow_succ] at h
        exact h
      have := dec_len k (u / 10) h2
      simp
      omega
theorem decS_size (n : Int) (hn : -9223372036854775808 ≤ n ∧ n ≤ 9223372036854775807) : (decS n).size ≤ 20 := by
  show (Lib.itoa n).toArray.size ≤ 20
  rw [List.size_toArray]
  unfold Lib.itoa
  split
  · have := dec_len 18 n.natAbs (by omega)
    rw [List.length_cons]
    omega
  · have := dec_len 18 n.toNat (by omega)
    omega
theorem app_assoc (a b c : ByteArray) : a ++ b ++ c = a ++ (b ++ c) := ByteArray.append_assoc
theorem mkL_dec (u : Nat) (hu : 0 < u) (out : ByteArray) : mkL u out = ⟨(Lib.decDigits u).toArray⟩ ++ out := by
  induction u using Nat.strongRecOn generalizing out with
  | ind u ih =>
    rw [mkL_pos u out hu, Lib.decDigits]
    by_cases h : u < 10
    · rw [dif_pos h]
      have h0 : u / 10 = 0 := by omega
      rw [h0, mkL_zero]
      unfold digit
      rw [Nat.mod_eq_of_lt h]
    · rw [dif_neg h, ih (u / 10) (by omega) (by omega)]
      rw [← app_assoc]
      congr 1
theorem decS_zero : decS 0 = ⟨#[48]⟩ := by
  unfold decS Lib.itoa
  rw [if_neg (by decide)]
  unfold Lib.decDigits
  rfl
theorem decS_pos (u : Nat) (hu : 0 < u) : decS u = mkL u ⟨#[]⟩ := by
  rw [mkL_dec u hu]
  unfold decS Lib.itoa
  rw [if_neg (by omega)]
  apply ByteArray.ext
  simp
theorem decS_neg (u : Nat) (hu : 0 < u) : decS (-(u : Int)) = ⟨#[45]⟩ ++ mkL u ⟨#[]⟩ := by
  rw [mkL_dec u hu]
  unfold decS Lib.itoa
  rw [if_pos (by omega)]
  apply ByteArray.ext
  simp
theorem c_spec_l01Figure (r : Nat) (w : World) (hr : r < 10) :
    Calls Tryz.prog 124 #[.int .i64 (r : Nat)] w fun e w' => e = .returned (.int .u8 (48 + (r : Int))) ∧ w = w' := by
  have h1 : (r : Int) < 10 := by omega
  have h0 : (0 : Int) ≤ r := by omega
  go_enter Tryz.func124, Tryz.ntmps124
  go_wp2_with fail
  go_ret
  exact ⟨by first | rfl | (congr 2; omega), rfl⟩
theorem tmod_neg10 (j : Nat) : (-(j : Int)).tmod 10 = -((j % 10 : Nat) : Int) := by
  rw [Int.neg_tmod, Int.tmod_eq_emod_of_nonneg (by omega)]
  omega
theorem tdiv_neg10 (j : Nat) : (-(j : Int)).tdiv 10 = -((j / 10 : Nat) : Int) := by
  rw [Int.neg_tdiv, Int.tdiv_eq_ediv_of_nonneg (by omega)]
  omega
theorem figure_text (w : World) (j r : Nat) (hr : r = j % 10) : (convert 131 9 (.slice (some ⟨w.heap.size, 0, none⟩) 1 1)).run Tryz.prog (w.alloc (.cells #[.int .u8 (48 + (r : Int))] 5)) = .ok (.string (digit j)) (w.alloc (.cells #[.int .u8 (48 + (r : Int))] 5)) := by
  refine run_convert_bytes_back (P := Tryz.prog) _ 131 9 5 ⟨w.heap.size, 0, none⟩ 1 [UInt8.ofNat (48 + j % 10)] Tryz.underlying131 Tryz.underlying5 Tryz.underlying9 (fun i hi => ?_)
  obtain rfl : i = 0 := by simpa using hi
  have e : ((UInt8.ofNat (48 + j % 10)).toNat : Int) = 48 + (r : Int) := by
    rw [UInt8.toNat_ofNat']; omega
  have e2 : (⟨w.heap.size, 0, none⟩ : Addr).add 0 = ⟨w.heap.size, 0, none⟩ := rfl
  rw [e2, World.cell?_alloc_mark]
  simp only [List.getElem_cons_zero, e]
  rfl
set_option maxHeartbeats 1000000 in
set_option maxRecDepth 10000 in
theorem c_spec_Decimal (n : Int) (w : World) (hn : -9223372036854775808 ≤ n ∧ n ≤ 9223372036854775807) :
    Calls Tryz.prog 110 #[.int .i64 n] w fun e w' => e = .returned (.string (decS n)) ∧ Below w.heap.size w w' := by
  by_cases h0 : n = 0
  · subst h0
    have HZ := Lib.hid decS_zero
    go_enter Tryz.func110, Tryz.ntmps110
    go_wp2_with fail
    go_ret
    exact ⟨by rw [HZ.out]; rfl, Below.refl _ _⟩
  · by_cases hneg : n < 0
    · obtain ⟨u, rfl⟩ : ∃ u : Nat, n = -(u : Int) := ⟨n.natAbs, by omega⟩
      have hu : 0 < u := by omega
      have HD := Lib.hid (decS_neg u hu)
      obtain ⟨hn1, hn2⟩ := hn
      have h0b : (-(u : Int) == 0) = false := beq_eq_false_iff_ne.2 h0
      have hnb : decide (-(u : Int) < 0) = true := decide_eq_true hneg
      clear h0
      go_enter Tryz.func110, Tryz.ntmps110
      go_wp2_with fail
      go_loopw [0, 4] (fun s0 s4 wr => ∃ (j : Nat) (out : ByteArray), s0 = .int .i64 (-(j : Int)) ∧ s4 = .string out ∧ mkL j out = mkL u ⟨#[]⟩ ∧ out.size + j ≤ u ∧ (out.size = 0 ∨ out.size + j ≤ u / 10 + 1) ∧ Below w.heap.size w wr) (fun s0 _ _ => (intOf s0).natAbs)
      case atStart => exact ⟨u, ⟨#[]⟩, rfl, rfl, rfl, by show 0 + _ ≤ _; omega, .inl rfl, Below.refl _ _⟩
      case round =>
        obtain ⟨j, out, rfl, rfl, hm, hs, hs2, hbr⟩ := hrel
        have Hj := Lib.hid hm
        clear hm
        by_cases hj : 0 < j
        · have hj0 : (-(j : Int) != 0) = true := bne_iff_ne.2 (by omega)
          have hj1 : -9223372036854775808 ≤ -(j : Int) := by omega
          obtain ⟨r, hr⟩ : ∃ r, r = j % 10 := ⟨_, rfl⟩
          have h1 := tmod_neg10 j
          have h2 := tdiv_neg10 j
          rw [← hr] at h1
          have hr9 : r < 10 := by omega
          have hd1 : (digit j).size = 1 := rfl
          have Hn := Lib.hid (show mkL (j / 10) (digit j ++ out) = mkL u ⟨#[]⟩ by rw [← Hj.out, mkL_pos j out hj])
          have Hz := Lib.hid (show (digit j ++ out).size + j / 10 ≤ u ∧ ((digit j ++ out).size = 0 ∨ (digit j ++ out).size + j / 10 ≤ u / 10 + 1) by rw [ByteArray.size_append, hd1]; omega)
          have hcv := figure_text wr j r hr
          have hso : out.size ≤ 9223372036854775806 := by clear h1 h2; omega
          clear hr hs2
          by_cases hr0 : r = 0
          · subst hr0
            have hcv0 := hcv
            rw [show (48 + ((0 : Nat) : Int)) = 48 from rfl] at hcv0
            clear hcv
            go_wp2_with fail
            refine (c_spec_l01Figure 0 _ hr9).mono ?_
            rintro e w9 ⟨rfl, rfl⟩
            go_wp2_with fail
            go_roundw
            case rel => exact ⟨j / 10, digit j ++ out, by go_num, rfl, Hn.out, Hz.out.1, Hz.out.2, bel⟩
            case measure => simp [intOf]; omega
          · have hrn : -(r : Int) < 0 := by omega
            go_wp2_with fail
            refine (c_spec_l01Figure r _ hr9).mono ?_
            rintro e w9 ⟨rfl, rfl⟩
            go_wp2_with fail
            go_roundw
            case rel => exact ⟨j / 10, digit j ++ out, by go_num, rfl, Hn.out, Hz.out.1, Hz.out.2, bel⟩
            case measure => simp [intOf]; omega
        · obtain rfl : j = 0 := by omega
          have HO := Lib.hid (show decS (-(u : Int)) = ⟨#[45]⟩ ++ out by rw [HD.out, ← Hj.out, mkL_zero])
          have hso : out.size ≤ 9223372036854775806 := by omega
          go_wp2_with fail
          go_ret
          exact ⟨by rw [HO.out]; rfl, bel⟩
    · obtain ⟨u, rfl⟩ : ∃ u : Nat, n = (u : Int) := ⟨n.toNat, by omega⟩
      have hu : 0 < u := by omega
      have HD := Lib.hid (decS_pos u hu)
      obtain ⟨hn1, hn2⟩ := hn
      have h0b : ((u : Int) == 0) = false := beq_eq_false_iff_ne.2 h0
      have hnb : decide ((u : Int) < 0) = false := decide_eq_false hneg
      clear h0
      go_enter Tryz.func110, Tryz.ntmps110
      go_wp2_with fail
      go_loopw [0, 4] (fun s0 s4 wr => ∃ (j : Nat) (out : ByteArray), s0 = .int .i64 (j : Int) ∧ s4 = .string out ∧ mkL j out = mkL u ⟨#[]⟩ ∧ out.size + j ≤ u ∧ (out.size = 0 ∨ out.size + j ≤ u / 10 + 1) ∧ Below w.heap.size w wr) (fun s0 _ _ => (intOf s0).natAbs)
      case atStart => exact ⟨u, ⟨#[]⟩, rfl, rfl, rfl, by show 0 + _ ≤ _; omega, .inl rfl, Below.refl _ _⟩
      case round =>
        obtain ⟨j, out, rfl, rfl, hm, hs, hs2, hbr⟩ := hrel
        have Hj := Lib.hid hm
        clear hm
        by_cases hj : 0 < j
        · have hj0 : ((j : Int) != 0) = true := bne_iff_ne.2 (by omega)
          have hj2 : (0 : Int) ≤ j := by omega
          have hj3 : (j : Int) ≤ 9223372036854775807 := by omega
          have hr9 : j % 10 < 10 := by omega
          have hd1 : (digit j).size = 1 := rfl
          have Hn := Lib.hid (show mkL (j / 10) (digit j ++ out) = mkL u ⟨#[]⟩ by rw [← Hj.out, mkL_pos j out hj])
          have Hz := Lib.hid (show (digit j ++ out).size + j / 10 ≤ u ∧ ((digit j ++ out).size = 0 ∨ (digit j ++ out).size + j / 10 ≤ u / 10 + 1) by rw [ByteArray.size_append, hd1]; omega)
          have hcv := figure_text wr j (j % 10) rfl
          rw [show ((j % 10 : Nat) : Int) = (j : Int) % 10 from by omega] at hcv
          have hso : out.size ≤ 9223372036854775806 := by omega
          have hge : ¬ (j : Int) % 10 < 0 := by omega
          clear hs2
          go_wp2_with fail
          refine (c_spec_l01Figure (j % 10) _ hr9).mono ?_
          rintro e w9 ⟨rfl, rfl⟩
          go_wp2_with fail
          go_roundw
          case rel => exact ⟨j / 10, digit j ++ out, by go_num, rfl, Hn.out, Hz.out.1, Hz.out.2, bel⟩
          case measure => simp [intOf]; omega
        · obtain rfl : j = 0 := by omega
          have HO := Lib.hid (show decS (u : Int) = out by rw [HD.out, ← Hj.out, mkL_zero])
          go_wp2_with fail
          go_ret
          exact ⟨by rw [HO.out]; rfl, bel⟩
end Go.Proofs.YteecgklmdfockaaGreatDoor
namespace Go.Proofs.YteecgklmdfockaaGreatDoor
open Go.RowKit
/-- The library's table of powers is laid. -/
def Pow (w : World) : Prop := Lib.TabIs Tryz.prog w "internal/strconv.uint64pow10" .u64 Lib.pow10Tab
theorem Pow.below {w w' : World} (h : Pow w) (hb : Below w.heap.size w w') : Pow w' := by
  unfold Pow Lib.TabIs World.var? at h ⊢
  cases hg : Tryz.prog.globalNamed "internal/strconv.uint64pow10" with
  | none => rw [hg] at h; cases h
  | some g =>
    rw [hg] at h
    simp only [Option.bind_some] at h ⊢
    have hlt : g < w.heap.size := by
      rcases Nat.lt_or_ge g w.heap.size with h' | h'
      · exact h'
      · rw [Array.getElem?_eq_none h'] at h
        cases h
    rw [hb.block g hlt]
    exact h
theorem below_grow (w : World) (k : Nat) (os : Array Obj) : Below w.heap.size w (Go.Sort.grow (w.drewN k) os) :=
  ⟨rfl, rfl, rfl, by show w.heap.size ≤ (w.heap ++ os).size; simp, fun i hi => by
    show (w.heap ++ os)[i]? = w.heap[i]?
    rw [Array.getElem?_append_left hi]⟩
theorem c_strconv_Itoa (n : Int) (w : World) (hn : -9223372036854775808 ≤ n ∧ n ≤ 9223372036854775807) (hp : Pow w) :
    Calls Tryz.prog 129 #[.int .i64 n] w fun e w' => e = .returned (.string (decS n)) ∧ Below w.heap.size w w' := by
  have h := Any.strconv_Itoa laysItoa n hn.1 hn.2 w hp
  change Calls Tryz.prog 129 _ _ _ at h
  refine h.mono ?_
  rintro e w' ⟨rfl, k, os, rfl⟩
  exact ⟨rfl, below_grow w k os⟩
theorem c_impl_Decimal (n : Int) (w : World) (hn : -9223372036854775808 ≤ n ∧ n ≤ 9223372036854775807) (hp : Pow w) :
    Calls Tryz.prog 116 #[.int .i64 n] w fun e w' => e = .returned (.string (decS n)) ∧ Below w.heap.size w w' := by
  have Hp := Lib.hid hp
  clear hp
  go_enter Tryz.func116, Tryz.ntmps116
  go_wp2_with fail
  refine (c_strconv_Itoa n _ hn Hp.out).mono ?_
  rintro e w1 ⟨rfl, hb⟩
  go_wp2_with fail
  go_ret
  exact ⟨rfl, hb⟩
end Go.Proofs.YteecgklmdfockaaGreatDoor
namespace Go.Proofs.YteecgklmdfockaaGreatDoor
open Go.RowKit
/-- How often a number is told in 1024s, r times at most; what is left. -/
def amtL : Nat → Nat → Nat → Nat × Nat
  | 0, u, k => (u, k)
  | r + 1, u, k => if 0 < u ∧ u % 1024 = 0 then amtL r (u / 1024) (k + 1) else (u, k)
def sufA (k : Nat) : ByteArray := if k = 0 then ⟨#[]⟩ else if k = 1 then ⟨#[75, 105]⟩ else if k = 2 then ⟨#[77, 105]⟩ else if k = 3 then ⟨#[71, 105]⟩ else ⟨#[84, 105]⟩
theorem sufA_size (k : Nat) : (sufA k).size ≤ 2 := by
  unfold sufA
  repeat' split
  all_goals decide
theorem amtL_le : ∀ (r u k : Nat), (amtL r u k).1 ≤ u ∧ k ≤ (amtL r u k).2 ∧ (amtL r u k).2 ≤ k + r
  | 0, u, k => ⟨Nat.le_refl _, Nat.le_refl _, Nat.le_refl _⟩
  | r + 1, u, k => by
    unfold amtL
    split
    · have h := amtL_le r (u / 1024) (k + 1)
      have : u / 1024 ≤ u := Nat.div_le_self _ _
      omega
    · simp only; omega
/-- What AmountText tells. -/
def amtS (n : Int) : ByteArray := if n < 0 then ⟨#[]⟩ else if n % 1000 ≠ 0 then decS n ++ ⟨#[109]⟩ else decS ((amtL 4 (n / 1000).toNat 0).1 : Int) ++ sufA (amtL 4 (n / 1000).toNat 0).2
theorem amtS_size (n : Int) (hn : -9223372036854775808 ≤ n ∧ n ≤ 9223372036854775807) : (amtS n).size ≤ 22 := by
  unfold amtS
  split
  · decide
  · split
    · have := decS_size n hn
      rw [ByteArray.size_append]
      have h1 : (⟨#[109]⟩ : ByteArray).size = 1 := rfl
      omega
    · have h := amtL_le 4 (n / 1000).toNat 0
      have := decS_size ((amtL 4 (n / 1000).toNat 0).1 : Int) (by omega)
      have := sufA_size (amtL 4 (n / 1000).toNat 0).2
      rw [ByteArray.size_append]
      omega
theorem step_call_at {P : Program} {w : World} {ops : Array Oper} {o : Oper} {a : Act} {K : Act → World → Prop} {Q : Exit → Act → World → Prop} {E : Prop} (hgd : o.guard = none) (h : Oper.wp P o a w K Q) : if Region.wanted o (yielded ops a.tmps) = true then Oper.wp P o a w K Q else E := by
  have hw : Region.wanted o (yielded ops a.tmps) = true := by simp [Region.wanted, hgd]
  rw [if_pos hw]
  exact h
theorem tmod_pos {n m : Int} (h : 0 ≤ n) : n.tmod m = n % m := Int.tmod_eq_emod_of_nonneg h
theorem tdiv_pos {n m : Int} (h : 0 ≤ n) : n.tdiv m = n / m := Int.tdiv_eq_ediv_of_nonneg h
set_option maxHeartbeats 2000000 in
set_option maxRecDepth 10000 in
theorem c_impl_AmountText (n : Int) (w : World) (hn : -9223372036854775808 ≤ n ∧ n ≤ 9223372036854775807) (hp : Pow w) :
    Calls Tryz.prog 82 #[.int .i64 n] w fun e w' => e = .returned (.string (amtS n)) ∧ Below w.heap.size w w' := by
  have Hp := Lib.hid hp
  clear hp
  by_cases h0 : n < 0
  · have Hf := Lib.hid (show amtS n = ⟨#[]⟩ from if_pos h0)
    go_enter Tryz.func82, Tryz.ntmps82
    go_wp2_with fail
    go_ret
    exact ⟨by rw [Hf.out]; rfl, Below.refl _ _⟩
  · have d0 : decide (n < 0) = false := decide_eq_false h0
    have hn0 : 0 ≤ n := by omega
    have ht := tmod_pos (m := 1000) hn0
    by_cases hm : n % 1000 = 0
    · obtain ⟨u0, hu0⟩ : ∃ u : Nat, u = (n / 1000).toNat := ⟨_, rfl⟩
      have hq : n / 1000 = (u0 : Int) := by omega
      have Hf := Lib.hid (show amtS n = decS ((amtL 4 u0 0).1 : Int) ++ sufA (amtL 4 u0 0).2 by rw [hu0]; unfold amtS; rw [if_neg h0, if_neg (by omega)])
      have hu9 : u0 ≤ 9223372036854775 := by omega
      clear hu0
      go_enter Tryz.func82, Tryz.ntmps82
      go_wp2_with fail
      go_loopw [3, 4, 19] (fun s3 s4 s19 wr => ∃ (k u : Nat), k ≤ 4 ∧ s19 = .int .i64 k ∧ s3 = .int .i64 u ∧ s4 = .string (sufA k) ∧ u ≤ 9223372036854775 ∧ amtL 4 u0 0 = amtL (4 - k) u k ∧ wr.heap[w.heap.size]? = some (.cells #[.string ⟨#[75, 105]⟩, .string ⟨#[77, 105]⟩, .string ⟨#[71, 105]⟩, .string ⟨#[84, 105]⟩] 9 (0, 0)) ∧ Below w.heap.size w wr) (fun _ _ s19 _ => 4 - (intOf s19).toNat)
      case atStart => exact ⟨0, u0, by omega, rfl, rfl, rfl, hu9, rfl, heap_at (by simp), bel⟩
      case round =>
        obtain ⟨k, u, hk, rfl, rfl, rfl, hu, hrun, hrow, hbr⟩ := hrel
        have HRun := Lib.hid hrun
        have HRow := Lib.hid hrow
        have HBr := Lib.hid hbr
        have hl := row_lt hrow
        obtain ⟨a0, a1, a2, a3, af⟩ := row4 hrow
        have hk0 : (0 : Int) ≤ k := by omega
        have hu0 : (0 : Int) ≤ u := by omega
        have ht2 := tmod_pos (m := 1024) hu0
        have htd := tdiv_pos (m := 1024) hu0
        clear hrun hrow hbr
        by_cases hk4 : (k : Int) < 4
        · have hk4n : k < 4 := by omega
          by_cases hc : 0 < u ∧ u % 1024 = 0
          · have hc1 : (0 : Int) < u := by omega
            have hc2 : ((u : Int) % 1024 == 0) = true := beq_iff_eq.2 (by omega)
            have HN := Lib.hid (show amtL 4 u0 0 = amtL (4 - (k + 1)) (u / 1024) (k + 1) by
              rw [HRun.out, show 4 - k = (4 - (k + 1)) + 1 by omega, amtL, if_pos hc])
            have hu2 : u / 1024 ≤ 9223372036854775 := by have := Nat.div_le_self u 1024; omega
            clear hc
            rcases (show k = 0 ∨ k = 1 ∨ k = 2 ∨ k = 3 by omega) with rfl | rfl | rfl | rfl
            all_goals
              go_wp2_with fail
              go_roundw
              case rel => first | exact ⟨1, u / 1024, by omega, rfl, by go_num, rfl, hu2, HN.out, HRow.out, HBr.out⟩ | exact ⟨2, u / 1024, by omega, rfl, by go_num, rfl, hu2, HN.out, HRow.out, HBr.out⟩ | exact ⟨3, u / 1024, by omega, rfl, by go_num, rfl, hu2, HN.out, HRow.out, HBr.out⟩ | exact ⟨4, u / 1024, by omega, rfl, by go_num, rfl, hu2, HN.out, HRow.out, HBr.out⟩
              case measure => simp [intOf]
          · have HE := Lib.hid (show amtL 4 u0 0 = (u, k) by rw [HRun.out, show 4 - k = (3 - k) + 1 by omega, amtL, if_neg hc])
            have Hf2 := Lib.hid (show amtS n = decS (u : Int) ++ sufA k by rw [Hf.out, HE.out])
            have hds := decS_size (u : Int) (by omega)
            have hss := sufA_size k
            have hp := (Hp.out.below HBr.out)
            have Hpp := Lib.hid hp
            clear hp
            by_cases hc1 : (0 : Int) < u
            · have hc2 : ((u : Int) % 1024 == 0) = false := beq_eq_false_iff_ne.2 (by omega)
              clear hc
              rcases (show k = 0 ∨ k = 1 ∨ k = 2 ∨ k = 3 by omega) with rfl | rfl | rfl | rfl
              all_goals
                go_wp2_with fail
                refine (c_impl_Decimal u _ ⟨by omega, by omega⟩ Hpp.out).mono ?_
                rintro e w1 ⟨rfl, hb⟩
                go_wp2_with fail
                go_ret
                exact ⟨by rw [Hf2.out]; rfl, HBr.out.trans (hb.mono HBr.out.size)⟩
            · have hc3 : decide ((0 : Int) < u) = false := decide_eq_false hc1
              have hc5 : decide (0 < u) = false := decide_eq_false (by omega)
              clear hc hc1
              rcases (show k = 0 ∨ k = 1 ∨ k = 2 ∨ k = 3 by omega) with rfl | rfl | rfl | rfl
              all_goals
                go_wp2_with fail
                refine (c_impl_Decimal u _ ⟨by omega, by omega⟩ Hpp.out).mono ?_
                rintro e w1 ⟨rfl, hb⟩
                go_wp2_with fail
                go_ret
                exact ⟨by rw [Hf2.out]; rfl, HBr.out.trans (hb.mono HBr.out.size)⟩
        · obtain rfl : k = 4 := by omega
          have Hf2 := Lib.hid (show amtS n = decS (u : Int) ++ sufA 4 by rw [Hf.out, HRun.out]; rfl)
          have hds := decS_size (u : Int) (by omega)
          have hss := sufA_size 4
          have hp := (Hp.out.below HBr.out)
          have Hpp := Lib.hid hp
          clear hp
          go_wp2_with fail
          refine (c_impl_Decimal u _ ⟨by omega, by omega⟩ Hpp.out).mono ?_
          rintro e w1 ⟨rfl, hb⟩
          go_wp2_with fail
          go_ret
          exact ⟨by rw [Hf2.out]; rfl, HBr.out.trans (hb.mono HBr.out.size)⟩
    · have Hf := Lib.hid (show amtS n = decS n ++ ⟨#[109]⟩ by unfold amtS; rw [if_neg h0, if_pos hm])
      have hm2 : (n % 1000 != 0) = true := bne_iff_ne.2 hm
      have hm3 : (n % 1000 == 0) = false := beq_eq_false_iff_ne.2 hm
      have hds := decS_size n hn
      clear hm
      go_enter Tryz.func82, Tryz.ntmps82
      go_wp2_with fail
      refine (c_impl_Decimal n _ hn Hp.out).mono ?_
      rintro e w1 ⟨rfl, hb⟩
      go_wp2_with fail
      go_ret
      exact ⟨by rw [Hf.out]; rfl, hb⟩
set_option maxHeartbeats 2000000 in
set_option maxRecDepth 10000 in
theorem c_spec_AmountText (n : Int) (w : World) (hn : -9223372036854775808 ≤ n ∧ n ≤ 9223372036854775807) :
    Calls Tryz.prog 69 #[.int .i64 n] w fun e w' => e = .returned (.string (amtS n)) ∧ Below w.heap.size w w' := by
  by_cases h0 : n < 0
  · have Hf := Lib.hid (show amtS n = ⟨#[]⟩ from if_pos h0)
    go_enter Tryz.func69, Tryz.ntmps69
    go_wp2_with fail
    go_ret
    exact ⟨by rw [Hf.out]; rfl, Below.refl _ _⟩
  · have d0 : decide (n < 0) = false := decide_eq_false h0
    have hn0 : 0 ≤ n := by omega
    have ht := tmod_pos (m := 1000) hn0
    by_cases hm : n % 1000 = 0
    · obtain ⟨u0, hu0⟩ : ∃ u : Nat, u = (n / 1000).toNat := ⟨_, rfl⟩
      have hq : n / 1000 = (u0 : Int) := by omega
      have Hf := Lib.hid (show amtS n = decS ((amtL 4 u0 0).1 : Int) ++ sufA (amtL 4 u0 0).2 by rw [hu0]; unfold amtS; rw [if_neg h0, if_neg (by omega)])
      have hu9 : u0 ≤ 9223372036854775 := by omega
      clear hu0
      go_enter Tryz.func69, Tryz.ntmps69
      go_wp2_with fail
      go_loopw [3, 4] (fun s3 s4 wr => ∃ (k u : Nat), k ≤ 4 ∧ s4 = .int .i64 k ∧ s3 = .int .i64 u ∧ u ≤ 9223372036854775 ∧ amtL 4 u0 0 = amtL (4 - k) u k ∧ wr = w) (fun _ s4 _ => 4 - (intOf s4).toNat)
      case atStart => exact ⟨0, u0, by omega, rfl, rfl, hu9, rfl, rfl⟩
      case round =>
        obtain ⟨k, u, hk, rfl, rfl, hu, hrun, rfl⟩ := hrel
        have HRun := Lib.hid hrun
        have hk0 : (0 : Int) ≤ k := by omega
        have hu0 : (0 : Int) ≤ u := by omega
        have ht2 := tmod_pos (m := 1024) hu0
        have htd := tdiv_pos (m := 1024) hu0
        clear hrun
        by_cases hcc : (k : Int) < 4 ∧ 0 < u ∧ u % 1024 = 0
        · obtain ⟨hk4, hc⟩ := hcc
          have hk4n : k < 4 := by omega
          have hc1 : (0 : Int) < u := by omega
          have hc2 : ((u : Int) % 1024 == 0) = true := beq_iff_eq.2 (by omega)
          have HN := Lib.hid (show amtL 4 u0 0 = amtL (4 - (k + 1)) (u / 1024) (k + 1) by
            rw [HRun.out, show 4 - k = (4 - (k + 1)) + 1 by omega, amtL, if_pos hc])
          have hu2 : u / 1024 ≤ 9223372036854775 := by have := Nat.div_le_self u 1024; omega
          clear hc
          go_wp2_with fail
          go_roundw
          case rel => exact ⟨k + 1, u / 1024, by omega, by go_num, by go_num, hu2, HN.out, by first | rfl | exact True.intro⟩
          case measure => simp [intOf]; omega
        · have HE := Lib.hid (show amtL 4 u0 0 = (u, k) by
            rw [HRun.out]
            by_cases hk4 : k < 4
            · rw [show 4 - k = (3 - k) + 1 by omega, amtL, if_neg (fun h => hcc ⟨by omega, h⟩)]
            · rw [show 4 - k = 0 by omega]; rfl)
          have Hf2 := Lib.hid (show amtS n = decS (u : Int) ++ sufA k by rw [Hf.out, HE.out])
          have hds := decS_size (u : Int) (by omega)
          have hss := sufA_size k
          have hk5 : k < 5 := by omega
          have hk6 : (k : Int) < 5 := by omega
          have key : (k : Int) < 4 ∨ ¬ (k : Int) < 4 := by omega
          have htail : ∀ P : Prop, (¬ (k : Int) < 4 → P) → ((k : Int) < 4 → decide (0 < u) = false → P) → ((k : Int) < 4 → (0 : Int) < u → ((u : Int) % 1024 == 0) = false → P) → P := by
            intro P h1 h2 h3
            by_cases a1 : (k : Int) < 4
            · by_cases a2 : (0 : Int) < u
              · exact h3 a1 a2 (beq_eq_false_iff_ne.2 (by omega))
              · exact h2 a1 (decide_eq_false (by omega))
            · exact h1 a1
          have hz8 : ¬ 9223372036854775807 < (decS (u : Int)).size := by omega
          have hz9 : ¬ 9223372036854775807 < (decS (u : Int)).size + 2 := by omega
          clear hcc key
          have fin : ∀ (K : Prop), (∀ h : k = 0 ∨ k = 1 ∨ k = 2 ∨ k = 3 ∨ k = 4, K) → K := fun K h => h (by omega)
          refine htail _ (fun a1 => ?_) (fun a1 a2 => ?_) (fun a1 a2 a3 => ?_)
          all_goals
            clear htail
            refine fin _ (fun hkk => ?_)
            clear fin
            rcases hkk with rfl | rfl | rfl | rfl | rfl
            all_goals
              first
                | (exfalso; omega)
                | (go_wp2_with fail
                   go_region_law (first | (refine step_call_at rfl ?_; go_simp; go_at_call 110; refine (c_spec_Decimal u _ ⟨by omega, by omega⟩).mono ?_; rintro e w5 ⟨rfl, hb⟩; (first | (have hcu2 := Cum.join hcu hb; (try clear hcu); (try clear hc); (try clear hfz); (try clear hsz); (try clear hs0); (try clear hs1); (try clear hs2); (try clear hs3); (try clear hs4); ) | have hcu2 := Cum.mk hb); have hcu := hcu2; clear hcu2; obtain ⟨hc, hfz⟩ := bcell hcu.h; have hsz := hcu.h.size; (try simp at hsz); (try have hs0 := lt_of_succ_le hsz); (try (have hs1 := lt_pred hsz; (try (have hs2 := lt_pred hs1; (try (have hs3 := lt_pred hs2; (try have hs4 := lt_pred hs3)))))))))
                   all_goals
                     go_wp2_with fail
                     go_ret
                     exact ⟨by rw [Hf2.out]; rfl, bel⟩)
    · have Hf := Lib.hid (show amtS n = decS n ++ ⟨#[109]⟩ by unfold amtS; rw [if_neg h0, if_pos hm])
      have hm2 : (n % 1000 != 0) = true := bne_iff_ne.2 hm
      have hm3 : (n % 1000 == 0) = false := beq_eq_false_iff_ne.2 hm
      have hds := decS_size n hn
      clear hm
      go_enter Tryz.func69, Tryz.ntmps69
      go_wp2_with fail
      refine (c_spec_Decimal n _ hn).mono ?_
      rintro e w1 ⟨rfl, hb⟩
      go_wp2_with fail
      go_ret
      exact ⟨by rw [Hf.out]; rfl, hb⟩
end Go.Proofs.YteecgklmdfockaaGreatDoor
