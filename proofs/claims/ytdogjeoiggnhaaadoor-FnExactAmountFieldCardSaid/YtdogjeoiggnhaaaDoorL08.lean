/- Contract of the reference's l08Copy: a copy lies in blocks of its own. No conditions. -/
import Derived.Test.YtdogjeoiggnhaaaDoorApp
import Derived.Deep.RegionLaw
namespace Go.Proofs.YtdogjeoiggnhaaaDoor
open Go.RowKit

def T_l08 (n : Nat) : Prop := ∀ (d : TreeD) (cs : List Value) (w : World) (lo : Nat) (_ : C_Tree n lo w.heap.size w d cs) (_ : nTree n d ≤ 1048576),
    Calls Tryd.prog 26 #[.agg cs.toArray] w fun e w' => ∃ cs', e = .returned (.agg cs'.toArray) ∧ OwnT n (fun b => w.heap.size ≤ b ∧ b < w'.heap.size) w' d cs' ∧ Below w.heap.size w w'
set_option maxHeartbeats 2000000 in
set_option maxRecDepth 10000 in
theorem of_l08 (n : Nat) (ih : T_l08 n) : T_l08 (n + 1) := by
  intro d cs w lo h hn
  obtain ⟨i0, hi, hz0, hz1, hz2⟩ := info_parts (show (Tryd.prog.info? 33).map (fun i => (i.zero, i.size, i.bytes)) = some (some (.agg #[.int .i64 0, .bool false, .int .i64 0, .string ⟨#[]⟩, .slice none 0 0, .slice none 0 0]), 6, 88) from by kernel_rfl)
  obtain ⟨j0, gi, gz0, gz1, gz2⟩ := info_parts (show (Tryd.prog.info? 9).map (fun i => (i.zero, i.size, i.bytes)) = some (some (.string ⟨#[]⟩), 1, 16) from by kernel_rfl)
  obtain ⟨v4, v5, rfl, a0, a2, a3, a4, a5⟩ := h.out
  obtain ⟨A4, c4, rfl⟩ := a4.form
  obtain ⟨A5, c5, rfl, hlc, hcc, hA⟩ := a5
  rw [nTree_succ] at hn
  have m4 : d.keys.length ≤ 1048576 := by have := nL_def ByteArray.size d.keys; omega
  have m5 : d.kids.length ≤ 1048576 := by have := nL_def (nTree n) d.kids; omega
  go_enter Tryd.func26, Tryd.ntmps26
  go_wp2_with (at_builtin; refine wpList_append_strs rfl _ _ 22 rfl (w.heap.size + 3) 9 j0 (.string ⟨#[]⟩) 16 Tryd.underlying22 gi gz0 gz1 gz2 rfl _ 0 [] rfl (own_empty (by simp) (by simp)) d.keys A4 c4 lo w.heap.size rfl (Sl_Str.keep a4 (by repeat (first | (with_reducible exact Same.refl _ _ _) | ((with_reducible refine same_setCell ?_ ?_); focus (simp; (try omega))) | ((with_reducible refine same_alloc ?_ ?_); focus (simp; (try omega))) | (with_reducible refine same_drewN ?_ _) | ((with_reducible (apply same_step; assumption)); focus (simp; (try omega))))) (Nat.le_refl _) (Nat.le_refl _)) (by omega) (by omega) (by simp) ?_)
  intro v' w1 hown hgrow hat
  have hgs : GrowS (w.heap.size + 3) w1.heap.size w1 d.keys v' := ⟨hown, fun g hg => (hown.lt g hg).2, size_strs a4⟩
  obtain ⟨B4, b4, rfl⟩ := hgs.form
  have hA1 : w1.heap[w.heap.size]? = some (.cells #[.int .i64 d.kind, .bool d.flag, .int .i64 d.num, .string d.text, .slice A4 d.keys.length c4, .slice A5 d.kids.length c5] 33 (0, 0)) := (hgrow.block w.heap.size (by simp; try omega) (by simp [Value.ownBlock]; try omega)).trans ((Below.heap_alloc _ _ _ (by simp; try omega)).trans ((Below.heap_alloc _ _ _ (by simp; try omega)).trans ((Below.heap_alloc _ _ _ (by simp)).trans (heap_alloc_new _ _))))
  have hZ1 : w1.heap[w.heap.size + 1]? = some (.cells #[.int .i64 0, .bool false, .int .i64 0, .string ⟨#[]⟩, .slice none 0 0, .slice none 0 0] 33 (0, 0)) := (hgrow.block (w.heap.size + 1) (by simp; try omega) (by simp [Value.ownBlock]; try omega)).trans ((Below.heap_alloc _ _ _ (by simp; try omega)).trans ((Below.heap_alloc _ _ _ (by simp)).trans (heap_at (by simp))))
  have hT1 : w1.heap[w.heap.size + 2]? = some (.cells #[.int .i64 d.kind, .bool d.flag, .int .i64 d.num, .string d.text, .slice A4 d.keys.length c4, .slice A5 d.kids.length c5] 33 (0, 0)) := (hgrow.block (w.heap.size + 2) (by simp; try omega) (by simp [Value.ownBlock]; try omega)).trans ((Below.heap_alloc _ _ _ (by simp)).trans (heap_at (by simp)))
  have hs1 : w.heap.size + 4 ≤ w1.heap.size := by have := hgrow.size; simpa using this
  have hb1 : Below w.heap.size w w1 := Below.grown ((by repeat (first | (with_reducible exact Below.refl _ _) | (with_reducible refine ext_alloc ?_) | ((with_reducible refine ext_setCell ?_ ?_); focus (simp; (try omega))) | (with_reducible refine below_drewN ?_ _) | (with_reducible refine Below.drew ?_) | (with_reducible (apply ext_step; assumption)))) : Below w.heap.size w _) hgrow (by simp; omega) (fun q hq => by simp [Value.ownBlock] at hq; omega)
  obtain ⟨t0, t1, t2, t3, t4, t5, tf⟩ := row6 hT1
  obtain ⟨y0, y1, y2, y3, y4, y5, yf⟩ := row6 hA1
  have HA1 := Lib.hid hA1
  have HZ1 := Lib.hid hZ1
  have HT1 := Lib.hid hT1
  have Hgs := Lib.hid hgs
  clear hA1 hZ1 hT1 hgs hgrow hat hown
  have hq0 : w.heap.size < w1.heap.size := by omega
  have hq1 : w.heap.size + 1 < w1.heap.size := by omega
  have hq2 : w.heap.size + 2 < w1.heap.size := by omega
  have hq3 : w.heap.size + 1 + 1 < w1.heap.size := by omega
  go_wp2_with fail
  go_loopw [4] (fun i wr => ∃ (k : Nat) (K : Option Addr) (c : Nat), k ≤ d.kids.length ∧ i = .int .i64 k ∧ wr.heap[w.heap.size]? = some (.cells #[.int .i64 d.kind, .bool d.flag, .int .i64 d.num, .string d.text, .slice A4 d.keys.length c4, .slice A5 d.kids.length c5] 33 (0, 0)) ∧ wr.heap[w.heap.size + 1]? = some (.cells #[.int .i64 0, .bool false, .int .i64 0, .string ⟨#[]⟩, .slice none 0 0, .slice none 0 0] 33 (0, 0)) ∧ wr.heap[w.heap.size + 2]? = some (.cells #[.int .i64 d.kind, .bool d.flag, .int .i64 d.num, .string d.text, .slice B4 d.keys.length b4, .slice K k c] 33 (0, 0)) ∧
    GrowK n w1.heap.size wr.heap.size wr (d.kids.take k) (.slice K k c) ∧ OwnS (fun b => w.heap.size + 3 ≤ b ∧ b < w1.heap.size) wr d.keys (.slice B4 d.keys.length b4) ∧ Below w.heap.size w wr ∧ w1.heap.size ≤ wr.heap.size) (fun i _ => d.kids.length - (intOf i).toNat)
  case atStart =>
    refine ⟨0, some ⟨w1.heap.size, 0, none⟩, 0, Nat.zero_le _, rfl, ?_, ?_, ?_, GrowK.empty (by simp) (by simp), Hgs.out.own.carry (fun b hb => (Below.heap_alloc _ _ b (by simp; omega)).trans ((Below.heap_setCell _ _ _ b (by simp; omega)).trans (Below.heap_setCell _ _ _ b (by simp; omega)))) (fun _ h => h), (by repeat (first | (with_reducible exact Below.refl _ _) | (with_reducible refine ext_alloc ?_) | ((with_reducible refine ext_setCell ?_ ?_); focus (simp; (try omega))) | (with_reducible refine below_drewN ?_ _) | (with_reducible refine Below.drew ?_) | (with_reducible (apply ext_step; assumption)))), by simp⟩
    · exact (Below.heap_alloc _ _ _ (by simp; omega)).trans ((Below.heap_setCell _ _ _ _ (by simp; try omega)).trans ((Below.heap_setCell _ _ _ _ (by simp; try omega)).trans HA1.out))
    · exact (Below.heap_alloc _ _ _ (by simp; omega)).trans ((Below.heap_setCell _ _ _ _ (by simp; try omega)).trans ((Below.heap_setCell _ _ _ _ (by simp; try omega)).trans HZ1.out))
    · exact (Below.heap_alloc _ _ _ (by simp; omega)).trans (heap_setCell_same _ (w.heap.size + 2) 5 _ _ _ (heap_setCell_same _ (w.heap.size + 2) 4 _ _ _ HT1.out))
  case round =>
    clear t0 t1 t2 t3 t4 t5 tf y0 y1 y2 y3 y4 y5 yf
    obtain ⟨k, K, c, hk, rfl, hA1, hZ1, hT1, hgk, hks, hbr, hwr⟩ := hrel
    obtain ⟨t0, t1, t2, t3, t4, t5, tf⟩ := row6 hT1
    obtain ⟨y0, y1, y2, y3, y4, y5, yf⟩ := row6 hA1
    have tl := row_lt hT1
    have yl := row_lt hA1
    have RA := Lib.hid hA1
    have RZ := Lib.hid hZ1
    have RT := Lib.hid hT1
    have Hks := Lib.hid hks
    have Hgk := Lib.hid hgk
    have hbs := hbr.size
    clear hA1 hZ1 hT1 hks hgk
    by_cases hlt : k < d.kids.length
    · obtain ⟨b, o, rfl, -, hb2, hcell⟩ := hA (by omega)
      obtain ⟨f, hf⟩ := exists_at hlt
      obtain ⟨es, -, hcs, hC⟩ := hcell k f hf
      have hC' := hC
      obtain ⟨eA4, ec4, eA5, ec5, rfl, ea0, ea2, ea3⟩ := hC'.flat
      have hc0 := (hbr.cell (p := ⟨b, o + k * 6 + 0, none⟩) (by simp; omega)).trans (hcs 0 (by omega))
      have hc1 := (hbr.cell (p := ⟨b, o + k * 6 + 1, none⟩) (by simp; omega)).trans (hcs 1 (by omega))
      have hc2 := (hbr.cell (p := ⟨b, o + k * 6 + 2, none⟩) (by simp; omega)).trans (hcs 2 (by omega))
      have hc3 := (hbr.cell (p := ⟨b, o + k * 6 + 3, none⟩) (by simp; omega)).trans (hcs 3 (by omega))
      have hc4 := (hbr.cell (p := ⟨b, o + k * 6 + 4, none⟩) (by simp; omega)).trans (hcs 4 (by omega))
      have hc5 := (hbr.cell (p := ⟨b, o + k * 6 + 5, none⟩) (by simp; omega)).trans (hcs 5 (by omega))
      simp at hc0 hc1 hc2 hc3 hc4 hc5
      have hbl : b < wr.heap.size := Nat.lt_of_lt_of_le hb2 hbr.size
      have hnd : nTree n f ≤ 1048576 := by have := nL_def (nTree n) d.kids; have := szL_take_succ (nTree n) d.kids k f hf; have := szL_take_le (nTree n) d.kids (k+1); omega
      have Htk := Lib.hid (show d.kids.take (k + 1) = d.kids.take k ++ [f] by rw [List.take_add_one, hf]; rfl)
      have Hlen := Lib.hid (show (d.kids.take k).length = k by rw [List.length_take]; omega)
      have hk0 : (0 : Int) ≤ k := by omega
      have hk1 : (k : Int) < d.kids.length := by omega
      obtain ⟨ess, F, e1, e2, e3, e4, e5, e6, e7⟩ := Hgk.out
      obtain ⟨r, hr⟩ : ∃ r, r = (Value.slice K k c).ownBlock := ⟨_, rfl⟩
      have hrl : ∀ q, r = some q → w1.heap.size ≤ q := fun q hq => (e3.lt q (by rw [← hr]; exact hq)).1
      have hn0 : r ≠ some w.heap.size := fun h => by have := hrl _ h; omega
      have hn1 : r ≠ some (w.heap.size + 1) := fun h => by have := hrl _ h; omega
      have hn2 : r ≠ some (w.heap.size + 1 + 1) := fun h => by have := hrl _ h; omega
      have hnb : r ≠ some b := fun h => by have := hrl _ h; omega
      have Hrl := Lib.hid hrl
      have Hr := Lib.hid hr
      have E := Lib.hid (And.intro e1 (And.intro e2 (And.intro e3 (And.intro e4 (And.intro e5 (And.intro e6 e7))))))
      clear hcs hcell hA hf hrl hr e1 e2 e3 e4 e5 e6 e7
      go_wp2_with fail
      go_region_law (first | (go_simp; go_at_call 26; refine (ih f _ _ lo (hC.now (by repeat (first | (with_reducible exact Below.refl _ _) | (with_reducible refine ext_alloc ?_) | ((with_reducible refine ext_setCell ?_ ?_); focus (simp; (try omega))) | (with_reducible refine below_drewN ?_ _) | (with_reducible refine Below.drew ?_) | (with_reducible (apply ext_step; assumption))))) hnd).mono ?_; rintro e w9 ⟨cs9, rfl, ho9, hb9⟩; obtain ⟨fA4, fc4, fA5, fc5, rfl, fa0, fa2, fa3⟩ := ho9.flat; obtain ⟨-, -, -, -, -, p5, -⟩ := row6 ((hb9.block (w.heap.size + 1 + 1) tl).trans RT.out); have p9 : w.heap.size + 1 + 1 < w9.heap.size := Nat.lt_of_lt_of_le tl hb9.size) | (refine step_append_lies _ rfl _ _ 31 rfl w1.heap.size 33 i0 (.agg #[.int .i64 0, .bool false, .int .i64 0, .string ⟨#[]⟩, .slice none 0 0, .slice none 0 0]) 6 88 Tryd.underlying31 hi hz0 hz1 hz2 rfl (by decide) _ k ess.flatten rfl (own9 E.out.2.2.1 hb9 rfl Hlen.out) ⟨w9.heap.size, 0, none⟩ 1 1 [.int .i64 f.kind, .bool f.flag, .int .i64 f.num, .string f.text, .slice fA4 f.keys.length fc4, .slice fA5 f.kids.length fc5] rfl rfl (World.news_of_block (heap_alloc_new w9 _)) ho9.one (by decide) (by unfold maxLen; omega) (by omega) (by have := hb9.size; simp at this ⊢; omega) _ rfl ?_; intro g cap w2 hown2 hgrow2 hat2 hlt2; have hgrow3 := grown_at Hr.out hgrow2; obtain ⟨-, -, -, -, -, q5, qf⟩ := row6 (row9 RT.out hb9 rfl hgrow2 Hr.out hn2)))
      all_goals
        have hs9 : wr.heap.size ≤ w9.heap.size := hb9.size
        have hB9 : Below w.heap.size w w9 := (by repeat (first | (with_reducible exact Below.refl _ _) | (with_reducible refine ext_alloc ?_) | ((with_reducible refine ext_setCell ?_ ?_); focus (simp; (try omega))) | (with_reducible refine below_drewN ?_ _) | (with_reducible refine Below.drew ?_) | (with_reducible (apply ext_step; assumption))))
        have hB2 := Below.grown (hB9.alloc (by omega) (.cells #[.int .i64 f.kind, .bool f.flag, .int .i64 f.num, .string f.text, .slice fA4 f.keys.length fc4, .slice fA5 f.kids.length fc5] 33)) hgrow2 (by simp; omega) (fun q hq => by have := Hrl.out q (Hr.out.trans hq); omega)
        have hP := GrowK.push (n := n) (base := w1.heap.size) (hi := wr.heap.size) (w := w9.alloc (.cells #[.int .i64 f.kind, .bool f.flag, .int .i64 f.num, .string f.text, .slice fA4 f.keys.length fc4, .slice fA5 f.kids.length fc5] 33)) (S := fun b => wr.heap.size ≤ b ∧ b < w9.heap.size) k Hlen.out (by simp; omega) (ho9.carry (fun b hb => Below.heap_alloc _ _ b hb.2) (fun b hb => hb)) (fun b hb => by simp; omega) hwr ess F E.out.1 E.out.2.1 E.out.2.2.2.1 E.out.2.2.2.2.1 E.out.2.2.2.2.2.1
          (fun i d' es' h1 h2 => (E.out.2.2.2.2.2.2 i d' es' h1 h2).carry (fun b hb => old9 (E.out.2.2.2.2.1 i b hb).2.1 hb9 rfl) (fun _ h => h)) hown2 hgrow2 (hat2.imp id (fun h => by rw [h]; simp)) hlt2
        have RA2 := row9 RA.out hb9 rfl hgrow2 Hr.out hn0
        have RZ2 := row9 RZ.out hb9 rfl hgrow2 Hr.out hn1
        have RT2 := row9 RT.out hb9 rfl hgrow2 Hr.out hn2
        have KS2 := Hks.out.carry (w' := w2) (fun b hb => blk9 (by omega) hb9 rfl hgrow2 Hr.out (fun h => by have := Hrl.out b h; omega)) (fun _ h => h)
        have hs2 := hgrow2.size
        simp at hs2
        clear hgrow2 hgrow3 hown2 hat2
        go_wp2_with fail
        go_roundw
        case rel =>
          refine ⟨k + 1, some ⟨g, 0, none⟩, cap, by omega, by go_num, (Below.heap_setCell _ _ _ _ (by simp; try omega)).trans RA2, (Below.heap_setCell _ _ _ _ (by simp; try omega)).trans RZ2, heap_setCell_same w2 (w.heap.size + 1 + 1) 5 _ _ _ RT2, ?_, KS2.carry (fun b hb => Below.heap_setCell _ _ _ b (by simp; omega)) (fun _ h => h), Below.setCell hB2 (by simp; omega) _, by simp; omega⟩
          rw [Htk.out]
          exact hP.carry (by simp) (fun q h1 _ => Below.heap_setCell _ _ _ q (by simp; omega))
        case measure => simp [intOf]; omega
    · obtain rfl : k = d.kids.length := by omega
      have hgk := Hgk.out
      rw [List.take_length] at hgk
      have Hg2 := Lib.hid hgk
      obtain ⟨z0, z1, z2, z3, z4, z5, zf⟩ := row6 RZ.out
      have zl : w.heap.size + 1 < wr.heap.size := row_lt RZ.out
      clear hA hgk
      go_wp2_with fail
      refine bodyPost_ret (v := .agg #[.int .i64 d.kind, .bool d.flag, .int .i64 d.num, .string d.text, .slice B4 d.keys.length b4, .slice K d.kids.length c]) (by simp only [results, Tryd.results26]; go_simp) rfl ⟨[.int .i64 d.kind, .bool d.flag, .int .i64 d.num, .string d.text, .slice B4 d.keys.length b4, .slice K d.kids.length c], rfl, OwnT.into ⟨_, _, fun b => w.heap.size + 3 ≤ b ∧ b < w1.heap.size, fun b => w1.heap.size ≤ b ∧ b < wr.heap.size, rfl, a0, a2, a3, ?_, ?_, Hks.out.carry ?_ (fun _ h => h), Hg2.out.own.keep ?_ (fun _ h => h)⟩, (by repeat (first | (with_reducible exact Below.refl _ _) | (with_reducible refine ext_alloc ?_) | ((with_reducible refine ext_setCell ?_ ?_); focus (simp; (try omega))) | (with_reducible refine below_drewN ?_ _) | (with_reducible refine Below.drew ?_) | (with_reducible (apply ext_step; assumption))))⟩
      · intro b hb; simp; omega
      · intro b hb; simp; omega
      · intro b hb
        exact Aside.block (S := fun b => b = w.heap.size + 1) (w := wr) (by repeat (first | (with_reducible exact Aside.refl _ _) | ((with_reducible refine aside_set ?_ ?_); (focus (simp; done))) | (with_reducible refine aside_alloc ?_))) b (by omega) (by omega)
      · intro b hb
        exact Aside.block (S := fun b => b = w.heap.size + 1) (w := wr) (by repeat (first | (with_reducible exact Aside.refl _ _) | ((with_reducible refine aside_set ?_ ?_); (focus (simp; done))) | (with_reducible refine aside_alloc ?_))) b (by omega) (by omega)
theorem all_l08 : ∀ n, T_l08 n
  | 0 => fun _ _ _ _ h _ => (C_Tree.none h).elim
  | n + 1 => of_l08 n (all_l08 n)
end Go.Proofs.YtdogjeoiggnhaaaDoor
