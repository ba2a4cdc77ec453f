/- Contracts of copyTree, copyTrees (the program's) and l08Copy (the reference's): a copy lies in blocks of its own. No conditions. -/
import Derived.Test.YtdogjeoiggnhaaaDoorKey
namespace Go.Proofs.YtdogjeoiggnhaaaDoor
open Go.RowKit

def T_copy (n : Nat) : Prop := ∀ (d : TreeD) (cs : List Value) (w : World) (lo : Nat) (_ : C_Tree n lo w.heap.size w d cs) (_ : nTree n d ≤ 1048576),
    Calls Tryd.prog 31 #[.agg cs.toArray] w fun e w' => ∃ cs', e = .returned (.agg cs'.toArray) ∧ OwnT n (fun b => w.heap.size ≤ b ∧ b < w'.heap.size) w' d cs' ∧ Below w.heap.size w w'
def T_copyS (n : Nat) : Prop := ∀ (l : List TreeD) (v : Value) (w : World) (lo : Nat) (_ : Sl_Tree n lo w.heap.size w l v) (_ : nL (nTree n) l ≤ 1048576),
    Calls Tryd.prog 39 #[v] w fun e w' => ∃ A c, e = .returned (.slice A l.length c) ∧ OwnK (OwnT n) (fun b => w.heap.size ≤ b ∧ b < w'.heap.size) w' l (.slice A l.length c) ∧ Below w.heap.size w w'
set_option maxHeartbeats 1000000 in
set_option maxRecDepth 10000 in
theorem of_copyS (n : Nat) (ih : T_copy n) : T_copyS n := by
  intro l v w lo hs hn
  obtain ⟨i0, hi, hz0, hz1, hz2⟩ := info_parts (show (Tryd.prog.info? 33).map (fun i => (i.zero, i.size, i.bytes)) = some (some (.agg #[.int .i64 0, .bool false, .int .i64 0, .string ⟨#[]⟩, .slice none 0 0, .slice none 0 0]), 6, 88) from by kernel_rfl)
  obtain ⟨A, c, rfl, hlc, hc, hA⟩ := hs
  have hlen : l.length ≤ 1048576 := by have := nL_def (nTree n) l; omega
  go_enter Tryd.func39, Tryd.ntmps39
  go_wp2_with fail
  go_loopw [3, 8] (fun y i wr => ∃ k : Nat, k ≤ l.length ∧ i = .int .i64 k ∧ GrowK n w.heap.size wr.heap.size wr (l.take k) y ∧ Below w.heap.size w wr) (fun _ i _ => l.length - (intOf i).toNat)
  case atStart => exact ⟨0, Nat.zero_le _, rfl, GrowK.nil _ _ _ _, (by repeat (first | (with_reducible exact Below.refl _ _) | (with_reducible refine ext_alloc ?_) | ((with_reducible refine ext_setCell ?_ ?_); focus (simp; (try omega))) | (with_reducible refine below_drewN ?_ _) | (with_reducible refine Below.drew ?_) | (with_reducible (apply ext_step; assumption))))⟩
  case round =>
    obtain ⟨k, hk, rfl, hgk, hbr⟩ := hrel
    have Hg := Lib.hid hgk
    have hbs := hbr.size
    by_cases hlt : k < l.length
    · obtain ⟨b, o, rfl, -, hb2, hcell⟩ := hA (by omega)
      obtain ⟨d, hd⟩ := exists_at hlt
      obtain ⟨es, -, hcs, hC⟩ := hcell k d hd
      have hC' := hC
      obtain ⟨eA4, ec4, eA5, ec5, rfl, ea0, ea2, ea3⟩ := hC'.flat
      have hc0 := (hbr.cell (p := ⟨b, o + k * 6 + 0, none⟩) (by simp; omega)).trans (hcs 0 (by omega))
      have hc1 := (hbr.cell (p := ⟨b, o + k * 6 + 1, none⟩) (by simp; omega)).trans (hcs 1 (by omega))
      have hc2 := (hbr.cell (p := ⟨b, o + k * 6 + 2, none⟩) (by simp; omega)).trans (hcs 2 (by omega))
      have hc3 := (hbr.cell (p := ⟨b, o + k * 6 + 3, none⟩) (by simp; omega)).trans (hcs 3 (by omega))
      have hc4 := (hbr.cell (p := ⟨b, o + k * 6 + 4, none⟩) (by simp; omega)).trans (hcs 4 (by omega))
      have hc5 := (hbr.cell (p := ⟨b, o + k * 6 + 5, none⟩) (by simp; omega)).trans (hcs 5 (by omega))
      simp at hc0 hc1 hc2 hc3 hc4 hc5
      have hbl : b < wr.heap.size := Nat.lt_of_lt_of_le hb2 hbr.size
      have hnd : nTree n d ≤ 1048576 := by have := nL_def (nTree n) l; have := szL_take_succ (nTree n) l k d hd; have := szL_take_le (nTree n) l (k+1); omega
      have Htk := Lib.hid (show l.take (k + 1) = l.take k ++ [d] by rw [List.take_add_one, hd]; rfl)
      have Hlen := Lib.hid (show (l.take k).length = k by rw [List.length_take]; omega)
      clear hcs hcell hA hgk hd
      go_wp2_with fail
      refine (ih d _ _ _ (hC.now (by repeat (first | (with_reducible exact Below.refl _ _) | (with_reducible refine ext_alloc ?_) | ((with_reducible refine ext_setCell ?_ ?_); focus (simp; (try omega))) | (with_reducible refine below_drewN ?_ _) | (with_reducible refine Below.drew ?_) | (with_reducible (apply ext_step; assumption))))) hnd).mono ?_
      rintro e w1 ⟨cs1, rfl, ho, hb⟩
      have ho' := ho
      obtain ⟨fA4, fc4, fA5, fc5, rfl, fa0, fa2, fa3⟩ := ho'.flat
      have hs1 := hb.size
      simp at hs1
      have hbw : Below wr.heap.size wr w1 := (by repeat (first | (with_reducible exact Below.refl _ _) | (with_reducible refine ext_alloc ?_) | ((with_reducible refine ext_setCell ?_ ?_); focus (simp; (try omega))) | (with_reducible refine below_drewN ?_ _) | (with_reducible refine Below.drew ?_) | (with_reducible (apply ext_step; assumption))))
      obtain ⟨ess, F, e1, e2, e3, e4, e5, e6, e7⟩ := (Hg.out.carry (Nat.le_refl _) (fun g _ hg => hbw.block g hg) : GrowK n w.heap.size wr.heap.size w1 (l.take k) _)
      have E3 := Lib.hid ((show w1.ownsRow w.heap.size 33 6 _ k ess.flatten by rw [← Hlen.out]; exact e3).alloc (.cells #[.int .i64 d.kind, .bool d.flag, .int .i64 d.num, .string d.text, .slice fA4 d.keys.length fc4, .slice fA5 d.kids.length fc5] 33))
      have Hone := Lib.hid (ho.one)
      clear e3 hc0 hc1 hc2 hc3 hc4 hc5
      go_wp2_with (at_builtin; refine wpList_append_lies _ rfl _ _ 31 rfl w.heap.size 33 i0 (.agg #[.int .i64 0, .bool false, .int .i64 0, .string ⟨#[]⟩, .slice none 0 0, .slice none 0 0]) 6 88 Tryd.underlying31 hi hz0 hz1 hz2 rfl (by decide) _ k ess.flatten rfl E3.out ⟨w1.heap.size, 0, none⟩ 1 1 [.int .i64 d.kind, .bool d.flag, .int .i64 d.num, .string d.text, .slice fA4 d.keys.length fc4, .slice fA5 d.kids.length fc5] rfl rfl (World.news_of_block (heap_alloc_new w1 _)) Hone.out (by decide) (by unfold maxLen; omega) (by omega) (by simp; omega) _ rfl ?_)
      intro g cap w2 hown hgrow hat hlt2
      have Hp := Lib.hid (GrowK.push (hi := wr.heap.size) (S := fun b => wr.heap.size + 1 ≤ b ∧ b < w1.heap.size) k Hlen.out (by simp; omega) (ho.carry (fun b hb => Below.heap_alloc _ _ b hb.2) (fun b hb => by simpa using hb)) (fun b hb => by simp; omega) hbs ess F e1 e2 e4 e5 e6
        (fun i d' es' h1 h2 => (e7 i d' es' h1 h2).carry (fun b hb => Below.heap_alloc _ _ b (by have := (e5 i b hb).2.1; omega)) (fun _ h => h)) hown hgrow (hat.imp id (fun h => by rw [h]; simp)) hlt2)
      have Hb2 := Lib.hid (Below.grown (hbr.trans (hbw.mono hbs) |>.alloc (by omega) _) hgrow (by simp; omega) (fun q hq => by have := E3.out.lt q hq; omega))
      clear hgrow hat hown e5 e6 e7 e1 e2 e4 ho hC hC'
      go_wp2_with fail
      go_roundw
      case rel => exact ⟨k + 1, by omega, by go_num, by rw [Htk.out]; exact Hp.out, Hb2.out⟩
      case measure => simp [intOf]; omega
    · obtain rfl : k = l.length := by omega
      rw [List.take_length] at hgk
      obtain ⟨A', c', rfl⟩ := hgk.form
      have Hg2 := Lib.hid hgk
      clear hA hgk
      go_wp2_with fail
      go_ret
      exact ⟨A', c', rfl, (Hg2.out.own.keep (fun _ _ => rfl) (fun _ h => h)), hbr⟩
set_option maxHeartbeats 1000000 in
theorem of_copy (n : Nat) (ihS : T_copyS n) : T_copy (n + 1) := by
  intro d cs w lo h hn
  obtain ⟨v4, v5, rfl, a0, a2, a3, a4, a5⟩ := h.out
  obtain ⟨A4, c4, rfl⟩ := a4.form
  obtain ⟨A5, c5, rfl⟩ := a5.form
  rw [nTree_succ] at hn
  have m4 : d.keys.length ≤ 1048576 := by have := nL_def ByteArray.size d.keys; omega
  have m5 : d.kids.length ≤ 1048576 := by have := nL_def (nTree n) d.kids; omega
  go_enter Tryd.func31, Tryd.ntmps31
  go_wp2_with fail
  refine (c_Clone_Str d.keys _ _ _ (a4.now (by repeat (first | (with_reducible exact Below.refl _ _) | (with_reducible refine ext_alloc ?_) | ((with_reducible refine ext_setCell ?_ ?_); focus (simp; (try omega))) | (with_reducible refine below_drewN ?_ _) | (with_reducible refine Below.drew ?_) | (with_reducible (apply ext_step; assumption))))) m4).mono ?_
  rintro e w4 ⟨B4, b4, rfl, r4, hb4⟩
  have st4 := hb4.size
  (try simp at st4)
  have hA4 := (hb4.block w.heap.size (by simp; omega)).trans ((Below.heap_alloc _ _ _ (by simp)).trans (heap_alloc_new _ _))
  have hB4 := (hb4.block (w.heap.size + 1) (by simp)).trans (heap_at (by simp))
  obtain ⟨x0, x1, x2, x3, x4, x5, xf⟩ := row6 hA4
  have hA4' := Lib.hid hA4
  have hB4' := Lib.hid hB4
  clear hA4 hB4
  go_wp2_with fail
  refine (ihS d.kids _ _ _ (a5.now (by repeat (first | (with_reducible exact Below.refl _ _) | (with_reducible refine ext_alloc ?_) | ((with_reducible refine ext_setCell ?_ ?_); focus (simp; (try omega))) | (with_reducible refine below_drewN ?_ _) | (with_reducible refine Below.drew ?_) | (with_reducible (apply ext_step; assumption))))) (by omega)).mono ?_
  rintro e w5 ⟨B5, b5, rfl, r5, hb5⟩
  have st5 := hb5.size
  (try simp at st5)
  have su5 : w.heap.size + 1 < w5.heap.size := by omega
  have sv5 : w.heap.size < w5.heap.size := by omega
  obtain ⟨y0, y1, y2, y3, y4, y5, yf⟩ := row6 ((hb5.block w.heap.size (by simp; omega)).trans (heap_setCell_same w4 w.heap.size 4 _ _ (.slice B4 d.keys.length b4) hA4'.out))
  obtain ⟨z0, z1, z2, z3, z4, z5, zf⟩ := row6 ((hb5.block (w.heap.size + 1) (by simp; omega)).trans ((Below.heap_setCell w4 _ _ (w.heap.size + 1) (by simp)).trans hB4'.out))
  go_wp2_with fail
  refine bodyPost_ret (v := .agg #[.int .i64 d.kind, .bool d.flag, .int .i64 d.num, .string d.text, .slice B4 d.keys.length b4, .slice B5 d.kids.length b5]) (by simp only [results, Tryd.results31]; go_simp) rfl ⟨[.int .i64 d.kind, .bool d.flag, .int .i64 d.num, .string d.text, .slice B4 d.keys.length b4, .slice B5 d.kids.length b5], rfl, OwnT.into ⟨_, _, fun b => w.heap.size + 2 ≤ b ∧ b < w4.heap.size, fun b => w4.heap.size ≤ b ∧ b < w5.heap.size, rfl, a0, a2, a3, ?_, ?_, r4.carry ?_ ?_, r5.keep ?_ ?_⟩, (by repeat (first | (with_reducible exact Below.refl _ _) | (with_reducible refine ext_alloc ?_) | ((with_reducible refine ext_setCell ?_ ?_); focus (simp; (try omega))) | (with_reducible refine below_drewN ?_ _) | (with_reducible refine Below.drew ?_) | (with_reducible (apply ext_step; assumption))))⟩
  · intro b hb; simp; omega
  · intro b hb; simp; omega
  · intro b hb
    simp at hb
    exact Eq.trans (Aside.block (S := fun b => b = w.heap.size ∨ b = w.heap.size + 1) (w := w5) (by repeat (first | (with_reducible exact Aside.refl _ _) | ((with_reducible refine aside_set ?_ ?_); (focus (simp; done))) | (with_reducible refine aside_alloc ?_))) b (by omega) (by omega)) ((hb5.block b (by simp; omega)).trans (Below.heap_setCell _ _ _ b (by simp; omega)))
  · intro b hb; simpa using hb
  · intro b hb
    simp at hb
    exact Aside.block (S := fun b => b = w.heap.size ∨ b = w.heap.size + 1) (w := w5) (by repeat (first | (with_reducible exact Aside.refl _ _) | ((with_reducible refine aside_set ?_ ?_); (focus (simp; done))) | (with_reducible refine aside_alloc ?_))) b (by omega) (by omega)
  · intro b hb; simpa using hb
theorem all_copy : ∀ n, T_copy n
  | 0 => fun _ _ _ _ h _ => (C_Tree.none h).elim
  | n + 1 => of_copy n (of_copyS n (all_copy n))
end Go.Proofs.YtdogjeoiggnhaaaDoor
