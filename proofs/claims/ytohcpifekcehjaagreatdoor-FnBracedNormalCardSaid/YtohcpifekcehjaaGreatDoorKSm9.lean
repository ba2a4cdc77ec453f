/- Steps to FnBracedNormal. No conditions. -/
import Derived.Test.YtohcpifekcehjaaGreatDoorKSm7
import Derived.Deep.RegionLaw
import Derived.Test.YtohcpifekcehjaaGreatDoorKSm8
import Derived.Test.YtohcpifekcehjaaGreatDoorKSm3
import Derived.Test.YtohcpifekcehjaaGreatDoorKSm4
import Derived.Lib.MapLaws
import Derived.Test.YtohcpifekcehjaaGreatDoorKSm5
import Derived.Deep.CutRange
import Derived.Deep.CutBlock
set_option maxHeartbeats 16000000
set_option maxRecDepth 20000
namespace Go.Proofs.YtohcpifekcehjaaGreatDoor
open Go.RowKit
def T_l08 (n : Nat) : Prop := ∀ (d : TreeD) (cs : List Value) (w : World) (lo : Nat) (_ : C_Tree n lo w.heap.size w d cs) (_ : nTree n d <= 1048576),
  Calls Tryz.prog 69 #[.agg cs.toArray] w fun e w' => ∃ cs', e = .returned (.agg cs'.toArray) /\ OwnT n (fun b => w.heap.size <= b /\ b < w'.heap.size) w' d cs' /\ Below w.heap.size w w'
theorem of_l08 (n : Nat) (ih : T_l08 n) : T_l08 (n + 1) := by
 intro d cs w lo h hn
 obtain ⟨i0, hi, hz0, hz1, hz2⟩ := info_parts (show (Tryz.prog.info? 34).map (fun i => (i.zero, i.size, i.bytes)) = some (some (.agg #[.int .i64 0, .bool false, .int .i64 0, .string ⟨#[]⟩, .slice none 0 0, .slice none 0 0]), 6, 88) from by kernel_rfl)
 obtain ⟨j0, gi, gz0, gz1, gz2⟩ := info_parts (show (Tryz.prog.info? 9).map (fun i => (i.zero, i.size, i.bytes)) = some (some (.string ⟨#[]⟩), 1, 16) from by kernel_rfl)
 obtain ⟨v4, v5, rfl, a0, a2, a3, a4, a5⟩ := h.out
 obtain ⟨A4, c4, rfl⟩ := a4.form
 obtain ⟨A5, c5, rfl, hlc, hcc, hA⟩ := a5
 rw [nTree_succ] at hn
 have m4 : d.keys.length <= 1048576 := by have := nL_def ByteArray.size d.keys; omega
 have m5 : d.kids.length <= 1048576 := by have := nL_def (nTree n) d.kids; omega
 go_enter Tryz.func69, Tryz.ntmps69
 go_wp2_with (at_builtin; refine wpList_append_strs rfl _ _ 31 rfl (w.heap.size + 3) 9 j0 (.string ⟨#[]⟩) 16 Tryz.underlying31 gi gz0 gz1 gz2 rfl _ 0 [] rfl (own_empty (by simp) (by simp)) d.keys A4 c4 lo w.heap.size rfl (Sl_Str.keep a4 (by repeat (first | (with_reducible exact Same.refl _ _ _) | ((with_reducible refine same_setCell ?_ ?_); focus (simp; (try omega))) | ((with_reducible refine same_alloc ?_ ?_); focus (simp; (try omega))) | (with_reducible refine same_drewN ?_ _) | ((with_reducible (apply same_step; assumption)); focus (simp; (try omega))))) (Nat.le_refl _) (Nat.le_refl _)) (by omega) (by omega) (by simp) ?_)
 intro v' w1 hown hgrow hat
 have hgs : GrowS (w.heap.size + 3) w1.heap.size w1 d.keys v' := ⟨hown, fun g hg => (hown.lt g hg).2, size_strs a4⟩
 obtain ⟨B4, b4, rfl⟩ := hgs.form
 have hA1 : w1.heap[w.heap.size]? = some (.cells #[.int .i64 d.kind, .bool d.flag, .int .i64 d.num, .string d.text, .slice A4 d.keys.length c4, .slice A5 d.kids.length c5] 34 (0, 0)) := (hgrow.block w.heap.size (by simp; try omega) (by simp [Value.ownBlock]; try omega)).trans ((Below.heap_alloc _ _ _ (by simp; try omega)).trans ((Below.heap_alloc _ _ _ (by simp; try omega)).trans ((Below.heap_alloc _ _ _ (by simp)).trans (heap_alloc_new _ _))))
 have hZ1 : w1.heap[w.heap.size + 1]? = some (.cells #[.int .i64 0, .bool false, .int .i64 0, .string ⟨#[]⟩, .slice none 0 0, .slice none 0 0] 34 (0, 0)) := (hgrow.block (w.heap.size + 1) (by simp; try omega) (by simp [Value.ownBlock]; try omega)).trans ((Below.heap_alloc _ _ _ (by simp; try omega)).trans ((Below.heap_alloc _ _ _ (by simp)).trans (heap_at (by simp))))
 have hT1 : w1.heap[w.heap.size + 2]? = some (.cells #[.int .i64 d.kind, .bool d.flag, .int .i64 d.num, .string d.text, .slice A4 d.keys.length c4, .slice A5 d.kids.length c5] 34 (0, 0)) := (hgrow.block (w.heap.size + 2) (by simp; try omega) (by simp [Value.ownBlock]; try omega)).trans ((Below.heap_alloc _ _ _ (by simp)).trans (heap_at (by simp)))
 have hs1 : w.heap.size + 4 <= w1.heap.size := by have := hgrow.size; simpa using this
 have hb1 : Below w.heap.size w w1 := Below.grown (bel : Below w.heap.size w _) hgrow (by simp; omega) (fun q hq => by simp [Value.ownBlock] at hq; omega)
 obtain ⟨t0, t1, t2, t3, t4, t5, tf⟩ := row6 hT1
 obtain ⟨y0, y1, y2, y3, y4, y5, yf⟩ := row6 hA1
 have HA1 := Lib.hid hA1
 have HZ1 := Lib.hid hZ1
 have HT1 := Lib.hid hT1
 have Hgs := Lib.hid hgs
 clear hA1 hZ1 hT1 hgs hgrow hat hown
 have hq0 : w.heap.size < w1.heap.size := by omega
 have hq1 : w.heap.size + 1 < w1.heap.size := by omega
 have hq2 : w.heap.size + 2 < w1.heap.size := by omega
 have hq3 : w.heap.size + 1 + 1 < w1.heap.size := by omega
 go_wp2_with fail
 go_loopw [4] (fun i wr => ∃ (k : Nat) (K : Option Addr) (c : Nat), k <= d.kids.length /\ i = .int .i64 k /\ wr.heap[w.heap.size]? = some (.cells #[.int .i64 d.kind, .bool d.flag, .int .i64 d.num, .string d.text, .slice A4 d.keys.length c4, .slice A5 d.kids.length c5] 34 (0, 0)) /\ wr.heap[w.heap.size + 1]? = some (.cells #[.int .i64 0, .bool false, .int .i64 0, .string ⟨#[]⟩, .slice none 0 0, .slice none 0 0] 34 (0, 0)) /\ wr.heap[w.heap.size + 2]? = some (.cells #[.int .i64 d.kind, .bool d.flag, .int .i64 d.num, .string d.text, .slice B4 d.keys.length b4, .slice K k c] 34 (0, 0)) /\
  GrowK n w1.heap.size wr.heap.size wr (d.kids.take k) (.slice K k c) /\ OwnS (fun b => w.heap.size + 3 <= b /\ b < w1.heap.size) wr d.keys (.slice B4 d.keys.length b4) /\ Below w.heap.size w wr /\ w1.heap.size <= wr.heap.size) (fun i _ => d.kids.length - (intOf i).toNat)
 case atStart =>
  refine ⟨0, some ⟨w1.heap.size, 0, none⟩, 0, Nat.zero_le _, rfl, ?_, ?_, ?_, GrowK.empty (by simp) (by simp), Hgs.out.own.carry (fun b hb => (Below.heap_alloc _ _ b (by simp; omega)).trans ((Below.heap_setCell _ _ _ b (by simp; omega)).trans (Below.heap_setCell _ _ _ b (by simp; omega)))) (fun _ h => h), bel, by simp⟩
  ·exact (Below.heap_alloc _ _ _ (by simp; omega)).trans ((Below.heap_setCell _ _ _ _ (by simp; try omega)).trans ((Below.heap_setCell _ _ _ _ (by simp; try omega)).trans HA1.out))
  ·exact (Below.heap_alloc _ _ _ (by simp; omega)).trans ((Below.heap_setCell _ _ _ _ (by simp; try omega)).trans ((Below.heap_setCell _ _ _ _ (by simp; try omega)).trans HZ1.out))
  ·exact (Below.heap_alloc _ _ _ (by simp; omega)).trans (heap_setCell_same _ (w.heap.size + 2) 5 _ _ _ (heap_setCell_same _ (w.heap.size + 2) 4 _ _ _ HT1.out))
 case round =>
  clear t0 t1 t2 t3 t4 t5 tf y0 y1 y2 y3 y4 y5 yf
  obtain ⟨k, K, c, hk, rfl, hA1, hZ1, hT1, hgk, hks, hbr, hwr⟩ := hrel
  obtain ⟨t0, t1, t2, t3, t4, t5, tf⟩ := row6 hT1
  obtain ⟨y0, y1, y2, y3, y4, y5, yf⟩ := row6 hA1
  have tl := row_lt hT1
  have yl := row_lt hA1
  have RA := Lib.hid hA1
  have RZ := Lib.hid hZ1
  have RT := Lib.hid hT1
  have Hks := Lib.hid hks
  have Hgk := Lib.hid hgk
  have hbs := hbr.size
  clear hA1 hZ1 hT1 hks hgk
  by_cases hlt : k < d.kids.length
  ·obtain ⟨b, o, rfl, -, hb2, hcell⟩ := hA (by omega)
   obtain ⟨f, hf⟩ := exists_at hlt
   obtain ⟨es, -, hcs, hC⟩ := hcell k f hf
   have hC' := hC
   obtain ⟨eA4, ec4, eA5, ec5, rfl, ea0, ea2, ea3⟩ := hC'.flat
   have hc0 := (hbr.cell (p := ⟨b, o + k * 6 + 0, none⟩) (by simp; omega)).trans (hcs 0 (by omega))
   have hc1 := (hbr.cell (p := ⟨b, o + k * 6 + 1, none⟩) (by simp; omega)).trans (hcs 1 (by omega))
   have hc2 := (hbr.cell (p := ⟨b, o + k * 6 + 2, none⟩) (by simp; omega)).trans (hcs 2 (by omega))
   have hc3 := (hbr.cell (p := ⟨b, o + k * 6 + 3, none⟩) (by simp; omega)).trans (hcs 3 (by omega))
   have hc4 := (hbr.cell (p := ⟨b, o + k * 6 + 4, none⟩) (by simp; omega)).trans (hcs 4 (by omega))
   have hc5 := (hbr.cell (p := ⟨b, o + k * 6 + 5, none⟩) (by simp; omega)).trans (hcs 5 (by omega))
   simp at hc0 hc1 hc2 hc3 hc4 hc5
   have hbl : b < wr.heap.size := Nat.lt_of_lt_of_le hb2 hbr.size
   have hnd : nTree n f <= 1048576 := by have := nL_def (nTree n) d.kids; have := szL_take_succ (nTree n) d.kids k f hf; have := szL_take_le (nTree n) d.kids (k+1); omega
   have Htk := Lib.hid (show d.kids.take (k + 1) = d.kids.take k ++ [f] by rw [List.take_add_one, hf]; rfl)
   have Hlen := Lib.hid (show (d.kids.take k).length = k by rw [List.length_take]; omega)
   have hk0 : (0 : Int) <= k := by omega
   have hk1 : (k : Int) < d.kids.length := by omega
   obtain ⟨ess, F, e1, e2, e3, e4, e5, e6, e7⟩ := Hgk.out
   obtain ⟨r, hr⟩ : ∃ r, r = (Value.slice K k c).ownBlock := ⟨_, rfl⟩
   have hrl : ∀ q, r = some q -> w1.heap.size <= q := fun q hq => (e3.lt q (by rw [<- hr]; exact hq)).1
   have hn0 : r ≠ some w.heap.size := fun h => by have := hrl _ h; omega
   have hn1 : r ≠ some (w.heap.size + 1) := fun h => by have := hrl _ h; omega
   have hn2 : r ≠ some (w.heap.size + 1 + 1) := fun h => by have := hrl _ h; omega
   have hnb : r ≠ some b := fun h => by have := hrl _ h; omega
   have Hrl := Lib.hid hrl
   have Hr := Lib.hid hr
   have E := Lib.hid (And.intro e1 (And.intro e2 (And.intro e3 (And.intro e4 (And.intro e5 (And.intro e6 e7))))))
   clear hcs hcell hA hf hrl hr e1 e2 e3 e4 e5 e6 e7
   go_wp2_with fail
   go_region_law (first | (go_simp; go_at_call 69; refine (ih f _ _ lo (hC.now bel) hnd).mono ?_; rintro e w9 ⟨cs9, rfl, ho9, hb9⟩; obtain ⟨fA4, fc4, fA5, fc5, rfl, fa0, fa2, fa3⟩ := ho9.flat; obtain ⟨-, -, -, -, -, p5, -⟩ := row6 ((hb9.block (w.heap.size + 1 + 1) tl).trans RT.out); have p9 : w.heap.size + 1 + 1 < w9.heap.size := Nat.lt_of_lt_of_le tl hb9.size) | (refine step_append_lies _ rfl _ _ 32 rfl w1.heap.size 34 i0 (.agg #[.int .i64 0, .bool false, .int .i64 0, .string ⟨#[]⟩, .slice none 0 0, .slice none 0 0]) 6 88 Tryz.underlying32 hi hz0 hz1 hz2 rfl (by decide) _ k ess.flatten rfl (own9 E.out.2.2.1 hb9 rfl Hlen.out) ⟨w9.heap.size, 0, none⟩ 1 1 [.int .i64 f.kind, .bool f.flag, .int .i64 f.num, .string f.text, .slice fA4 f.keys.length fc4, .slice fA5 f.kids.length fc5] rfl rfl (World.news_of_block (heap_alloc_new w9 _)) ho9.one (by decide) (by unfold maxLen; omega) (by omega) (by have := hb9.size; simp at this ⊢; omega) _ rfl ?_; intro g cap w2 hown2 hgrow2 hat2 hlt2; have hgrow3 := grown_at Hr.out hgrow2; obtain ⟨-, -, -, -, -, q5, qf⟩ := row6 (row9 RT.out hb9 rfl hgrow2 Hr.out hn2)))
   all_goals
    have hs9 : wr.heap.size <= w9.heap.size := hb9.size
    have hB9 : Below w.heap.size w w9 := bel
    have hB2 := Below.grown (hB9.alloc (by omega) (.cells #[.int .i64 f.kind, .bool f.flag, .int .i64 f.num, .string f.text, .slice fA4 f.keys.length fc4, .slice fA5 f.kids.length fc5] 34)) hgrow2 (by simp; omega) (fun q hq => by have := Hrl.out q (Hr.out.trans hq); omega)
    have hP := GrowK.push (n := n) (base := w1.heap.size) (hi := wr.heap.size) (w := w9.alloc (.cells #[.int .i64 f.kind, .bool f.flag, .int .i64 f.num, .string f.text, .slice fA4 f.keys.length fc4, .slice fA5 f.kids.length fc5] 34)) (S := fun b => wr.heap.size <= b /\ b < w9.heap.size) k Hlen.out (by simp; omega) (ho9.carry (fun b hb => Below.heap_alloc _ _ b hb.2) (fun b hb => hb)) (fun b hb => by simp; omega) hwr ess F E.out.1 E.out.2.1 E.out.2.2.2.1 E.out.2.2.2.2.1 E.out.2.2.2.2.2.1
     (fun i d' es' h1 h2 => (E.out.2.2.2.2.2.2 i d' es' h1 h2).carry (fun b hb => old9 (E.out.2.2.2.2.1 i b hb).2.1 hb9 rfl) (fun _ h => h)) hown2 hgrow2 (hat2.imp id (fun h => by rw [h]; simp)) hlt2
    have RA2 := row9 RA.out hb9 rfl hgrow2 Hr.out hn0
    have RZ2 := row9 RZ.out hb9 rfl hgrow2 Hr.out hn1
    have RT2 := row9 RT.out hb9 rfl hgrow2 Hr.out hn2
    have KS2 := Hks.out.carry (w' := w2) (fun b hb => blk9 (by omega) hb9 rfl hgrow2 Hr.out (fun h => by have := Hrl.out b h; omega)) (fun _ h => h)
    have hs2 := hgrow2.size
    simp at hs2
    clear hgrow2 hgrow3 hown2 hat2
    go_wp2_with fail
    go_roundw
    case rel =>
     refine ⟨k + 1, some ⟨g, 0, none⟩, cap, by omega, by go_num, (Below.heap_setCell _ _ _ _ (by simp; try omega)).trans RA2, (Below.heap_setCell _ _ _ _ (by simp; try omega)).trans RZ2, heap_setCell_same w2 (w.heap.size + 1 + 1) 5 _ _ _ RT2, ?_, KS2.carry (fun b hb => Below.heap_setCell _ _ _ b (by simp; omega)) (fun _ h => h), Below.setCell hB2 (by simp; omega) _, by simp; omega⟩
     rw [Htk.out]
     exact hP.carry (by simp) (fun q h1 _ => Below.heap_setCell _ _ _ q (by simp; omega))
    case measure => simp [intOf]; omega
  ·obtain rfl : k = d.kids.length := by omega
   have hgk := Hgk.out
   rw [List.take_length] at hgk
   have Hg2 := Lib.hid hgk
   obtain ⟨z0, z1, z2, z3, z4, z5, zf⟩ := row6 RZ.out
   have zl : w.heap.size + 1 < wr.heap.size := row_lt RZ.out
   clear hA hgk
   go_wp2_with fail
   refine bodyPost_ret (v := .agg #[.int .i64 d.kind, .bool d.flag, .int .i64 d.num, .string d.text, .slice B4 d.keys.length b4, .slice K d.kids.length c]) (by simp only [results, Tryz.results69]; go_simp) rfl ⟨[.int .i64 d.kind, .bool d.flag, .int .i64 d.num, .string d.text, .slice B4 d.keys.length b4, .slice K d.kids.length c], rfl, OwnT.into ⟨_, _, fun b => w.heap.size + 3 <= b /\ b < w1.heap.size, fun b => w1.heap.size <= b /\ b < wr.heap.size, rfl, a0, a2, a3, ?_, ?_, Hks.out.carry ?_ (fun _ h => h), Hg2.out.own.keep ?_ (fun _ h => h)⟩, bel⟩
   ·intro b hb; simp; omega
   ·intro b hb; simp; omega
   ·intro b hb
    exact Aside.block (S := fun b => b = w.heap.size + 1) (w := wr) asd b (by omega) (by omega)
   ·intro b hb
    exact Aside.block (S := fun b => b = w.heap.size + 1) (w := wr) asd b (by omega) (by omega)
theorem all_l08 : ∀ n, T_l08 n
 | 0 => fun _ _ _ _ h _ => (C_Tree.none h).elim
 | n + 1 => of_l08 n (all_l08 n)
open Go.RowKit Go.Lib
theorem MapG.pushK {nT base hi : Nat} {w w' : World} {ks : List ByteArray} {l : List TreeD} {vk vl : Value} {ess : List (List Value)} {F : Nat -> Nat -> Prop} {key : ByteArray} {g cap n : Nat} (h : MapG nT base hi w ks l vk vl ess F) (hhi : hi <= w.heap.size) (hn : ks.length = n) (hkey : key.size <= 9223372036854775807)
  (ho : w'.ownsRow base 9 1 (.slice (some ⟨g, 0, none⟩) (n + 1) cap) (n + 1) (ks.map Value.string ++ [.string key])) (hkeep : ∀ b, b < w.heap.size -> vk.ownBlock ≠ some b -> w'.heap[b]? = w.heap[b]?) (hs : w.heap.size <= w'.heap.size) (hat : vk.ownBlock = some g ∨ w.heap.size <= g) :
  MapG nT base w'.heap.size w' (ks ++ [key]) l (.slice (some ⟨g, 0, none⟩) (n + 1) cap) vl ess F := by
 subst hn
 have hvv := own_apart h.keys h.kids (by decide)
 have hgb : ∀ b, b < hi -> vk.ownBlock ≠ some b -> (Value.slice (some ⟨g, 0, none⟩) (ks.length + 1) cap).ownBlock ≠ some b := fun b hb hne e => by
  simp [Value.ownBlock] at e
  subst e
  rcases hat with h1 | h1
  ·exact hne h1
  ·omega
 have hlk : ∀ q, vl.ownBlock = some q -> w'.heap[q]? = w.heap[q]? := fun q hq => hkeep q (Nat.lt_of_lt_of_le (h.hl q hq) hhi) (fun e => hvv q e hq)
 refine ⟨h.len, h.six, by simpa using ho, ownsRow_carry h.kids hlk, fun q hq => (ho.lt q hq).2, fun q hq => Nat.lt_of_lt_of_le (h.hl q hq) (Nat.le_trans hhi hs), fun i b hF => ?_, h.apart, fun i d es hd he => (h.own i d es hd he).carry (fun b hF => hkeep b (Nat.lt_of_lt_of_le (h.part i b hF).2.1 hhi) (h.part i b hF).2.2.1) (fun _ h => h), fun s hs => ?_⟩
 ·obtain ⟨f1, f2, f3, f4⟩ := h.part i b hF
  exact ⟨f1, by omega, hgb b f2 f3, f4⟩
 ·rcases List.mem_append.1 hs with hs | hs
  ·exact h.size s hs
  ·simp at hs; subst hs; exact hkey
theorem MapG.pushL {nT base hi : Nat} {w w' : World} {ks : List ByteArray} {l : List TreeD} {vk vl : Value} {ess : List (List Value)} {F : Nat -> Nat -> Prop} {S : Nat -> Prop} {t : TreeD} {es : List Value} {g cap n : Nat} (h : MapG nT base hi w ks l vk vl ess F) (hhi : hi <= w.heap.size) (hbh : base <= hi) (hn : l.length = n) (ht : OwnT nT S w t es) (hS : ∀ b, S b -> hi <= b /\ b < w.heap.size)
  (ho : w'.ownsRow base 34 6 (.slice (some ⟨g, 0, none⟩) (n + 1) cap) (n + 1) (ess.flatten ++ es)) (hkeep : ∀ b, b < w.heap.size -> vl.ownBlock ≠ some b -> w'.heap[b]? = w.heap[b]?) (hs : w.heap.size <= w'.heap.size) (hat : vl.ownBlock = some g ∨ w.heap.size <= g) :
  MapG nT base w'.heap.size w' ks (l ++ [t]) vk (.slice (some ⟨g, 0, none⟩) (n + 1) cap) (ess ++ [es]) (fun i b => (i < l.length /\ F i b) ∨ (i = l.length /\ S b)) := by
 subst hn
 have hvv := own_apart h.kids h.keys (by decide)
 have hgb : ∀ b, b < w.heap.size -> vl.ownBlock ≠ some b -> (Value.slice (some ⟨g, 0, none⟩) (l.length + 1) cap).ownBlock ≠ some b := fun b hb hne e => by
  simp [Value.ownBlock] at e
  subst e
  rcases hat with h1 | h1
  ·exact hne h1
  ·omega
 have hkk : ∀ q, vk.ownBlock = some q -> w'.heap[q]? = w.heap[q]? := fun q hq => hkeep q (Nat.lt_of_lt_of_le (h.hk q hq) hhi) (fun e => hvv q e hq)
 have hlen := h.len
 refine ⟨by simp [hlen], ?_, ownsRow_carry h.keys hkk, by simpa using ho, fun q hq => Nat.lt_of_lt_of_le (h.hk q hq) (Nat.le_trans hhi hs), fun q hq => (ho.lt q hq).2, ?_, ?_, ?_, h.size⟩
 ·intro x hx
  rcases List.mem_append.1 hx with hx | hx
  ·exact h.six x hx
  ·simp at hx; subst hx; exact ht.len
 ·rintro i b (⟨-, hF⟩ | ⟨-, hF⟩)
  ·obtain ⟨f1, f2, f3, f4⟩ := h.part i b hF
   exact ⟨f1, by omega, f3, hgb b (by omega) f4⟩
  ·obtain ⟨f1, f2⟩ := hS b hF
   exact ⟨by omega, by omega, fun e => by have := h.hk b e; omega, hgb b f2 (fun e => by have := h.hl b e; omega)⟩
 ·rintro i j b (⟨hi, hF⟩ | ⟨hi, hF⟩) (⟨hj, hG⟩ | ⟨hj, hG⟩)
  ·exact h.apart i j b hF hG
  ·have := (h.part i b hF).2.1; have := (hS b hG).1; omega
  ·have := (h.part j b hG).2.1; have := (hS b hF).1; omega
  ·omega
 ·intro i d' es' hd' hes'
  by_cases hlt : i < l.length
  ·rw [List.getElem?_append_left hlt] at hd'
   rw [List.getElem?_append_left (by omega)] at hes'
   exact (h.own i d' es' hd' hes').carry (fun b hF => hkeep b (Nat.lt_of_lt_of_le (h.part i b hF).2.1 hhi) (h.part i b hF).2.2.2) (fun b hF => .inl ⟨hlt, hF⟩)
  ·have hil : i = l.length := by
    have := (List.getElem?_eq_some_iff.1 hd').1
    simp at this
    omega
   subst hil
   rw [List.getElem?_append_right (by omega)] at hd'
   rw [List.getElem?_append_right (by omega)] at hes'
   simp at hd'
   simp [hlen] at hes'
   subst hd' hes'
   exact ht.carry (fun b hF => hkeep b (hS b hF).2 (fun e => by have := h.hl b e; have := (hS b hF).1; omega)) (fun b hF => .inr ⟨rfl, hF⟩)
theorem c_ListTreeG (n : Nat) (l : List TreeD) (K : Option Addr) (c5 : Nat) (w : World) (lo : Nat) (h : C_Tree (n + 1) lo w.heap.size w (tList l) [.int .i64 5, .bool false, .int .i64 0, .string ⟨#[]⟩, .slice none 0 0, .slice K l.length c5]) (hn : nTree (n + 1) (tList l) <= 1048576) :
  Calls Tryz.prog 148 #[.slice K l.length c5] w fun e w' => ∃ cs', e = .returned (.agg cs'.toArray) /\ OwnT (n + 1) (fun b => w.heap.size < b /\ b < w'.heap.size) w' (tList l) cs' /\ Below w.heap.size w w' := by
 go_enter Tryz.func148, Tryz.ntmps148
 go_wp2_with fail
 refine (all_l08 (n + 1) (tList l) _ _ lo (h.now bel) hn).mono ?_
 rintro e w1 ⟨cs1, rfl, hO, hb⟩
 obtain ⟨A4, c4, A5, c6, rfl, -⟩ := hO.flat
 have Z := (hb.block w.heap.size (by simp)).trans (heap_at (by simp))
 have hl := row_lt Z
 obtain ⟨x0, x1, x2, x3, x4, x5, xf⟩ := row6 Z
 have HO := hid hO
 have Bw : Below w.heap.size w w1 := Below.trans bel (hb.mono (by simp))
 clear Z hO hb
 go_wp2_with fail
 refine bodyPost_ret (v := .agg #[.int .i64 (tList l).kind, .bool (tList l).flag, .int .i64 (tList l).num, .string (tList l).text, .slice A4 (tList l).keys.length c4, .slice A5 (tList l).kids.length c6]) (by simp only [results, Tryz.results148]; go_simp) rfl ⟨_, rfl, HO.out.carry (fun b hb => Aside.block (S := fun b => b = w.heap.size) (w := w1) asd b hb.2 (by have := hb.1; simp at this; omega)) (fun b hb => by simp at hb ⊢; omega), Bw.trans (Aside.below (S := fun b => b = w.heap.size) asd Bw.size (fun i hi => by omega))⟩
def figU (x : Nat) : UInt8 := if x < 10 then UInt8.ofNat (48 + x) else UInt8.ofNat (87 + x)
def qN (n : Nat) : List UInt8 :=
 if n = 34 ∨ n = 92 then [92, UInt8.ofNat n] else if n = 8 then [92, 98] else if n = 12 then [92, 102] else if n = 10 then [92, 110] else if n = 13 then [92, 114] else if n = 9 then [92, 116]
 else if n < 32 then [92, 117, 48, 48, figU (n / 16), figU (n % 16)] else [UInt8.ofNat n]
def qB (c : UInt8) : List UInt8 := qN c.toNat
def qR (r : Nat) : List UInt8 := if r < 128 then qN r else (textB r).data.toList
def quoteB (s : ByteArray) : ByteArray := if utf8B s then ⟨(34 :: s.data.toList.flatMap qB ++ [34]).toArray⟩ else ⟨#[]⟩
theorem qB_high {c : UInt8} (h : 128 <= c.toNat) : qB c = [c] := by
 unfold qB qN
 rw [if_neg (by omega), if_neg (by omega), if_neg (by omega), if_neg (by omega), if_neg (by omega), if_neg (by omega), if_neg (by omega)]
 simp
theorem qN_len (n : Nat) : (qN n).length <= 6 := by
 unfold qN
 by_cases h0 : n = 34 ∨ n = 92
 ·rw [if_pos h0]; simp
 rw [if_neg h0]
 by_cases h1 : n = 8
 ·rw [if_pos h1]; simp
 rw [if_neg h1]
 by_cases h2 : n = 12
 ·rw [if_pos h2]; simp
 rw [if_neg h2]
 by_cases h3 : n = 10
 ·rw [if_pos h3]; simp
 rw [if_neg h3]
 by_cases h4 : n = 13
 ·rw [if_pos h4]; simp
 rw [if_neg h4]
 by_cases h5 : n = 9
 ·rw [if_pos h5]; simp
 rw [if_neg h5]
 by_cases h6 : n < 32
 ·rw [if_pos h6]; simp
 rw [if_neg h6]
 simp
theorem text_len (r : Nat) : (textB r).data.toList.length <= 4 := by
 have h := congrArg List.length (textB_list r)
 rw [List.length_map] at h
 rw [h]
 unfold encN4
 repeat' split
 all_goals simp
theorem qR_len (r : Nat) : (qR r).length <= 6 := by
 unfold qR
 split
 ·exact qN_len r
 ·have := text_len r
  omega
theorem bytes_inj : ∀ {a b : List UInt8}, a.map UInt8.toNat = b.map UInt8.toNat -> a = b
 | [], [], _ => rfl
 | [], _ :: _, h => by cases h
 | _ :: _, [], h => by cases h
 | x :: a, y :: b, h => by
  simp only [List.map_cons, List.cons.injEq] at h
  rw [UInt8.toNat_inj.1 h.1, bytes_inj h.2]
theorem text_eq {r : Nat} {l : List UInt8} (h : encN4 r = l.map UInt8.toNat) : (textB r).data.toList = l := bytes_inj (by rw [textB_list, h])
theorem decode_way (l : List UInt8) (hne : l ≠ []) (hv : decodeL l ≠ (65533, 1)) :
  (∃ b : UInt8, (decodeL l).1 = b.toNat /\ b.toNat < 128 /\ l.take (decodeL l).2 = [b]) ∨ (128 <= (decodeL l).1 /\ (textB (decodeL l).1).data.toList = l.take (decodeL l).2 /\ ∀ x ∈ l.take (decodeL l).2, 128 <= x.toNat) := by
 have hl : 0 < l.length := List.length_pos_iff.2 hne
 rw [decodeL_N] at hv ⊢
 have k0 := (l.getD 0 0).toNat_lt
 have k1 := (l.getD 1 0).toNat_lt
 have k2 := (l.getD 2 0).toNat_lt
 have k3 := (l.getD 3 0).toNat_lt
 rcases decodeN_shape l.length (l.getD 0 0).toNat (l.getD 1 0).toNat (l.getD 2 0).toNat (l.getD 3 0).toNat with ⟨c, e⟩ | ⟨c1, c2, c3, cv, e⟩ | ⟨c1, c2, c3, c4, cv, cs, e⟩ | ⟨c1, c2, c3, c4, c5, cv, cs, e⟩ | e
 ·rw [e]
  exact .inl ⟨l.getD 0 0, rfl, c, takeA l hl⟩
 ·rw [e]
  refine .inr ⟨cv, ?_, ?_⟩
  ·show (textB ((l.getD 0 0).toNat % 32 * 64 + (l.getD 1 0).toNat % 64 : Nat)).data.toList = l.take 2
   refine text_eq ?_
   rw [takeB l c2]
   unfold encN4
   rw [if_neg (by omega), if_neg (by omega), if_pos (by omega)]
   simp only [List.map_cons, List.map_nil, List.cons.injEq, and_true]
   omega
  ·intro x hx
   rw [show l.take (((l.getD 0 0).toNat % 32 * 64 + (l.getD 1 0).toNat % 64, 2) : Nat × Nat).2 = l.take 2 from rfl, takeB l c2] at hx
   simp only [List.mem_cons, List.mem_nil_iff, or_false] at hx
   rcases hx with rfl | rfl <;> omega
 ·rw [e]
  refine .inr ⟨by show 128 <= (l.getD 0 0).toNat % 16 * 4096 + (l.getD 1 0).toNat % 64 * 64 + (l.getD 2 0).toNat % 64; omega, ?_, ?_⟩
  ·show (textB ((l.getD 0 0).toNat % 16 * 4096 + (l.getD 1 0).toNat % 64 * 64 + (l.getD 2 0).toNat % 64 : Nat)).data.toList = l.take 3
   refine text_eq ?_
   rw [takeC l c2]
   unfold encN4
   rw [if_neg (by omega), if_neg (by omega), if_neg (by omega), if_pos (by omega)]
   simp only [List.map_cons, List.map_nil, List.cons.injEq, and_true]
   omega
  ·intro x hx
   rw [show l.take (((l.getD 0 0).toNat % 16 * 4096 + (l.getD 1 0).toNat % 64 * 64 + (l.getD 2 0).toNat % 64, 3) : Nat × Nat).2 = l.take 3 from rfl, takeC l c2] at hx
   simp only [List.mem_cons, List.mem_nil_iff, or_false] at hx
   rcases hx with rfl | rfl | rfl <;> omega
 ·rw [e]
  refine .inr ⟨by show 128 <= (l.getD 0 0).toNat % 8 * 262144 + (l.getD 1 0).toNat % 64 * 4096 + (l.getD 2 0).toNat % 64 * 64 + (l.getD 3 0).toNat % 64; omega, ?_, ?_⟩
  ·show (textB ((l.getD 0 0).toNat % 8 * 262144 + (l.getD 1 0).toNat % 64 * 4096 + (l.getD 2 0).toNat % 64 * 64 + (l.getD 3 0).toNat % 64 : Nat)).data.toList = l.take 4
   refine text_eq ?_
   rw [takeD l c2]
   unfold encN4
   rw [if_neg (by omega), if_neg (by omega), if_neg (by omega), if_neg (by omega)]
   simp only [List.map_cons, List.map_nil, List.cons.injEq, and_true]
   omega
  ·intro x hx
   rw [show l.take (((l.getD 0 0).toNat % 8 * 262144 + (l.getD 1 0).toNat % 64 * 4096 + (l.getD 2 0).toNat % 64 * 64 + (l.getD 3 0).toNat % 64, 4) : Nat × Nat).2 = l.take 4 from rfl, takeD l c2] at hx
   simp only [List.mem_cons, List.mem_nil_iff, or_false] at hx
   rcases hx with rfl | rfl | rfl | rfl <;> omega
 ·exact absurd e hv
theorem flat_high : ∀ {l : List UInt8}, (∀ x ∈ l, 128 <= x.toNat) -> l.flatMap qB = l
 | [], _ => rfl
 | x :: l, h => by
  rw [List.flatMap_cons, qB_high (h x (by simp)), flat_high (fun y hy => h y (by simp [hy]))]
  rfl
theorem quote_runes (s : ByteArray) : ∀ (f i : Nat) (rs : List Nat), s.size - i <= f -> runesAt s i = some rs -> (s.data.toList.drop i).flatMap qB = rs.flatMap qR
 | f, i, rs, hf, h => by
  by_cases hi : i < s.size
  ·by_cases hd : Utf8.decode s i = (65533, 1)
   ·rw [runesAt_bad hi hd] at h; cases h
   ·rw [runesAt_step hi hd] at h
    have hdl := decodeL_drop s i hi
    have hl : s.data.toList.length = s.size := Array.length_toList
    have hne : s.data.toList.drop i ≠ [] := fun e => by
     have := congrArg List.length e
     rw [List.length_drop, hl] at this
     simp at this
     omega
    have hk : 1 <= (Utf8.decode s i).2 := by have := decode_fits s i hi; omega
    rcases hr : runesAt s (i + (Utf8.decode s i).2) with _ | rs'
    ·rw [hr] at h; cases h
    ·rw [hr] at h
     obtain rfl := Option.some.inj h
     cases f with
     | zero => omega
     | succ f =>
      have ih := quote_runes s f (i + (Utf8.decode s i).2) rs' (by omega) hr
      have hs : s.data.toList.drop i = (s.data.toList.drop i).take (Utf8.decode s i).2 ++ s.data.toList.drop (i + (Utf8.decode s i).2) := by
       rw [<- List.drop_drop, List.take_append_drop]
      rw [hs, List.flatMap_append, List.flatMap_cons, ih]
      congr 1
      rw [<- hdl]
      rcases decode_way _ hne (by rw [hdl]; exact hd) with ⟨b, h1, h2, h3⟩ | ⟨h1, h2, h3⟩
      ·rw [h3, h1]
       unfold qR
       rw [if_pos h2]
       simp [qB]
      ·unfold qR
       rw [if_neg (by omega), flat_high h3, h2]
  ·rw [runesAt_end hi] at h
   obtain rfl := Option.some.inj h
   rw [List.drop_of_length_le (by rw [Array.length_toList]; exact Nat.le_of_not_lt hi)]
   rfl
theorem quoteB_runes {s : ByteArray} {rs : List Nat} (h : runesAt s 0 = some rs) : quoteB s = ⟨(34 :: rs.flatMap qR ++ [34]).toArray⟩ := by
 have h1 := quote_runes s _ 0 rs (Nat.le_refl _) h
 rw [List.drop_zero] at h1
 unfold quoteB utf8B
 rw [h, h1]
 rfl
theorem quoteB_none {s : ByteArray} (h : runesAt s 0 = none) : quoteB s = ⟨#[]⟩ := by unfold quoteB utf8B; rw [h]; rfl
def Rd (s : ByteArray) (j : Nat) (l : List UInt8) : Prop := s.data.toList.drop j = l
theorem Rd.byte {s : ByteArray} {j : Nat} {l : List UInt8} (h : Rd s j l) (k : Nat) {c : UInt8} (hk : l[k]? = some c) : j + k < s.size /\ byteI s (j + k) = (c.toNat : Int) := by
 have h1 : s.data.toList[j + k]? = some c := by rw [<- List.getElem?_drop, show s.data.toList.drop j = l from h, hk]
 obtain ⟨h2, h3⟩ := List.getElem?_eq_some_iff.1 h1
 have h4 : j + k < s.size := by rw [Array.length_toList] at h2; exact h2
 refine ⟨h4, ?_⟩
 rw [Array.getElem_toList] at h3
 unfold byteI ByteArray.get!
 show (((s.data[j + k]!).toNat : Nat) : Int) = _
 rw [getElem!_pos s.data (j + k) h4, h3]
theorem Rd.byte0 {s : ByteArray} {j : Nat} {c : UInt8} {l : List UInt8} (h : Rd s j (c :: l)) : j < s.size /\ byteI s j = (c.toNat : Int) := h.byte 0 rfl
theorem Rd.drop {s : ByteArray} {j : Nat} {a b : List UInt8} (h : Rd s j (a ++ b)) : Rd s (j + a.length) b := by
 unfold Rd at h ⊢
 rw [<- List.drop_drop, h, List.drop_left]
theorem Rd.len {s : ByteArray} {j : Nat} {l : List UInt8} (h : Rd s j l) (hj : j <= s.size) : j + l.length = s.size := by
 have h1 := congrArg List.length (show s.data.toList.drop j = l from h)
 rw [List.length_drop, Array.length_toList] at h1
 have h2 : s.data.size = s.size := rfl
 omega
theorem getD_take {l l' : List UInt8} {k i : Nat} (h : l'.take k = l.take k) (hi : i < k) : l'.getD i 0 = l.getD i 0 := by
 have h1 := congrArg (fun z : List UInt8 => z[i]?) h
 simp only [List.getElem?_take, if_pos hi] at h1
 rw [List.getD_eq_getElem?_getD, List.getD_eq_getElem?_getD, h1]
theorem decode_local {l l' : List UInt8} (hv : decodeL l ≠ (65533, 1)) (hl : l'.take (decodeL l).2 = l.take (decodeL l).2) (hn : (decodeL l).2 <= l'.length) : decodeL l' = decodeL l := by
 rw [decodeL_N] at hv hl hn ⊢
 rw [decodeL_N]
 have k0 := (l.getD 0 0).toNat_lt
 have k1 := (l.getD 1 0).toNat_lt
 have k2 := (l.getD 2 0).toNat_lt
 have k3 := (l.getD 3 0).toNat_lt
 have k1' := (l'.getD 1 0).toNat_lt
 have k2' := (l'.getD 2 0).toNat_lt
 have k3' := (l'.getD 3 0).toNat_lt
 rcases Nat.lt_or_ge (l.getD 0 0).toNat 192 with c | c
 ·have w := rune_way1 l.length (l.getD 0 0).toNat (l.getD 1 0).toNat (l.getD 2 0).toNat (l.getD 3 0).toNat c
  have w' := rune_way1 l'.length (l.getD 0 0).toNat (l'.getD 1 0).toNat (l'.getD 2 0).toNat (l'.getD 3 0).toNat c
  have he := w.1.2 hv
  rw [w.2 he] at hl hn
  rw [getD_take hl (by omega), w.2 he, w'.2 he]
 rcases Nat.lt_or_ge (l.getD 0 0).toNat 224 with c2 | c2
 ·have w := rune_way2 l.length (l.getD 0 0).toNat (l.getD 1 0).toNat (l.getD 2 0).toNat (l.getD 3 0).toNat c c2 k1
  have he := w.2 hv
  have hp := w.1.2 hv
  rw [he] at hl hn
  have e1 := getD_take (i := 1) hl (by omega)
  have w' := rune_way2 l'.length (l.getD 0 0).toNat (l'.getD 1 0).toNat (l'.getD 2 0).toNat (l'.getD 3 0).toNat c c2 k1'
  rw [getD_take hl (by omega), he]
  rw [e1] at w' ⊢
  exact w'.2 (w'.1.1 ⟨hn, hp.2.1, hp.2.2⟩)
 rcases Nat.lt_or_ge (l.getD 0 0).toNat 240 with c3 | c3
 ·have w := rune_way3 l.length (l.getD 0 0).toNat (l.getD 1 0).toNat (l.getD 2 0).toNat (l.getD 3 0).toNat c2 c3 k1 k2
  have he := w.2 hv
  have hp := w.1.2 hv
  rw [he] at hl hn
  have e1 := getD_take (i := 1) hl (by omega)
  have e2 := getD_take (i := 2) hl (by omega)
  have w' := rune_way3 l'.length (l.getD 0 0).toNat (l'.getD 1 0).toNat (l'.getD 2 0).toNat (l'.getD 3 0).toNat c2 c3 k1' k2'
  rw [getD_take hl (by omega), he]
  rw [e1, e2] at w' ⊢
  exact w'.2 (w'.1.1 ⟨hn, hp.2.1, hp.2.2.1, hp.2.2.2⟩)
 ·have w := rune_way4 l.length (l.getD 0 0).toNat (l.getD 1 0).toNat (l.getD 2 0).toNat (l.getD 3 0).toNat c3 k0 k1 k2 k3
  have he := w.2 hv
  have hp := w.1.2 hv
  rw [he] at hl hn
  have e1 := getD_take (i := 1) hl (by omega)
  have e2 := getD_take (i := 2) hl (by omega)
  have e3 := getD_take (i := 3) hl (by omega)
  have w' := rune_way4 l'.length (l.getD 0 0).toNat (l'.getD 1 0).toNat (l'.getD 2 0).toNat (l'.getD 3 0).toNat c3 k0 k1' k2' k3'
  rw [getD_take hl (by omega), he]
  rw [e1, e2, e3] at w' ⊢
  exact w'.2 (w'.1.1 ⟨hn, hp.2.1, hp.2.2.1, hp.2.2.2.1, hp.2.2.2.2⟩)
theorem decode_one {l : List UInt8} (h : (l.getD 0 0).toNat < 128) : decodeL l = ((l.getD 0 0).toNat, 1) := by
 rw [decodeL_N]
 exact (rune_way1 _ _ _ _ _ (by omega)).2 (by unfold encN4; rw [if_neg (by omega), if_pos h])
theorem rune_one {s : ByteArray} {j : Nat} {c : UInt8} {l : List UInt8} (h : Rd s j (c :: l)) (hc : c.toNat < 128) : runeB s j = ((c.toNat : Int), ((j + 1 : Nat) : Int)) := by
 have h0 := h.byte0.1
 have h1 := decodeL_drop s j h0
 rw [show s.data.toList.drop j = c :: l from h, decode_one (by simpa using hc)] at h1
 unfold runeB
 rw [if_pos h0, <- h1]
 rw [if_neg (by intro e; have := congrArg Prod.fst e; simp at this; omega)]
 simp
theorem text_one {c : UInt8} (hc : c.toNat < 128) : (textB (c.toNat : Nat)).data.toList = [c] := by
 refine text_eq ?_
 unfold encN4
 rw [if_neg (by omega), if_pos hc]
 rfl
theorem lowV_fig {x : Nat} (hx : x < 16) : hexV ((figU x).toNat : Int) = x := by
 have : ∀ y : Fin 16, hexV ((figU y.val).toNat : Int) = y.val := by decide
 exact this ⟨x, hx⟩
theorem quot_low {s : ByteArray} {j : Nat} {c : UInt8} {l : List UInt8} (h : Rd s j (qB c ++ l)) (hc : c.toNat < 128) : byteI s j ≠ 34 /\ quotN s j = ((c.toNat : Int), ((j + (qB c).length : Nat) : Int)) := by
 have esc : ∀ (x : UInt8) (r : List UInt8) (v : Int), Rd s j (92 :: x :: r) -> escB s (j + 1) = (v, ((j + 2 : Nat) : Int)) -> byteI s j ≠ 34 /\ quotN s j = (v, ((j + 2 : Nat) : Int)) := by
  intro x r v hr he
  have b0 := hr.byte0.2
  have e92 : byteI s j = 92 := b0
  refine ⟨by rw [e92]; decide, ?_⟩
  unfold quotN
  rw [if_pos e92, he]
 have one : ∀ (x : UInt8) (r : List UInt8) (v : Int), Rd s j (92 :: x :: r) -> (byteI s (j + 1) = x.toNat -> escB s (j + 1) = (v, ((j + 1 : Nat) : Int) + 1)) -> byteI s j ≠ 34 /\ quotN s j = (v, ((j + 2 : Nat) : Int)) := by
  intro x r v hr he
  have b1 := hr.byte 1 rfl
  refine esc x r v hr ?_
  rw [he b1.2]
  congr 1
 unfold qB qN at h ⊢
 by_cases c1 : c.toNat = 34 ∨ c.toNat = 92
 ·rw [if_pos c1] at h ⊢
  refine one (UInt8.ofNat c.toNat) l _ h (fun hb => ?_)
  have hi := (h.byte 1 rfl).1
  have hb2 : byteI s (j + 1) = (c.toNat : Int) := by rw [hb]; simp
  unfold escB
  rw [if_pos hi, if_pos (by rw [hb2]; omega), hb2]
 rw [if_neg c1] at h ⊢
 by_cases c2 : c.toNat = 8
 ·rw [if_pos c2] at h ⊢
  refine one 98 l _ h (fun hb => ?_)
  have hi := (h.byte 1 rfl).1
  have hb2 : byteI s (j + 1) = 98 := hb
  unfold escB
  rw [if_pos hi, if_neg (by omega), if_pos (by omega), c2]
  rfl
 rw [if_neg c2] at h ⊢
 by_cases c3 : c.toNat = 12
 ·rw [if_pos c3] at h ⊢
  refine one 102 l _ h (fun hb => ?_)
  have hi := (h.byte 1 rfl).1
  have hb2 : byteI s (j + 1) = 102 := hb
  unfold escB
  rw [if_pos hi, if_neg (by omega), if_neg (by omega), if_pos (by omega), c3]
  rfl
 rw [if_neg c3] at h ⊢
 by_cases c4 : c.toNat = 10
 ·rw [if_pos c4] at h ⊢
  refine one 110 l _ h (fun hb => ?_)
  have hi := (h.byte 1 rfl).1
  have hb2 : byteI s (j + 1) = 110 := hb
  unfold escB
  rw [if_pos hi, if_neg (by omega), if_neg (by omega), if_neg (by omega), if_pos (by omega), c4]
  rfl
 rw [if_neg c4] at h ⊢
 by_cases c5 : c.toNat = 13
 ·rw [if_pos c5] at h ⊢
  refine one 114 l _ h (fun hb => ?_)
  have hi := (h.byte 1 rfl).1
  have hb2 : byteI s (j + 1) = 114 := hb
  unfold escB
  rw [if_pos hi, if_neg (by omega), if_neg (by omega), if_neg (by omega), if_neg (by omega), if_pos (by omega), c5]
  rfl
 rw [if_neg c5] at h ⊢
 by_cases c6 : c.toNat = 9
 ·rw [if_pos c6] at h ⊢
  refine one 116 l _ h (fun hb => ?_)
  have hi := (h.byte 1 rfl).1
  have hb2 : byteI s (j + 1) = 116 := hb
  unfold escB
  rw [if_pos hi, if_neg (by omega), if_neg (by omega), if_neg (by omega), if_neg (by omega), if_neg (by omega), if_pos (by omega), c6]
  rfl
 rw [if_neg c6] at h ⊢
 by_cases c7 : c.toNat < 32
 ·rw [if_pos c7] at h ⊢
  have b0 : byteI s j = 92 := h.byte0.2
  have b1 : byteI s (j + 1) = 117 := (h.byte 1 rfl).2
  have b2 : byteI s (j + 2) = 48 := (h.byte 2 rfl).2
  have b3 : byteI s (j + 3) = 48 := (h.byte 3 rfl).2
  have b4 : byteI s (j + 4) = ((figU (c.toNat / 16)).toNat : Int) := (h.byte 4 rfl).2
  have b5 : byteI s (j + 5) = ((figU (c.toNat % 16)).toNat : Int) := (h.byte 5 rfl).2
  have i1 := (h.byte 1 rfl).1
  have i5 := (h.byte 5 rfl).1
  have hf : fourB s (j + 2) = (c.toNat : Int) := by
   have v0 : hexV 48 = 0 := by decide
   have v4 := lowV_fig (x := c.toNat / 16) (by omega)
   have v5 := lowV_fig (x := c.toNat % 16) (by omega)
   unfold fourB
   rw [if_pos (by omega)]
   simp only [fourR]
   rw [b2, b3, b4, b5, v0, v4, v5]
   rw [if_neg (by omega), if_neg (by omega), if_neg (by omega), if_neg (by omega)]
   omega
  refine ⟨by rw [b0]; decide, ?_⟩
  unfold quotN
  rw [if_pos b0]
  unfold escB
  rw [if_pos i1, if_neg (by omega), if_neg (by omega), if_neg (by omega), if_neg (by omega), if_neg (by omega), if_neg (by omega), if_pos (by omega), hf, if_neg (by unfold inB; simp; omega), if_pos (by unfold inB; simp; omega)]
  simp only [List.length_cons, List.length_nil, Prod.mk.injEq, true_and]
  omega
 rw [if_neg c7] at h ⊢
 have hcc : UInt8.ofNat c.toNat = c := by simp
 rw [hcc] at h
 have h' : Rd s j (c :: l) := h
 have b0 := h'.byte0
 have hr := rune_one h' hc
 refine ⟨by rw [b0.2]; omega, ?_⟩
 unfold quotN
 rw [if_neg (by rw [b0.2]; omega), hr, if_neg (by simp only; omega)]
 rfl
theorem quot_back (x s : ByteArray) (rest : List UInt8) : ∀ (f i : Nat) (rs : List Nat), x.size - i <= f -> runesAt x i = some rs -> ∀ (j : Nat) (acc : List UInt8), Rd s j ((x.data.toList.drop i).flatMap qB ++ 34 :: rest) ->
  quotG s j acc = (⟨(acc ++ x.data.toList.drop i).toArray⟩, ((j + ((x.data.toList.drop i).flatMap qB).length + 1 : Nat) : Int)) := by
 intro f
 induction f with
 | zero =>
  intro i rs hf h j acc hr
  have hi : ¬ i < x.size := by omega
  have he : x.data.toList.drop i = [] := List.drop_of_length_le (by rw [Array.length_toList]; exact Nat.le_of_not_lt hi)
  rw [he] at hr ⊢
  have b0 := Rd.byte0 (c := 34) (l := rest) hr
  rw [quotG_at b0.1, if_pos (show byteI s j = 34 from b0.2), List.append_nil]
  rfl
 | succ f ih =>
  intro i rs hf h j acc hr
  by_cases hi : i < x.size
  ·by_cases hd : Utf8.decode x i = (65533, 1)
   ·rw [runesAt_bad hi hd] at h; cases h
   ·rw [runesAt_step hi hd] at h
    have hdl := decodeL_drop x i hi
    have hl : x.data.toList.length = x.size := Array.length_toList
    have hne : x.data.toList.drop i ≠ [] := fun e => by
     have := congrArg List.length e
     rw [List.length_drop, hl] at this
     simp at this
     omega
    have hfit := decode_fits x i hi
    rcases hr2 : runesAt x (i + (Utf8.decode x i).2) with _ | rs'
    ·rw [hr2] at h; cases h
    ·have hs : x.data.toList.drop i = (x.data.toList.drop i).take (Utf8.decode x i).2 ++ x.data.toList.drop (i + (Utf8.decode x i).2) := by
      rw [<- List.drop_drop, List.take_append_drop]
     have hdv : decodeL (x.data.toList.drop i) ≠ (65533, 1) := by rw [hdl]; exact hd
     have ih' := ih (i + (Utf8.decode x i).2) rs' (by omega) hr2
     have hloc := fun (l' : List UInt8) => decode_local (l := x.data.toList.drop i) (l' := l') hdv
     have hway := decode_way _ hne hdv
     rw [hdl] at hloc hway
     obtain ⟨a, ha⟩ : ∃ a, a = (x.data.toList.drop i).take (Utf8.decode x i).2 := ⟨_, rfl⟩
     obtain ⟨b, hb⟩ : ∃ b, b = x.data.toList.drop (i + (Utf8.decode x i).2) := ⟨_, rfl⟩
     rw [<- ha] at hway hloc
     rw [<- ha, <- hb] at hs
     rw [<- hb] at ih'
     have hal : a.length = (Utf8.decode x i).2 := by rw [ha, List.length_take, List.length_drop, hl]; omega
     rw [hs] at hr ⊢
     rw [List.flatMap_append, List.append_assoc] at hr
     rw [List.flatMap_append]
     have hstep : ∀ (c : Nat) (m : Nat), m = (a.flatMap qB).length -> byteI s j ≠ 34 -> j < s.size -> quotN s j = ((c : Int), ((j + m : Nat) : Int)) -> (textB (c : Nat)).data.toList = a -> quotG s j acc = (⟨(acc ++ (a ++ b)).toArray⟩, ((j + (a.flatMap qB ++ b.flatMap qB).length + 1 : Nat) : Int)) := by
      intro c m hm h34 hj hq ht
      rw [quotG_at hj, if_neg h34, hq]
      simp only
      rw [if_neg (by omega), ht, Int.toNat_natCast, hm, ih' (j + (a.flatMap qB).length) (acc ++ a) hr.drop, List.append_assoc, List.length_append]
      congr 3
      omega
     rcases hway with ⟨y, h1, h2, h3⟩ | ⟨h1, h2, h3⟩
     ·rw [h3] at hr hstep ⊢
      have hq1 : [y].flatMap qB = qB y := by simp
      rw [hq1] at hr hstep ⊢
      have hlow := quot_low (by exact hr) h2
      have hqn : 0 < (qB y).length := by
       unfold qB qN
       repeat' split
       all_goals simp
      have hj : j < s.size := by
       rcases hqb : qB y with _ | ⟨z, zs⟩
       ·rw [hqb] at hqn; simp at hqn
       ·rw [hqb] at hr
        exact (Rd.byte0 (c := z) hr).1
      exact hstep y.toNat (qB y).length rfl hlow.1 hj hlow.2 (text_one h2)
     ·have hfh := flat_high h3
      rw [hfh] at hr hstep ⊢
      have ha0 : 0 < a.length := by omega
      have hj : j < s.size /\ byteI s j ≠ 34 /\ byteI s j ≠ 92 := by
       rcases a with _ | ⟨z, zs⟩
       ·simp at ha0
       ·have hb0 := Rd.byte0 (c := z) hr
        have := h3 z (by simp)
        exact ⟨hb0.1, by rw [hb0.2]; omega, by rw [hb0.2]; omega⟩
      have hdj := decodeL_drop s j hj.1
      have hrr : s.data.toList.drop j = a ++ (b.flatMap qB ++ 34 :: rest) := hr
      have h9 := hloc (a ++ (b.flatMap qB ++ 34 :: rest)) (by rw [<- hal, List.take_left]) (by rw [List.length_append]; omega)
      rw [<- hrr, hdj] at h9
      have hrb : runeB s j = (((Utf8.decode x i).1 : Int), ((j + a.length : Nat) : Int)) := by
       unfold runeB
       rw [if_pos hj.1, h9, if_neg hd, hal]
      refine hstep (Utf8.decode x i).1 a.length rfl hj.2.1 hj.1 ?_ h2
      unfold quotN
      rw [if_neg hj.2.2, hrb, if_neg (by simp only; omega)]
  ·have he : x.data.toList.drop i = [] := List.drop_of_length_le (by rw [Array.length_toList]; exact Nat.le_of_not_lt hi)
   rw [he] at hr ⊢
   have b0 := Rd.byte0 (c := 34) (l := rest) hr
   rw [quotG_at b0.1, if_pos (show byteI s j = 34 from b0.2), List.append_nil]
   rfl
theorem quotB_back {x s : ByteArray} {j : Nat} {rest : List UInt8} (hx : utf8B x = true) (h : Rd s j ((quoteB x).data.toList ++ rest)) : byteI s j = 34 /\ j < s.size /\ quotB s j = (x, ((j + (quoteB x).data.toList.length : Nat) : Int)) := by
 have hq : (quoteB x).data.toList = 34 :: (x.data.toList.flatMap qB ++ [34]) := by unfold quoteB; rw [if_pos hx]; rfl
 rw [hq] at h ⊢
 have b0 := Rd.byte0 (c := 34) h
 have e34 : byteI s j = 34 := b0.2
 obtain ⟨rs, hrs⟩ := Option.isSome_iff_exists.1 (show (runesAt x 0).isSome = true from hx)
 have h2 : Rd s (j + 1) ((x.data.toList.drop 0).flatMap qB ++ 34 :: rest) := by
  have := Rd.drop (a := [34]) (b := x.data.toList.flatMap qB ++ 34 :: rest) (by rw [List.cons_append, List.append_assoc] at h; exact h)
  exact this
 have h3 := quot_back x s rest _ 0 rs (Nat.le_refl _) hrs (j + 1) [] h2
 refine ⟨e34, b0.1, ?_⟩
 unfold quotB
 rw [if_pos b0.1, if_pos e34, h3]
 simp only [List.drop_zero, List.nil_append, List.length_cons, List.length_append, List.length_nil]
 congr 2
 omega
def okR (r : Nat) : Prop := r <= 1114111 /\ ¬ (55296 <= r /\ r <= 57343)
theorem dec_text {r : Nat} (h : okR r) (m : List UInt8) : decodeL ((textB r).data.toList ++ m) = (r, (textB r).data.toList.length) /\ decodeL ((textB r).data.toList ++ m) ≠ (65533, 1) /\ 1 <= (textB r).data.toList.length := by
 have hl := textB_list r
 obtain ⟨l, hll⟩ : ∃ l, l = (textB r).data.toList := ⟨_, rfl⟩
 rw [<- hll] at hl ⊢
 clear hll
 unfold okR at h
 rw [decodeL_N]
 unfold encN4 at hl
 rw [if_neg (by omega)] at hl
 by_cases c1 : r < 128
 ·rw [if_pos c1] at hl
  rcases l with _ | ⟨x, _ | ⟨y, l⟩⟩
  ·cases hl
  ·simp only [List.map_cons, List.map_nil, List.cons.injEq, and_true] at hl
   have w := (rune_way1 ([x] ++ m).length (([x] ++ m).getD 0 0).toNat (([x] ++ m).getD 1 0).toNat (([x] ++ m).getD 2 0).toNat (([x] ++ m).getD 3 0).toNat (by simp; omega))
   have he : encN4 (([x] ++ m).getD 0 0).toNat = [(([x] ++ m).getD 0 0).toNat] := by
    simp only [List.cons_append, List.nil_append, List.getD_cons_zero]
    unfold encN4
    rw [if_neg (by omega), if_pos (by omega)]
   refine ⟨?_, w.1.1 he, by simp⟩
   rw [w.2 he]
   simp only [List.cons_append, List.nil_append, List.getD_cons_zero, hl, List.length_cons, List.length_nil]
  ·simp at hl
 rw [if_neg c1] at hl
 by_cases c2 : r < 2048
 ·rw [if_pos c2] at hl
  rcases l with _ | ⟨x, _ | ⟨y, _ | ⟨z, l⟩⟩⟩
  ·cases hl
  ·simp at hl
  ·simp only [List.map_cons, List.map_nil, List.cons.injEq, and_true] at hl
   obtain ⟨h1, h2⟩ := hl
   simp only [List.cons_append, List.nil_append, List.getD_cons_zero, List.getD_cons_succ]
   have w := rune_way2 (x :: y :: m).length x.toNat y.toNat (m.getD 0 0).toNat (m.getD 1 0).toNat (by omega) (by omega) (by omega)
   have hp : partN x.toNat = x.toNat - 192 := by unfold partN; rw [if_neg (by omega), if_neg (by omega), if_pos (by omega)]
   have hg : gathN x.toNat y.toNat (m.getD 0 0).toNat (m.getD 1 0).toNat 2 = r := by show 64 * partN x.toNat + y.toNat - 128 = r; rw [hp]; omega
   have hv := w.1.1 ⟨by simp, by unfold contN; simp; omega, by
    rw [hg]
    unfold encN4
    rw [if_neg (by omega), if_neg (by omega), if_pos (by omega), h1, h2]⟩
   refine ⟨?_, hv, by simp⟩
   rw [w.2 hv, hg]
   rfl
  ·simp at hl
 rw [if_neg c2] at hl
 by_cases c3 : r < 65536
 ·rw [if_pos c3] at hl
  rcases l with _ | ⟨x, _ | ⟨y, _ | ⟨z, _ | ⟨u, l⟩⟩⟩⟩
  ·cases hl
  ·simp at hl
  ·simp at hl
  ·simp only [List.map_cons, List.map_nil, List.cons.injEq, and_true] at hl
   obtain ⟨h1, h2, h3⟩ := hl
   simp only [List.cons_append, List.nil_append, List.getD_cons_zero, List.getD_cons_succ]
   have w := rune_way3 (x :: y :: z :: m).length x.toNat y.toNat z.toNat (m.getD 0 0).toNat (by omega) (by omega) (by omega) (by omega)
   have hp : partN x.toNat = x.toNat - 224 := by unfold partN; rw [if_neg (by omega), if_pos (by omega)]
   have hg : gathN x.toNat y.toNat z.toNat (m.getD 0 0).toNat 3 = r := by show 64 * (64 * partN x.toNat + y.toNat - 128) + z.toNat - 128 = r; rw [hp]; omega
   have hv := w.1.1 ⟨by simp, by unfold contN; simp; omega, by unfold contN; simp; omega, by
    rw [hg]
    unfold encN4
    rw [if_neg (by omega), if_neg (by omega), if_neg (by omega), if_pos (by omega), h1, h2, h3]⟩
   refine ⟨?_, hv, by simp⟩
   rw [w.2 hv, hg]
   rfl
  ·simp at hl
 rw [if_neg c3] at hl
 rcases l with _ | ⟨x, _ | ⟨y, _ | ⟨z, _ | ⟨u, _ | ⟨v, l⟩⟩⟩⟩⟩
 ·cases hl
 ·simp at hl
 ·simp at hl
 ·simp at hl
 ·simp only [List.map_cons, List.map_nil, List.cons.injEq, and_true] at hl
  obtain ⟨h1, h2, h3, h4⟩ := hl
  simp only [List.cons_append, List.nil_append, List.getD_cons_zero, List.getD_cons_succ]
  have w := rune_way4 (x :: y :: z :: u :: m).length x.toNat y.toNat z.toNat u.toNat (by omega) (by omega) (by omega) (by omega) (by omega)
  have hp : partN x.toNat = x.toNat - 240 := by unfold partN; rw [if_pos (by omega)]
  have hg : gathN x.toNat y.toNat z.toNat u.toNat 4 = r := by show 64 * (64 * (64 * partN x.toNat + y.toNat - 128) + z.toNat - 128) + u.toNat - 128 = r; rw [hp]; omega
  have hv := w.1.1 ⟨by simp, by unfold contN; simp; omega, by unfold contN; simp; omega, by unfold contN; simp; omega, by
   rw [hg]
   unfold encN4
   rw [if_neg (by omega), if_neg (by omega), if_neg (by omega), if_neg (by omega), h1, h2, h3, h4]⟩
  refine ⟨?_, hv, by simp⟩
  rw [w.2 hv, hg]
  rfl
 ·simp at hl
def textsB (rs : List Nat) : List UInt8 := rs.flatMap fun (r : Nat) => (textB r).data.toList
theorem runes_texts (x : ByteArray) : ∀ (rs : List Nat) (i : Nat), (∀ r ∈ rs, okR r) -> x.data.toList.drop i = textsB rs -> runesAt x i = some rs
 | [], i, _, h => by
  refine runesAt_end ?_
  intro hi
  have h1 := congrArg List.length h
  rw [List.length_drop, Array.length_toList] at h1
  have h2 : x.data.size = x.size := rfl
  simp [textsB] at h1
  omega
 | r :: rs, i, hok, h => by
  have h0 : textsB (r :: rs) = (textB r).data.toList ++ textsB rs := by unfold textsB; rw [List.flatMap_cons]
  rw [h0] at h
  obtain ⟨d1, d2, d3⟩ := dec_text (hok r (by simp)) (textsB rs)
  have hi : i < x.size := by
   rcases Nat.lt_or_ge i x.size with hi | hi
   ·exact hi
   ·rw [List.drop_of_length_le (by rw [Array.length_toList]; exact hi)] at h
    have h1 := congrArg List.length h
    rw [List.length_append, List.length_nil] at h1
    omega
  have hd := decodeL_drop x i hi
  rw [h] at hd
  rw [runesAt_step hi (by rw [<- hd]; exact d2), <- hd, d1]
  rw [runes_texts x rs (i + (textB r).data.toList.length) (fun y hy => hok y (by simp [hy])) (by rw [<- List.drop_drop, h, List.drop_left])]
  rfl
theorem quotN_cost {s : ByteArray} {j : Nat} (hj : j < s.size) (h34 : byteI s j ≠ 34) (h : ¬ (quotN s j).2 < 0) : ∃ r : Nat, (quotN s j).1 = (r : Int) /\ okR r /\ ((j + (qR r).length : Nat) : Int) <= (quotN s j).2 := by
 have hq : ∀ r : Nat, r < 128 -> (qR r) = qN r := fun r hr => by unfold qR; rw [if_pos hr]
 unfold quotN at h ⊢
 by_cases c0 : byteI s j = 92
 ·rw [if_pos c0] at h ⊢
  have hr1 := fourB_range s (j + 1 + 1)
  have hr7 := fourB_range s (j + 1 + 7)
  have b1 := byteI_range s (j + 1)
  have low : ∀ (r : Nat), okR r -> (qR r).length <= 2 -> ∀ y : Int × Int, y = ((r : Int), ((j + 1 : Nat) : Int) + 1) -> ∃ r : Nat, y.1 = (r : Int) /\ okR r /\ ((j + (qR r).length : Nat) : Int) <= y.2 := by
   intro r h1 h2 y hy
   rw [hy]
   exact ⟨r, rfl, h1, by simp only; omega⟩
  unfold escB at h ⊢
  by_cases e0 : j + 1 < s.size
  case neg => rw [if_neg e0] at h; exact absurd (show (-1 : Int) < 0 by decide) h
  rw [if_pos e0] at h ⊢
  by_cases e1 : byteI s (j + 1) = 34 ∨ byteI s (j + 1) = 92 ∨ byteI s (j + 1) = 47
  ·rw [if_pos e1]
   rcases e1 with e1 | e1 | e1
   ·rw [e1]; exact low 34 (by unfold okR; omega) (by decide) _ rfl
   ·rw [e1]; exact low 92 (by unfold okR; omega) (by decide) _ rfl
   ·rw [e1]; exact low 47 (by unfold okR; omega) (by decide) _ rfl
  rw [if_neg e1] at h ⊢
  by_cases e2 : byteI s (j + 1) = 98
  ·rw [if_pos e2]; exact low 8 (by unfold okR; omega) (by decide) _ rfl
  rw [if_neg e2] at h ⊢
  by_cases e3 : byteI s (j + 1) = 102
  ·rw [if_pos e3]; exact low 12 (by unfold okR; omega) (by decide) _ rfl
  rw [if_neg e3] at h ⊢
  by_cases e4 : byteI s (j + 1) = 110
  ·rw [if_pos e4]; exact low 10 (by unfold okR; omega) (by decide) _ rfl
  rw [if_neg e4] at h ⊢
  by_cases e5 : byteI s (j + 1) = 114
  ·rw [if_pos e5]; exact low 13 (by unfold okR; omega) (by decide) _ rfl
  rw [if_neg e5] at h ⊢
  by_cases e6 : byteI s (j + 1) = 116
  ·rw [if_pos e6]; exact low 9 (by unfold okR; omega) (by decide) _ rfl
  rw [if_neg e6] at h ⊢
  by_cases e7 : byteI s (j + 1) = 117
  case neg => rw [if_neg e7] at h; exact absurd (show (-1 : Int) < 0 by decide) h
  rw [if_pos e7] at h ⊢
  by_cases d1 : fourB s (j + 1 + 1) < 0 ∨ inB (fourB s (j + 1 + 1)) 56320 57343 = true
  case pos => rw [if_pos d1] at h; exact absurd (show (-1 : Int) < 0 by decide) h
  rw [if_neg d1] at h ⊢
  have d1' := not_or.1 d1
  have i1 : ¬ (56320 <= fourB s (j + 1 + 1) /\ fourB s (j + 1 + 1) <= 57343) := by have := d1'.2; unfold inB at this; simpa using this
  by_cases d2 : inB (fourB s (j + 1 + 1)) 55296 56319 = false
  ·rw [if_pos d2]
   have i2 : ¬ (55296 <= fourB s (j + 1 + 1) /\ fourB s (j + 1 + 1) <= 56319) := by unfold inB at d2; simpa using d2
   have hqr := qR_len (fourB s (j + 1 + 1)).toNat
   refine ⟨(fourB s (j + 1 + 1)).toNat, by simp only; omega, by unfold okR; omega, by simp only; omega⟩
  rw [if_neg d2] at h ⊢
  have i2 : 55296 <= fourB s (j + 1 + 1) /\ fourB s (j + 1 + 1) <= 56319 := by unfold inB at d2; simpa using d2
  by_cases d3 : s.size < j + 1 + 7 ∨ byteI s (j + 1 + 5) ≠ 92 ∨ byteI s (j + 1 + 6) ≠ 117
  case pos => rw [if_pos d3] at h; exact absurd (show (-1 : Int) < 0 by decide) h
  rw [if_neg d3] at h ⊢
  by_cases d4 : inB (fourB s (j + 1 + 7)) 56320 57343 = true
  case neg => rw [if_neg d4] at h; exact absurd (show (-1 : Int) < 0 by decide) h
  rw [if_pos d4]
  have i4 : 56320 <= fourB s (j + 1 + 7) /\ fourB s (j + 1 + 7) <= 57343 := by unfold inB at d4; simpa using d4
  have hqr := qR_len (65536 + 1024 * (fourB s (j + 1 + 1) - 55296) + fourB s (j + 1 + 7) - 56320).toNat
  refine ⟨(65536 + 1024 * (fourB s (j + 1 + 1) - 55296) + fourB s (j + 1 + 7) - 56320).toNat, by simp only; omega, by unfold okR; omega, by simp only; omega⟩
 ·rw [if_neg c0] at h ⊢
  by_cases c1 : (runeB s j).1 < 32
  ·rw [if_pos c1] at h; exact absurd (show (-1 : Int) < 0 by decide) h
  rw [if_neg c1] at h ⊢
  unfold runeB at h c1 ⊢
  rw [if_pos hj] at h c1 ⊢
  by_cases hd : Utf8.decode s j = (65533, 1)
  ·rw [if_pos hd] at h; exact absurd (show (-1 : Int) < 0 by decide) h
  rw [if_neg hd] at h c1 ⊢
  simp only at c1 ⊢
  have hfit := decode_fits s j hj
  have hdl := decodeL_drop s j hj
  have hl : s.data.toList.length = s.size := Array.length_toList
  have hne : s.data.toList.drop j ≠ [] := fun e => by
   have := congrArg List.length e
   rw [List.length_drop, hl] at this
   simp at this
   omega
  have hway := decode_way _ hne (by rw [hdl]; exact hd)
  rw [hdl] at hway
  refine ⟨(Utf8.decode s j).1, rfl, ?_⟩
  rcases hway with ⟨y, h1, h2, h3⟩ | ⟨h1, h2, h3⟩
  ·have hb : byteI s j = (y.toNat : Int) := by
    have hr : Rd s j (y :: (s.data.toList.drop j).drop (Utf8.decode s j).2) := by
     unfold Rd
     rw [<- List.singleton_append, <- h3, List.take_append_drop]
    exact hr.byte0.2
   refine ⟨by unfold okR; omega, ?_⟩
   rw [h1, hq _ h2]
   have hqn : (qN y.toNat).length = 1 := by
    unfold qN
    rw [if_neg (by omega), if_neg (by omega), if_neg (by omega), if_neg (by omega), if_neg (by omega), if_neg (by omega), if_neg (by omega)]
    rfl
   omega
  ·have hk : ((s.data.toList.drop j).take (Utf8.decode s j).2).length = (Utf8.decode s j).2 := by rw [List.length_take, List.length_drop, hl]; omega
   have hlen := congrArg List.length h2
   rw [hk] at hlen
   have hen := congrArg List.length (textB_list (Utf8.decode s j).1)
   rw [List.length_map, hlen] at hen
   refine ⟨?_, ?_⟩
   ·unfold okR
    unfold encN4 at hen
    by_cases hbad : 1114111 < (Utf8.decode s j).1 ∨ (55296 <= (Utf8.decode s j).1 /\ (Utf8.decode s j).1 <= 57343)
    ·rw [if_pos hbad] at hen
     simp at hen
     omega
    ·omega
   ·unfold qR
    rw [if_neg (by omega), hlen]
    omega
theorem quotG_cost (s : ByteArray) : ∀ (f j : Nat) (acc : List UInt8), s.size - j <= f -> ¬ (quotG s j acc).2 < 0 -> ∃ rs : List Nat, (∀ r ∈ rs, okR r) /\ (quotG s j acc).1 = ⟨(acc ++ textsB rs).toArray⟩ /\ ((j + (rs.flatMap qR).length + 1 : Nat) : Int) <= (quotG s j acc).2 := by
 intro f
 induction f with
 | zero =>
  intro j acc hf h
  rw [quotG_end (by omega)] at h
  exact absurd (show (-1 : Int) < 0 by decide) h
 | succ f ih =>
  intro j acc hf h
  by_cases hj : j < s.size
  ·rw [quotG_at hj] at h ⊢
   by_cases c1 : byteI s j = 34
   ·rw [if_pos c1]
    exact ⟨[], fun r hr => (by cases hr), by simp [textsB], by simp⟩
   rw [if_neg c1] at h ⊢
   by_cases c2 : (quotN s j).2 < 0
   ·rw [if_pos c2] at h; exact absurd (show (-1 : Int) < 0 by decide) h
   rw [if_neg c2] at h ⊢
   obtain ⟨r, h1, h2, h3⟩ := quotN_cost hj c1 c2
   have hnx := quotN_next s j
   rw [h1] at h ⊢
   obtain ⟨rs, g1, g2, g3⟩ := ih _ _ (by omega) h
   refine ⟨r :: rs, fun x hx => ?_, ?_, ?_⟩
   ·rcases List.mem_cons.1 hx with rfl | hx
    ·exact h2
    ·exact g1 x hx
   ·rw [g2, List.append_assoc]
    rfl
   ·rw [List.flatMap_cons, List.length_append]
    omega
  ·rw [quotG_end hj] at h
   exact absurd (show (-1 : Int) < 0 by decide) h
theorem quotB_cost {s : ByteArray} {j : Nat} (h : ¬ (quotB s j).2 < 0) : utf8B (quotB s j).1 = true /\ ((j + (quoteB (quotB s j).1).data.toList.length : Nat) : Int) <= (quotB s j).2 := by
 unfold quotB at h ⊢
 by_cases hj : j < s.size
 ·rw [if_pos hj] at h ⊢
  by_cases c1 : byteI s j = 34
  ·rw [if_pos c1] at h ⊢
   obtain ⟨rs, h1, h2, h3⟩ := quotG_cost s _ (j + 1) [] (Nat.le_refl _) h
   rw [List.nil_append] at h2
   have hr : runesAt (quotG s (j + 1) []).1 0 = some rs := runes_texts _ rs 0 h1 (by rw [h2, List.drop_zero])
   refine ⟨by unfold utf8B; rw [hr]; rfl, ?_⟩
   rw [quoteB_runes hr]
   simp only [List.length_append, List.length_cons, List.length_nil]
   omega
  ·rw [if_neg c1] at h
   exact absurd (show (-1 : Int) < 0 by decide) h
 ·rw [if_neg hj] at h
  exact absurd (show (-1 : Int) < 0 by decide) h
def BufB (base : Nat) (w : World) (M : List UInt8) (v : Value) : Prop := w.ownsRow base 5 1 v M.length (Lib.strCells ⟨M.toArray⟩)
theorem BufB.below {base : Nat} {w w' : World} {M : List UInt8} {v : Value} (h : BufB base w M v) (hb : Below w.heap.size w w') : BufB base w' M v := ownsRow_carry h (fun q hq => hb.block q (World.ownsRow.lt h q hq).2)
theorem cells_one (l : List UInt8) : ∀ x ∈ Lib.strCells ⟨l.toArray⟩, x.oneCell' = true := by
 intro x hx
 unfold Lib.strCells at hx
 rw [List.mem_map] at hx
 obtain ⟨b, -, rfl⟩ := hx
 rfl
theorem cells_len (l : List UInt8) : (Lib.strCells ⟨l.toArray⟩).length = l.length := by unfold Lib.strCells; rw [List.length_map]
theorem own_lit {w : World} {bs : List UInt8} {k : Nat} (hk : k = bs.length) (hm : k <= 1048576) {cs : List Value} (hcs : cs = Lib.strCells ⟨bs.toArray⟩) :
  (w.alloc (.cells cs.toArray 5)).ownsRow w.heap.size 5 1 (.slice (some ⟨w.heap.size, 0, none⟩) k k) k (Lib.strCells ⟨bs.toArray⟩) := by
 have hl := cells_len bs
 subst hcs hk
 exact ⟨by rw [hl, Nat.mul_one], .inr ⟨w.heap.size, bs.length, (Lib.strCells ⟨bs.toArray⟩).toArray, rfl, Nat.le_refl _, heap_alloc_new w _, Nat.le_refl _, by unfold maxLen; omega, by rw [List.size_toArray, hl]; omega, by rw [List.take_of_length_le (by simp [hl])]⟩⟩
theorem run_buf (wx : World) (base n c k : Nat) (A : Option Addr) (M bs : List UInt8) (cs : List Value) (hn : n = M.length) (h : BufB base wx M (.slice A n c)) (hk : k = bs.length) (hcs : cs = Lib.strCells ⟨bs.toArray⟩) (hsz : n + k <= 1073741824) (hk2 : k <= 1048576) (hbase : base <= wx.heap.size) :
  ∃ (A' : Option Addr) (c' : Nat) (w' : World), (Builtin.append_ #[28, 28] 28 #[.slice A n c, .slice (some ⟨wx.heap.size, 0, none⟩) k k]).run Tryz.prog (wx.alloc (.cells cs.toArray 5)) = .ok (.slice A' (n + k) c') w' /\ BufB base w' (M ++ bs) (.slice A' (n + k) c') /\ Below base wx w' := by
 obtain ⟨i0, hi, hz0, hz1, hz2⟩ := info_parts (show (Tryz.prog.info? 5).map (fun i => (i.zero, i.size, i.bytes)) = some (some (.int .u8 0), 1, 1) from by kernel_rfl)
 unfold BufB at h
 rw [<- hn] at h
 have hb : Below wx.heap.size wx (wx.alloc (.cells cs.toArray 5)) := bel
 have h' := ownsRow_carry h (fun q hq => hb.block q (World.ownsRow.lt h q hq).2)
 obtain ⟨v', w', hr, h2, h3, h5⟩ := run_append_row (P := Tryz.prog) (wx.alloc (.cells cs.toArray 5)) 28 28 base 5 i0 (.int .u8 0) 1 1 Tryz.underlying28 hi hz0 hz1 hz2 rfl (by decide) (.slice A n c) n _ h' wx.heap.size k _ _ (own_lit hk hk2 hcs) (cells_one bs) (by unfold maxLen; omega) (by omega) (by simp; omega)
 obtain ⟨A', c', rfl⟩ := own_form h2
 refine ⟨A', c', w', hr, ?_, Below.grown (hb.mono hbase) h3 (by simp; omega) (fun q hq => (World.ownsRow.lt h q hq).1)⟩
 unfold BufB
 rw [List.length_append, <- hn, <- hk]
 rw [strCells_list] at h2
 exact h2
def escK (b : Nat) : Int := if b = 8 then 0 else if b = 12 then 1 else if b = 10 then 2 else if b = 13 then 3 else if b = 9 then 4 else -1
theorem idx_escK : ∀ i : Fin 256, Lib.indexByte [8, 12, 10, 13, 9] (UInt8.ofNat i.val) = escK i.val := by decide
theorem c_IndexEscK (b : Nat) (hb : b < 256) (w : World) : Calls Tryz.prog 130 #[.string { data := #[8, 12, 10, 13, 9] }, .int .u8 b] w fun e w' => e = .returned (.int .i64 (escK b)) /\ w = w' := by
 have h := c_strings_IndexByte { data := #[8, 12, 10, 13, 9] } (UInt8.ofNat b) w
 have e1 : (UInt8.ofNat b).toNat = b := by rw [UInt8.toNat_ofNat']; exact Nat.mod_eq_of_lt hb
 rw [e1] at h
 exact h.mono (fun _ _ h => ⟨h.1.trans (congrArg (fun z => Ending.returned (Value.int .i64 z)) (idx_escK ⟨b, hb⟩)), h.2⟩)
theorem hexd : ∀ (x : Nat) (h : x < 16), (({ data := #[48, 49, 50, 51, 52, 53, 54, 55, 56, 57, 97, 98, 99, 100, 101, 102] } : ByteArray)[x]'h).toNat = (figU x).toNat := by
 intro x h
 have h16 : x = 0 ∨ x = 1 ∨ x = 2 ∨ x = 3 ∨ x = 4 ∨ x = 5 ∨ x = 6 ∨ x = 7 ∨ x = 8 ∨ x = 9 ∨ x = 10 ∨ x = 11 ∨ x = 12 ∨ x = 13 ∨ x = 14 ∨ x = 15 := by omega
 rcases h16 with rfl | rfl | rfl | rfl | rfl | rfl | rfl | rfl | rfl | rfl | rfl | rfl | rfl | rfl | rfl | rfl <;> rfl
theorem take_flat {s : ByteArray} {k : Nat} {c : UInt8} (h : s.data.toList[k]? = some c) : (s.data.toList.take (k + 1)).flatMap qB = (s.data.toList.take k).flatMap qB ++ qB c := by
 rw [List.take_add_one, h]
 simp
theorem c_impl_Quoted (s : ByteArray) (w : World) (hs : s.size <= 1048576) (hT : Tabs w) :
  Calls Tryz.prog 163 #[.string s] w fun e w' => e = .returned (.string (quoteB s)) /\ Below w.heap.size w w' := by
 have HU := hid (c_impl_Utf8Ok s w (by omega) hT)
 obtain ⟨r, hr⟩ : ∃ r, r = quoteB s := ⟨_, rfl⟩
 rw [<- hr]
 clear hT
 rcases hu : utf8B s with _ | _
 ·have HR := hid (show r = ⟨#[]⟩ by rw [hr]; unfold quoteB; rw [hu]; rfl)
  clear hr
  go_enter Tryz.func163, Tryz.ntmps163
  go_wp2_with (go_at_call 222; refine HU.out.mono ?_; rintro e w1 ⟨rfl, hb⟩; (first | (have hcu2 := Cum.join hcu hb; (try clear hcu); (try clear hc); (try clear hfz); (try clear hsz); (try clear hs0); (try clear hs1); (try clear hs2); (try clear hs3); (try clear hs4); ) | have hcu2 := Cum.mk hb); have hcu := hcu2; clear hcu2; obtain ⟨hc, hfz⟩ := bcell hcu.h; have hsz := hcu.h.size; (try simp at hsz); (try have hs0 := lt_of_succ_le hsz); (try (have hs1 := lt_pred hsz; (try (have hs2 := lt_pred hs1; (try (have hs3 := lt_pred hs2; (try have hs4 := lt_pred hs3))))))))
  go_ret
  exact ⟨by rw [HR.out]; rfl, bel⟩
 ·have HR := hid (show r = ⟨(34 :: s.data.toList.flatMap qB ++ [34]).toArray⟩ by rw [hr]; unfold quoteB; rw [hu]; rfl)
  clear hr
  go_enter Tryz.func163, Tryz.ntmps163
  go_wp2_with fail
  refine HU.out.mono ?_
  rintro e w1 ⟨rfl, hb1⟩
  have HB1 := hid hb1
  clear hb1
  go_wp2_with fail
  go_loopw [3, 13] (fun s3 v wr => ∃ (k : Nat) (M : List UInt8) (A : Option Addr) (n c : Nat), k <= s.size /\ v = .int .i64 k /\ M = 34 :: (s.data.toList.take k).flatMap qB /\ n = M.length /\ n <= 6 * k + 1 /\ s3 = .slice A n c /\ BufB w.heap.size wr M (.slice A n c) /\ Below w.heap.size w wr) (fun _ v _ => s.size - (Lib.intOf v).toNat)
  case atStart => exact ⟨0, [34], some ⟨w1.heap.size, 0, none⟩, 1, 1, Nat.zero_le _, rfl, rfl, rfl, by omega, rfl, own_less (own_lit (bs := [34]) (k := 1) rfl (by decide) rfl) HB1.out.size, HB1.out.trans (Below.mono bel HB1.out.size)⟩
  case round =>
   obtain ⟨k, M, A, n, c, hk, rfl, hM, hn, hn6, rfl, hbuf, hbr⟩ := hrel
   have HM := hid hM
   have HN := hid hn
   have HBf := hid hbuf
   have HBr := hid hbr
   have hws := hbr.size
   clear hM hn hbuf hbr
   by_cases hlt : k < s.size
   ·have hk0 : (0 : Int) <= k := by omega
    have hk1 : (k : Int) < s.size := by omega
    obtain ⟨b, hb⟩ : ∃ b : Nat, b = (s.get! k).toNat := ⟨_, rfl⟩
    have hx : (s[k]'hlt).toNat = b := by rw [hb]; exact get_at s k hlt
    have hb256 : b < 256 := by rw [<- hx]; exact UInt8.toNat_lt _
    have HQ := hid (show (s.data.toList.take (k + 1)).flatMap qB = (s.data.toList.take k).flatMap qB ++ qN b by
     rw [take_flat (c := s[k]'hlt) (by rw [Array.getElem?_toList]; exact Array.getElem?_eq_getElem hlt), <- hx]; rfl)
    have hql := qN_len b
    clear hb
    obtain ⟨m, hm⟩ : ∃ m, m = (qN b).length := ⟨_, rfl⟩
    rw [<- hm] at hql
    have HMm := hid hm
    clear hm
    go_upto_block 1 with fail
    go_cut [3] from 15 to 55 (fun s3 wx => ∃ (A' : Option Addr) (c' : Nat), s3 = .slice A' (n + m) c' /\ BufB w.heap.size wx (M ++ qN b) (.slice A' (n + m) c') /\ Below w.heap.size w wx)
    case first =>
     by_cases e34 : b = 34 ∨ b = 92
     ·have f1 : ((b : Int) == 34) = true ∨ ((b : Int) == 34) = false /\ ((b : Int) == 92) = true := by
       rcases e34 with rfl | rfl
       ·exact .inl rfl
       ·exact .inr ⟨rfl, rfl⟩
      rcases f1 with f1 | ⟨f1, f2⟩
      all_goals
       obtain ⟨A', c', w2, hr2, hb2, hbb2⟩ := run_buf wr w.heap.size n c 2 A M ([92, UInt8.ofNat b]) [.int .u8 92, .int .u8 (b : Int)] HN.out HBf.out rfl (by simp [Lib.strCells, Nat.mod_eq_of_lt hb256]) (by omega) (by decide) hws
       have HB2 := hid (And.intro hb2 (HBr.out.trans hbb2))
       have HQn := hid (show qN b = [92, UInt8.ofNat b] from by unfold qN; rw [if_pos e34])
       have hm2 : m = 2 := by rw [HMm.out, HQn.out]; rfl
       subst hm2
       clear hb2 hbb2
       go_wp2_with (first | (go_at_call 130; refine (c_IndexEscK b hb256 _).mono ?_; rintro e w9 ⟨rfl, rfl⟩) | (at_builtin; refine wpList_append_of rfl (.tmp 32) (.tmp 34) 28 rfl _ _ _ w2 rfl rfl hr2 ?_))
       go_meet
       exact ⟨A', c', rfl, by rw [HQn.out]; exact HB2.out.1, HB2.out.2⟩
     ·have f1 : ((b : Int) == 34) = false := beq_eq_false_iff_ne.2 (by omega)
      have f2 : ((b : Int) == 92) = false := beq_eq_false_iff_ne.2 (by omega)
      by_cases e8 : b = 8 ∨ b = 12 ∨ b = 10 ∨ b = 13 ∨ b = 9
      ·skip
       rcases e8 with rfl | rfl | rfl | rfl | rfl
       ·obtain ⟨A', c', w2, hr2, hb2, hbb2⟩ := run_buf wr w.heap.size n c 2 A M ([92, 98]) [.int .u8 92, .int .u8 98] HN.out HBf.out rfl rfl (by omega) (by decide) hws
        have HB2 := hid (And.intro hb2 (HBr.out.trans hbb2))
        have HQn := hid (show qN 8 = [92, 98] from rfl)
        have hm2 : m = 2 := by rw [HMm.out, HQn.out]; rfl
        subst hm2
        have HK := hid (show escK 8 = 0 from rfl)
        clear hb2 hbb2 e34
        go_wp2_with (first | (go_at_call 130; refine (c_IndexEscK 8 hb256 _).mono ?_; rintro e w9 ⟨rfl, rfl⟩; rw [HK.out]) | (at_builtin; refine wpList_append_of rfl (.tmp 39) (.tmp 42) 28 rfl _ _ _ w2 rfl rfl hr2 ?_))
        go_meet
        exact ⟨A', c', rfl, by rw [HQn.out]; exact HB2.out.1, HB2.out.2⟩
       ·obtain ⟨A', c', w2, hr2, hb2, hbb2⟩ := run_buf wr w.heap.size n c 2 A M ([92, 102]) [.int .u8 92, .int .u8 102] HN.out HBf.out rfl rfl (by omega) (by decide) hws
        have HB2 := hid (And.intro hb2 (HBr.out.trans hbb2))
        have HQn := hid (show qN 12 = [92, 102] from rfl)
        have hm2 : m = 2 := by rw [HMm.out, HQn.out]; rfl
        subst hm2
        have HK := hid (show escK 12 = 1 from rfl)
        clear hb2 hbb2 e34
        go_wp2_with (first | (go_at_call 130; refine (c_IndexEscK 12 hb256 _).mono ?_; rintro e w9 ⟨rfl, rfl⟩; rw [HK.out]) | (at_builtin; refine wpList_append_of rfl (.tmp 39) (.tmp 42) 28 rfl _ _ _ w2 rfl rfl hr2 ?_))
        go_meet
        exact ⟨A', c', rfl, by rw [HQn.out]; exact HB2.out.1, HB2.out.2⟩
       ·obtain ⟨A', c', w2, hr2, hb2, hbb2⟩ := run_buf wr w.heap.size n c 2 A M ([92, 110]) [.int .u8 92, .int .u8 110] HN.out HBf.out rfl rfl (by omega) (by decide) hws
        have HB2 := hid (And.intro hb2 (HBr.out.trans hbb2))
        have HQn := hid (show qN 10 = [92, 110] from rfl)
        have hm2 : m = 2 := by rw [HMm.out, HQn.out]; rfl
        subst hm2
        have HK := hid (show escK 10 = 2 from rfl)
        clear hb2 hbb2 e34
        go_wp2_with (first | (go_at_call 130; refine (c_IndexEscK 10 hb256 _).mono ?_; rintro e w9 ⟨rfl, rfl⟩; rw [HK.out]) | (at_builtin; refine wpList_append_of rfl (.tmp 39) (.tmp 42) 28 rfl _ _ _ w2 rfl rfl hr2 ?_))
        go_meet
        exact ⟨A', c', rfl, by rw [HQn.out]; exact HB2.out.1, HB2.out.2⟩
       ·obtain ⟨A', c', w2, hr2, hb2, hbb2⟩ := run_buf wr w.heap.size n c 2 A M ([92, 114]) [.int .u8 92, .int .u8 114] HN.out HBf.out rfl rfl (by omega) (by decide) hws
        have HB2 := hid (And.intro hb2 (HBr.out.trans hbb2))
        have HQn := hid (show qN 13 = [92, 114] from rfl)
        have hm2 : m = 2 := by rw [HMm.out, HQn.out]; rfl
        subst hm2
        have HK := hid (show escK 13 = 3 from rfl)
        clear hb2 hbb2 e34
        go_wp2_with (first | (go_at_call 130; refine (c_IndexEscK 13 hb256 _).mono ?_; rintro e w9 ⟨rfl, rfl⟩; rw [HK.out]) | (at_builtin; refine wpList_append_of rfl (.tmp 39) (.tmp 42) 28 rfl _ _ _ w2 rfl rfl hr2 ?_))
        go_meet
        exact ⟨A', c', rfl, by rw [HQn.out]; exact HB2.out.1, HB2.out.2⟩
       ·obtain ⟨A', c', w2, hr2, hb2, hbb2⟩ := run_buf wr w.heap.size n c 2 A M ([92, 116]) [.int .u8 92, .int .u8 116] HN.out HBf.out rfl rfl (by omega) (by decide) hws
        have HB2 := hid (And.intro hb2 (HBr.out.trans hbb2))
        have HQn := hid (show qN 9 = [92, 116] from rfl)
        have hm2 : m = 2 := by rw [HMm.out, HQn.out]; rfl
        subst hm2
        have HK := hid (show escK 9 = 4 from rfl)
        clear hb2 hbb2 e34
        go_wp2_with (first | (go_at_call 130; refine (c_IndexEscK 9 hb256 _).mono ?_; rintro e w9 ⟨rfl, rfl⟩; rw [HK.out]) | (at_builtin; refine wpList_append_of rfl (.tmp 39) (.tmp 42) 28 rfl _ _ _ w2 rfl rfl hr2 ?_))
        go_meet
        exact ⟨A', c', rfl, by rw [HQn.out]; exact HB2.out.1, HB2.out.2⟩
      ·have HK := hid (show escK b = -1 by unfold escK; rw [if_neg (by omega), if_neg (by omega), if_neg (by omega), if_neg (by omega), if_neg (by omega)])
       by_cases e32 : b < 32
       ·have f3 : decide ((b : Int) < 32) = true := decide_eq_true (by omega)
        obtain ⟨x, hx1⟩ : ∃ x : Nat, x = b / 16 := ⟨_, rfl⟩
        obtain ⟨y, hy1⟩ : ∃ y : Nat, y = b % 16 := ⟨_, rfl⟩
        have hx2 : (b : Int) / 16 = x := by omega
        have hy2 : (b : Int) % 16 = y := by omega
        have hy4 : (b : Int).tmod 16 = y := by rw [Int.tmod_eq_emod_of_nonneg (by omega)]; omega
        have hx3 : x < 16 := by omega
        have hy3 : y < 16 := by omega
        have hz1 : (0 : Int) <= x := by omega
        have hz2 : (0 : Int) <= y := by omega
        have hz3 : (x : Int) < 16 := by omega
        have hz4 : (y : Int) < 16 := by omega
        have hwx : IntKind.u8.wrap (x : Int) = x := by rw [IntKind.wrap_u8]; omega
        have hwy : IntKind.u8.wrap (y : Int) = y := by rw [IntKind.wrap_u8]; omega
        have hsx : x < ({ data := #[48, 49, 50, 51, 52, 53, 54, 55, 56, 57, 97, 98, 99, 100, 101, 102] } : ByteArray).size := hx3
        have hsy : y < ({ data := #[48, 49, 50, 51, 52, 53, 54, 55, 56, 57, 97, 98, 99, 100, 101, 102] } : ByteArray).size := hy3
        obtain ⟨A', c', w2, hr2, hb2, hbb2⟩ := run_buf wr.drew w.heap.size n c 6 A M [92, 117, 48, 48, figU x, figU y] [.int .u8 92, .int .u8 117, .int .u8 48, .int .u8 48, .int .u8 ((({ data := #[48, 49, 50, 51, 52, 53, 54, 55, 56, 57, 97, 98, 99, 100, 101, 102] } : ByteArray)[x]'(hsx)).toNat : Nat), .int .u8 ((({ data := #[48, 49, 50, 51, 52, 53, 54, 55, 56, 57, 97, 98, 99, 100, 101, 102] } : ByteArray)[y]'(hsy)).toNat : Nat)] HN.out (HBf.out.below (Below.refl _ _).drew) rfl (by rw [hexd x hx3, hexd y hy3]; rfl) (by omega) (by decide) hws
        have HB2 := hid (And.intro hb2 ((HBr.out.trans (Below.mono (Below.refl _ _).drew HBr.out.size)).trans hbb2))
        have HQn := hid (show qN b = [92, 117, 48, 48, figU x, figU y] by unfold qN; rw [if_neg e34, if_neg (by omega), if_neg (by omega), if_neg (by omega), if_neg (by omega), if_neg (by omega), if_pos e32, hx1, hy1])
        have hm2 : m = 6 := by rw [HMm.out, HQn.out]; rfl
        subst hm2
        clear hx1 hy1 hb2 hbb2
        go_wp2_with (first | (go_at_call 130; refine (c_IndexEscK _ hb256 _).mono ?_; rintro e w9 ⟨rfl, rfl⟩; rw [HK.out]))
        go_region_law (first | (refine step_append_of rfl (.tmp 47) (.tmp 54) 28 rfl _ _ _ w2 rfl rfl hr2 ?_))
        all_goals
         (try go_wp2_with fail)
         go_meet
         exact ⟨A', c', rfl, by rw [HQn.out]; exact HB2.out.1, HB2.out.2⟩
       ·have f3 : decide ((b : Int) < 32) = false := decide_eq_false (by omega)
        obtain ⟨A', c', w2, hr2, hb2, hbb2⟩ := run_buf wr w.heap.size n c 1 A M ([UInt8.ofNat b]) [.int .u8 (b : Int)] HN.out HBf.out rfl (by simp [Lib.strCells, Nat.mod_eq_of_lt hb256]) (by omega) (by decide) hws
        have HB2 := hid (And.intro hb2 (HBr.out.trans hbb2))
        have HQn := hid (show qN b = [UInt8.ofNat b] from by unfold qN; rw [if_neg e34, if_neg (by omega), if_neg (by omega), if_neg (by omega), if_neg (by omega), if_neg (by omega), if_neg e32])
        have hm2 : m = 1 := by rw [HMm.out, HQn.out]; rfl
        subst hm2
        clear hb2 hbb2
        go_wp2_with (first | (go_at_call 130; refine (c_IndexEscK b hb256 _).mono ?_; rintro e w9 ⟨rfl, rfl⟩; rw [HK.out]) | (at_builtin; refine wpList_append_of rfl (.tmp 21) (.tmp 23) 28 rfl _ _ _ w2 rfl rfl hr2 ?_))
        go_meet
        exact ⟨A', c', rfl, by rw [HQn.out]; exact HB2.out.1, HB2.out.2⟩
    case rest =>
     obtain ⟨A', c', rfl, hbf, hbb⟩ := hcut
     have HB' := hid hbf
     have HX := hid (show M ++ qN b = 34 :: (s.data.toList.take (k + 1)).flatMap qB by rw [HM.out, HQ.out]; rfl)
     clear hbf hx
     go_wp2_with fail
     go_roundw
     case rel => exact ⟨k + 1, M ++ qN b, A', n + m, c', by omega, by go_num, HX.out, by rw [List.length_append, HN.out, HMm.out], by omega, rfl, HB'.out, hbb⟩
     case measure => simp [Lib.intOf]; omega
   ·obtain rfl : k = s.size := by omega
    have HX := hid (show r = ⟨(M ++ [34]).toArray⟩ by rw [HR.out, HM.out, List.take_of_length_le (by rw [Array.length_toList]; exact Nat.le_refl _)])
    obtain ⟨A', c', w2, hr2, hb2, hbb2⟩ := run_buf wr w.heap.size n c 1 A M [34] [.int .u8 34] HN.out HBf.out rfl rfl (by omega) (by decide) hws
    have hn1 : n + 1 = (M ++ [34]).length := by rw [List.length_append, <- HN.out]; rfl
    have hcv := own_string hn1 (show w2.ownsRow w.heap.size 5 1 (.slice A' (n + 1) c') (n + 1) (Lib.strCells ⟨(M ++ [34]).toArray⟩) from hn1 ▸ hb2)
    have HN1 := hid hn1
    clear hn1 hb2
    go_wp2_with (at_builtin; refine wpList_append_of rfl (.tmp 57) (.tmp 58) 28 rfl _ _ _ w2 rfl rfl hr2 ?_)
    go_ret
    exact ⟨by rw [HX.out]; rfl, HBr.out.trans hbb2⟩
end Go.Proofs.YtohcpifekcehjaaGreatDoor
