/- Steps to FnIndentedNormal. No conditions. -/
import Derived.Test.YtohcpifekcehjaaGreatDoorKfni7
import Derived.Laws.Externs
import Derived.WalkKit
import Derived.Lib.Walk
import Derived.Lib.SliceRun
import Derived.Lib.JoinLaws
import Derived.Lib.AppendZeros
import Derived.Deep.RegionLaw
import Derived.Shelf.RegionOpenPlain
import Derived.RowKit
import Derived.Test.YtohcpifekcehjaaGreatDoorKfni6
import Derived.Test.YtohcpifekcehjaaGreatDoorKfni3
import Derived.Test.YtohcpifekcehjaaGreatDoorKfni2
import Derived.Test.YtohcpifekcehjaaGreatDoorKfni5
import Derived.Shelf.LaysM
import Derived.Shelf.Strconv.Itoa3
import Derived.Test.YtohcpifekcehjaaGreatDoorKfni1
import Derived.Deep.CutRange
import Derived.Deep.CutBlock
set_option maxHeartbeats 16000000
set_option maxRecDepth 20000
namespace Go.Proofs.YtohcpifekcehjaaGreatDoor
open Go.RowKit Go.Lib
theorem Jes (g n c i vb : Nat) (cs vs : List Value) (w : World) (hi : i < n) (hroom : n + 1 <= c) (hc63 : c <= 9223372036854775807) (hvb : vb ≠ g)
  (hcl : cs.length = n * 6) (hvl : vs.length = 6)
  (hcs : ∀ j v, cs[j]? = some v -> w.cell? ⟨g, j, none⟩ = some v) (hsp : ∀ j, j < (n + 1) * 6 -> (w.cell? ⟨g, j, none⟩).isSome = true) (hfz : ∀ j, w.frozen? ⟨g, j, none⟩ = false)
  (hvs : ∀ j v, vs[j]? = some v -> w.cell? ⟨vb, j, none⟩ = some v) (h1c : ∀ v ∈ cs, v.oneCell' = true) (h1v : ∀ v ∈ vs, v.oneCell' = true)
  (tA tB : TypeId) (kA kB : Nat) (hsa : w.shape? vb = some (tA, kA)) (hsb : w.shape? g = some (tB, kB)) (hkB : kB ≠ 0) (hfa : w.frozen? ⟨vb, 0, none⟩ = false) (hfe : w.frozen? ⟨vb, kA, none⟩ = false) :
  Calls Tryz.prog 185 #[.slice (some ⟨g, 0, none⟩) n c, .int .i64 i, .slice (some ⟨vb, 0, none⟩) 1 1] w fun e w' =>
   e = .returned (.slice (some ⟨g, 0, none⟩) (n + 1) c) /\ w' = (w.drew.setCells g ((i + 1) * 6) (cs.drop (i * 6))).setCells g (i * 6) vs := by
 have hz2 : ¬ ((i : Int) = (n : Int)) := by omega
 have hsz : (Tryz.prog.info? 34).map (·.size) = some 6 := by kernel_rfl
 have hov : ∀ lb cb, (callFunc 243 #[.slice (some ⟨vb, 0, none⟩) 1 1, .slice (some ⟨g, (i + 1) * 6, none⟩) lb cb]).run Tryz.prog w = .ok (.value (.bool false)) w := fun lb cb => by
  rw [run_callFunc_extern Tryz.func243 (by kernel_rfl) (by kernel_rfl) (by kernel_rfl) (e := Extern.SlicesOverlaps.overlaps #[32, 32] #[4]) (by kernel_rfl),
   Lib.run_overlaps_apart w 32 4 34 Tryz.underlying32 6 (fun w => Tryz.sizeOf34 w) ⟨vb, 0, none⟩ ⟨g, (i + 1) * 6, none⟩ 1 1 lb cb hvb tA tB kA kB hsa hsb hkB hfa hfe]
  rfl
 have hdl : (cs.drop (i * 6)).length = (n - i) * 6 := by rw [List.length_drop, hcl]; omega
 have mixed : Tryz.prog.follows Departure.mixedOrders = true := by kernel_rfl
 have hw1 : IntKind.i64.wrap ((i : Int) + 1) = (i : Int) + 1 := by rw [IntKind.wrap_i64]; omega
 have hb1 : (0 : Int) <= (i : Int) + 1 := by omega
 have hin : i <= n := by omega
 have htn : ((i : Int) + 1).toNat = i + 1 := by omega
 have hb2 : ¬ (c = i + 1) := by omega
 have hb3 : (i : Int) <= (n : Int) + 1 := by omega
 have hb4 : ¬ (c = i) := by omega
 have hcp1 : ∀ ty dc sc, (Builtin.copy_ #[32, 32] ty #[.slice (some ⟨g, (i + 1) * 6, none⟩) (n - i) dc, .slice (some ⟨g, i * 6, none⟩) (n + 1 - i) sc]).run Tryz.prog w.drew = .ok (goInt (Nat.min (n + 1 - i) (n - i))) (w.drew.setCells g ((i + 1) * 6) (cs.drop (i * 6))) := fun ty dc sc =>
  Yh w.drew _ _ ty 34 6 g ((i + 1) * 6) (n - i) dc ⟨g, i * 6, none⟩ (n + 1 - i) sc (cs.drop (i * 6)) Tryz.underlying32 hsz (by rw [hdl]; simp only [Nat.min_def]; split <;> omega)
   (fun j v hj => by rw [Yu]; exact hcs (i * 6 + j) v (by rwa [List.getElem?_drop] at hj))
   (fun j hj => hsp _ (by rw [hdl] at hj; omega)) (fun j _ => hfz _) (fun v hv => h1c v (List.mem_of_mem_drop hv))
 obtain ⟨W1, hW1⟩ : ∃ W1, W1 = w.drew.setCells g ((i + 1) * 6) (cs.drop (i * 6)) := ⟨_, rfl⟩
 have hsp1 : ∀ k, k < (n + 1) * 6 -> (W1.cell? ⟨g, k, none⟩).isSome = true := fun k hk => by
  rw [hW1];exact Jax g (cs.drop (i * 6)) ((i + 1) * 6) w.drew (fun j hj => hsp _ (by rw [hdl] at hj; omega)) _ (hsp k hk)
 have hcp2 : ∀ (W : World), (∀ x, W.cell? x = W1.cell? x) -> (∀ x, W.frozen? x = W1.frozen? x) -> ∀ ty dc, (Builtin.copy_ #[32, 32] ty #[.slice (some ⟨g, i * 6, none⟩) (n + 1 - i) dc, .slice (some ⟨vb, 0, none⟩) 1 1]).run Tryz.prog W = .ok (goInt (Nat.min 1 (n + 1 - i))) (W.setCells g (i * 6) vs) := fun W hWc hWf ty dc =>
  Yh W _ _ ty 34 6 g (i * 6) (n + 1 - i) dc ⟨vb, 0, none⟩ 1 1 vs Tryz.underlying32 hsz (by rw [hvl]; simp only [Nat.min_def]; split <;> omega)
   (fun j v hj => by
    rw [Yu, hWc, hW1, World.cell?_setCells_out g _ _ _ _ (fun h _ => absurd h hvb), Nat.zero_add]
    exact hvs j v hj)
   (fun j hj => by rw [hWc]; exact hsp1 _ (by omega)) (fun j _ => by rw [hWf, hW1, World.frozen?_setCells]; exact hfz _) h1v
 rw [<- hW1] at hcp1;go_enter Tryz.func185, Tryz.ntmps185
 go_wp2_with (simp only [hov])
 go_region_law_o (refine WA rfl _ _ 32 32 rfl _ _ (by simp [Act.eval, Act.put]) (by simp [Act.eval, Act.put]) (hcp1 _ _ _) ?_)
 go_wp2_with (at_builtin; refine Yw rfl _ _ 32 32 rfl _ _ rfl rfl (hcp2 _ (fun _ => rfl) (fun _ => rfl) _ _) ?_)
 go_ret
 first | exact ⟨rfl, rfl⟩ | exact ⟨rfl, by rw [hW1]⟩
theorem JgC (base n vb : Nat) (v : Value) (xs vs : List Value) (w : World) (hown : w.ownsRow base 34 6 v n xs) (hvl : vs.length = 6)
  (hvs : ∀ j u, vs[j]? = some u -> w.cell? ⟨vb, j, none⟩ = some u) (h1v : ∀ u ∈ vs, u.oneCell' = true) (hn : n <= 1048576) (hbase : base <= w.heap.size) :
  Calls Tryz.prog 185 #[v, .int .i64 n, .slice (some ⟨vb, 0, none⟩) 1 1] w fun e w' => ∃ g cap, e = .returned (.slice (some ⟨g, 0, none⟩) (n + 1) cap) /\ w'.ownsRow base 34 6 (.slice (some ⟨g, 0, none⟩) (n + 1) cap) (n + 1) (xs ++ vs) /\ w.grownBy w' v.ownBlock /\ (v.ownBlock = some g ∨ g = w.heap.size) /\ g < w'.heap.size := by
 obtain ⟨i0, hi, hz0, hz1, hz2⟩ := info_parts (show (Tryz.prog.info? 34).map (fun i => (i.zero, i.size, i.bytes)) = some (some (.agg #[.int .i64 0, .bool false, .int .i64 0, .string ⟨#[]⟩, .slice none 0 0, .slice none 0 0]), 6, 88) from by kernel_rfl);have HO := hid hown;obtain ⟨A, c, rfl⟩ := JP hown;have hnc := Z4 hown;have hnews : ∀ j u, vs[j]? = some u -> w.cell? ((⟨vb, 0, none⟩ : Addr).add j) = some u := fun j u hj => by rw [Yu, Nat.zero_add]; exact hvs j u hj
 have HNw := hid hnews;have H1v := hid h1v;clear hvs hnews h1v;rcases A with _ | ⟨ab, ao, asp⟩
 ·have hn0 : n = 0 := by
   rcases hown.2 with ⟨-, h0⟩ | ⟨g, cap, cur, h0, -⟩
   ·exact h0
   cases h0
  subst hn0;clear hown;go_enter Tryz.func185, Tryz.ntmps185
  go_wp2_with (at_builtin; refine wpList_append_lies _ rfl _ _ 32 rfl base 34 i0 (.agg #[.int .i64 0, .bool false, .int .i64 0, .string ⟨#[]⟩, .slice none 0 0, .slice none 0 0]) 6 88 Tryz.underlying32 hi hz0 hz1 hz2 rfl (by decide) _ 0 xs rfl HO.out ⟨vb, 0, none⟩ 1 1 vs rfl (by rw [hvl]) HNw.out H1v.out (by decide) (by unfold maxLen; omega) (by omega) hbase _ rfl ?_)
  intro g cap w2 hown2 hgrow2 hat2 hlt2;have HX := hid (And.intro hown2 (And.intro hgrow2 (And.intro hat2 hlt2)));clear hown2 hgrow2 hat2 hlt2;go_wp2_with fail
  go_ret
  exact ⟨g, cap, rfl, HX.out.1, HX.out.2.1, HX.out.2.2.1, HX.out.2.2.2⟩
 clear hown;go_enter Tryz.func185, Tryz.ntmps185
 go_wp2_with (at_builtin; refine wpList_append_lies _ rfl _ _ 32 rfl base 34 i0 (.agg #[.int .i64 0, .bool false, .int .i64 0, .string ⟨#[]⟩, .slice none 0 0, .slice none 0 0]) 6 88 Tryz.underlying32 hi hz0 hz1 hz2 rfl (by decide) _ n xs rfl HO.out ⟨vb, 0, none⟩ 1 1 vs rfl (by rw [hvl]) HNw.out H1v.out (by decide) (by unfold maxLen; omega) (by omega) hbase _ rfl ?_)
 all_goals
  intro g cap w2 hown2 hgrow2 hat2 hlt2;have HX := hid (And.intro hown2 (And.intro hgrow2 (And.intro hat2 hlt2)));clear hown2 hgrow2 hat2 hlt2;go_wp2_with fail
  go_ret
  exact ⟨g, cap, rfl, HX.out.1, HX.out.2.1, HX.out.2.2.1, HX.out.2.2.2⟩
theorem JfX (g n c i vb : Nat) (cs vs : List Value) (w : World) (hi : i < n) (hnc : n <= c) (hroom : c < n + 1) (hbig : (n + 1) * 88 <= 140737488355328)
  (hcl : cs.length = n * 6) (hvl : vs.length = 6)
  (hcs : ∀ j v, cs[j]? = some v -> w.cell? ⟨g, j, none⟩ = some v)
  (hvs : ∀ j v, vs[j]? = some v -> w.cell? ⟨vb, j, none⟩ = some v) (h1c : ∀ v ∈ cs, v.oneCell' = true) (h1v : ∀ v ∈ vs, v.oneCell' = true) :
  Calls Tryz.prog 185 #[.slice (some ⟨g, 0, none⟩) n c, .int .i64 i, .slice (some ⟨vb, 0, none⟩) 1 1] w fun e w' => ∃ (G : Nat) (ROW : Array Value),
   e = .returned (.slice (some ⟨w.heap.size, 0, none⟩) (n + 1) G) /\ n + 1 <= G /\ G <= maxLen /\ ROW.size = G * 6 /\ ROW.toList.take (i * 6) = cs.take (i * 6) /\
   w' = ((w.alloc (.cells ROW 34)).drew.setCells w.heap.size (i * 6) vs).drew.setCells w.heap.size ((i + 1) * 6) (cs.drop (i * 6)) := by
 obtain ⟨i0, hi0, hz0, hzs, hzb⟩ := info_parts (show (Tryz.prog.info? 34).map (fun i => (i.zero, i.size, i.bytes)) = some (some (.agg #[.int .i64 0, .bool false, .int .i64 0, .string ⟨#[]⟩, .slice none 0 0, .slice none 0 0]), 6, 88) from by kernel_rfl);have mixed : Tryz.prog.follows Departure.mixedOrders = true := by kernel_rfl
 have hz2 : ¬ ((i : Int) = (n : Int)) := by omega
 have hz3 : (c : Int) < (n : Int) + 1 := by omega
 have hsz : (Tryz.prog.info? 34).map (·.size) = some 6 := by kernel_rfl
 have hbw : g < w.heap.size := block_lt_of_cell (hcs 0 _ (List.getElem?_eq_getElem (by omega)));have hvw : vb < w.heap.size := block_lt_of_cell (hvs 0 _ (List.getElem?_eq_getElem (by omega)));have hkk : (n : Int) + 1 - (i : Int) = ((n + 1 - i : Nat) : Int) := by omega
 have hik : i + (n + 1 - i) = n + 1 := by omega
 have htl : (cs.take (i * 6)).length = i * 6 := by rw [List.length_take, hcl]; omega
 have hold : (Builtin.firstCells i0.size i (.slice (some ⟨g, 0, none⟩) i c)).run Tryz.prog w.drew = .ok (cs.take (i * 6)).toArray w.drew := by
  rw [hzs]
  exact run_firstCells_some w.drew 6 i ⟨g, 0, none⟩ i c (cs.take (i * 6)) htl (fun j v hj => by
   rw [Yu, Nat.zero_add];rw [List.getElem?_take] at hj;split at hj
   ·exact hcs j v hj
   cases hj)
 have hrz : ∀ ty, (Builtin.append_ #[32, 3] ty #[.slice (some ⟨g, 0, none⟩) i c, .int .i64 ((n : Int) + 1 - (i : Int))]).run Tryz.prog w =
   .ok (.slice (some ⟨w.heap.size, 0, none⟩) (n + 1) (grownCap w (n + 1) c 34)) (w.drew.alloc (.cells ((cs.take (i * 6)).toArray ++ Builtin.zeroCells (.agg #[.int .i64 0, .bool false, .int .i64 0, .string ⟨#[]⟩, .slice none 0 0, .slice none 0 0] : Value).cells (n + 1 - i) ++ Builtin.zeroCells (.agg #[.int .i64 0, .bool false, .int .i64 0, .string ⟨#[]⟩, .slice none 0 0, .slice none 0 0] : Value).cells (grownCap w (n + 1) c 34 - (n + 1))) 34)) := fun ty => by
  have h := Lib.run_append_grow_zeros w 32 3 ty 34 i0 _ .i64 .i64 Tryz.underlying32 Tryz.underlying3 hi0 hz0 (some ⟨g, 0, none⟩) i c (cs.take (i * 6)) hold (n + 1 - i) (by omega) (by omega) (by omega) (by omega) (by rw [hzb]; omega) (by rw [hzb, hik]; exact growslice_fits hroom hbig);rw [hik] at h;rw [hkk];exact h
 obtain ⟨G, hG⟩ : ∃ G, G = grownCap w (n + 1) c 34 := ⟨_, rfl⟩
 have hGn : n + 1 <= G := by rw [hG]; exact grownCap_ge w _ _ _
 have hG63 : G <= maxLen := by rw [hG]; exact grownCap_le_maxLen w (n + 1) c 34 (by unfold maxLen; omega)
 obtain ⟨ROW, hROW⟩ : ∃ ROW : Array Value, ROW = (cs.take (i * 6)).toArray ++ Builtin.zeroCells (.agg #[.int .i64 0, .bool false, .int .i64 0, .string ⟨#[]⟩, .slice none 0 0, .slice none 0 0] : Value).cells (n + 1 - i) ++ Builtin.zeroCells (.agg #[.int .i64 0, .bool false, .int .i64 0, .string ⟨#[]⟩, .slice none 0 0, .slice none 0 0] : Value).cells (G - (n + 1)) := ⟨_, rfl⟩
 rw [<- hG] at hrz;rw [<- hROW] at hrz
 have hRl : ROW.size = G * 6 := by
  rw [hROW];simp only [Array.size_append, size_zeroCells, List.size_toArray, htl];rw [show (.agg #[.int .i64 0, .bool false, .int .i64 0, .string ⟨#[]⟩, .slice none 0 0, .slice none 0 0] : Value).cells.size = 6 from rfl];omega
 have hRt : ROW.toList.take (i * 6) = cs.take (i * 6) := by
  rw [hROW, Array.append_assoc, Array.toList_append];rw [List.take_left' htl]
 obtain ⟨W1, hW1⟩ : ∃ W1, W1 = w.drew.alloc (.cells ROW 34) := ⟨_, rfl⟩
 rw [<- hW1] at hrz
 have hN : ∀ j, j < (n + 1) * 6 -> (W1.cell? ⟨w.heap.size, j, none⟩).isSome = true := fun j hj => by
  rw [hW1, World.cell?_alloc_at (w := w.drew) ROW _ w.heap.size j rfl, Array.getElem?_eq_getElem (by omega)]; rfl
 have hNf : ∀ j, W1.frozen? ⟨w.heap.size, j, none⟩ = false := fun j => by rw [hW1]; exact World.frozen?_alloc_at (w := w.drew) ROW _ w.heap.size j rfl
 have hOb : ∀ j v, w.cell? ⟨g, j, none⟩ = some v -> W1.cell? ⟨g, j, none⟩ = some v := fun j v h => by rw [hW1, World.cell?_alloc_past (w := w.drew) _ g j hbw]; exact h
 have hOv : ∀ j v, w.cell? ⟨vb, j, none⟩ = some v -> W1.cell? ⟨vb, j, none⟩ = some v := fun j v h => by rw [hW1, World.cell?_alloc_past (w := w.drew) _ vb j hvw]; exact h
 have hcpA : ∀ (W : World), (∀ x, W.cell? x = W1.cell? x) -> (∀ x, W.frozen? x = W1.frozen? x) -> ∀ ty dc, (Builtin.copy_ #[32, 32] ty #[.slice (some ⟨w.heap.size, i * 6, none⟩) (n + 1 - i) dc, .slice (some ⟨vb, 0, none⟩) 1 1]).run Tryz.prog W = .ok (goInt (Nat.min 1 (n + 1 - i))) (W.setCells w.heap.size (i * 6) vs) := fun W hWc hWf ty dc =>
  Yh W _ _ ty 34 6 w.heap.size (i * 6) (n + 1 - i) dc ⟨vb, 0, none⟩ 1 1 vs Tryz.underlying32 hsz (by rw [hvl]; simp only [Nat.min_def]; split <;> omega)
   (fun j v hj => by rw [Yu, hWc, Nat.zero_add]; exact hOv _ v (hvs j v hj))
   (fun j hj => by rw [hWc]; exact hN _ (by omega)) (fun j _ => by rw [hWf]; exact hNf _) h1v
 have hG63i : G <= 9223372036854775807 := by unfold maxLen at hG63; omega
 have hGi : ¬ (G = i) := by omega
 have hGim : ¬ (G = i + 1) := by omega
 have hci : ¬ (c = i) := by omega
 have hbN : g ≠ w.heap.size := by omega
 have hdl : (cs.drop (i * 6)).length = (n - i) * 6 := by rw [List.length_drop, hcl]; omega
 have hcpB : ∀ (W : World), (∀ x, W.cell? x = (W1.setCells w.heap.size (i * 6) vs).cell? x) -> (∀ x, W.frozen? x = (W1.setCells w.heap.size (i * 6) vs).frozen? x) -> ∀ ty dc sc, (Builtin.copy_ #[32, 32] ty #[.slice (some ⟨w.heap.size, (i + 1) * 6, none⟩) (n - i) dc, .slice (some ⟨g, i * 6, none⟩) (n - i) sc]).run Tryz.prog W = .ok (goInt (Nat.min (n - i) (n - i))) (W.setCells w.heap.size ((i + 1) * 6) (cs.drop (i * 6))) := fun W hWc hWf ty dc sc =>
  Yh W _ _ ty 34 6 w.heap.size ((i + 1) * 6) (n - i) dc ⟨g, i * 6, none⟩ (n - i) sc (cs.drop (i * 6)) Tryz.underlying32 hsz (by rw [hdl]; simp only [Nat.min_def]; split <;> omega)
   (fun j v hj => by
    rw [Yu, hWc, World.cell?_setCells_out _ _ _ _ _ (fun h _ => absurd h hbN)]
    exact hOb _ v (hcs (i * 6 + j) v (by rwa [List.getElem?_drop] at hj)))
   (fun j hj => by rw [hWc]; exact Jax _ vs (i * 6) W1 (fun t ht => hN _ (by omega)) _ (hN _ (by rw [hdl] at hj; omega)))
   (fun j _ => by rw [hWf, World.frozen?_setCells]; exact hNf _) (fun v hv => h1c v (List.mem_of_mem_drop hv))
 subst hW1;have hE1 : ∀ x, ((w.alloc (.cells ROW 34)).drew).cell? x = (w.drew.alloc (.cells ROW 34)).cell? x := fun x => rfl
 have hE2 : ∀ x, ((w.alloc (.cells ROW 34)).drew).frozen? x = (w.drew.alloc (.cells ROW 34)).frozen? x := fun x => rfl
 have hF1 : ∀ x, (((w.alloc (.cells ROW 34)).drew.setCells w.heap.size (i * 6) vs).drew).cell? x = ((w.drew.alloc (.cells ROW 34)).setCells w.heap.size (i * 6) vs).cell? x := fun x => rfl
 have hF2 : ∀ x, (((w.alloc (.cells ROW 34)).drew.setCells w.heap.size (i * 6) vs).drew).frozen? x = ((w.drew.alloc (.cells ROW 34)).setCells w.heap.size (i * 6) vs).frozen? x := fun x => rfl
 have hw1 : IntKind.i64.wrap ((i : Int) + 1) = (i : Int) + 1 := by rw [IntKind.wrap_i64]; omega
 have hb1 : (0 : Int) <= (i : Int) + 1 := by omega
 have hin : i <= n := by omega
 have htn : ((i : Int) + 1).toNat = i + 1 := by omega
 have hb3 : (i : Int) <= (n : Int) := by omega
 have HFin := hid (And.intro hGn (And.intro hG63 (And.intro hRl hRt)));clear hkk hik hold hROW hG hRl hRt hG63;go_enter Tryz.func185, Tryz.ntmps185
 go_wp2_with (first
  | (at_builtin; refine Ji rfl _ _ _ ?_ _ _ _ _ rfl rfl (hrz _) ?_)
  | (at_builtin; refine Lib.wpList_append_run _ rfl _ _ _ _ rfl _ _ rfl rfl _ _ (hrz _) ?_)
  | (at_builtin; refine Yw rfl _ _ 32 32 rfl _ _ rfl rfl (hcpA _ hE1 hE2 _ _) ?_)
  | (at_builtin; refine Yw rfl _ _ 32 32 rfl _ _ rfl rfl (hcpB _ (fun _ => rfl) (fun _ => rfl) _ _ _) ?_))
 go_region_law_o (refine WA rfl _ _ 32 32 rfl (.slice (some ⟨w.heap.size, (i + 1) * 6, none⟩) (n - i) (G - (i + 1))) (.slice (some ⟨g, i * 6, none⟩) (n - i) (c - i)) (by simp [Act.eval, Act.put]) (by simp [Act.eval, Act.put]) (hcpB _ hF1 hF2 3 (G - (i + 1)) (c - i)) ?_)
 go_wp2
 go_ret
 exact ⟨G, ROW, rfl, HFin.out.1, HFin.out.2.1, HFin.out.2.2.1, HFin.out.2.2.2, rfl⟩
theorem Jf4 (base n vb : Nat) (v : Value) (xs vs : List Value) (w : World) (hown : w.ownsRow base 9 1 v n xs) (hvl : vs.length = 1)
  (hvs : ∀ j u, vs[j]? = some u -> w.cell? ⟨vb, j, none⟩ = some u) (h1v : ∀ u ∈ vs, u.oneCell' = true) (hn : n <= 1048576) (hbase : base <= w.heap.size) :
  Calls Tryz.prog 184 #[v, .int .i64 n, .slice (some ⟨vb, 0, none⟩) 1 1] w fun e w' => ∃ g cap, e = .returned (.slice (some ⟨g, 0, none⟩) (n + 1) cap) /\ w'.ownsRow base 9 1 (.slice (some ⟨g, 0, none⟩) (n + 1) cap) (n + 1) (xs ++ vs) /\ w.grownBy w' v.ownBlock /\ (v.ownBlock = some g ∨ g = w.heap.size) /\ g < w'.heap.size := by
 obtain ⟨i0, hi, hz0, hz1, hz2⟩ := info_parts (show (Tryz.prog.info? 9).map (fun i => (i.zero, i.size, i.bytes)) = some (some (.string ⟨#[]⟩), 1, 16) from by kernel_rfl);have HO := hid hown;obtain ⟨A, c, rfl⟩ := JP hown;have hnc := Z4 hown;have hnews : ∀ j u, vs[j]? = some u -> w.cell? ((⟨vb, 0, none⟩ : Addr).add j) = some u := fun j u hj => by rw [Yu, Nat.zero_add]; exact hvs j u hj
 have HNw := hid hnews;have H1v := hid h1v;clear hvs hnews h1v;rcases A with _ | ⟨ab, ao, asp⟩
 ·have hn0 : n = 0 := by
   rcases hown.2 with ⟨-, h0⟩ | ⟨g, cap, cur, h0, -⟩
   ·exact h0
   cases h0
  subst hn0;clear hown;go_enter Tryz.func184, Tryz.ntmps184
  go_wp2_with (at_builtin; refine wpList_append_lies _ rfl _ _ 31 rfl base 9 i0 (.string ⟨#[]⟩) 1 16 Tryz.underlying31 hi hz0 hz1 hz2 rfl (by decide) _ 0 xs rfl HO.out ⟨vb, 0, none⟩ 1 1 vs rfl (by rw [hvl]) HNw.out H1v.out (by decide) (by unfold maxLen; omega) (by omega) hbase _ rfl ?_)
  intro g cap w2 hown2 hgrow2 hat2 hlt2;have HX := hid (And.intro hown2 (And.intro hgrow2 (And.intro hat2 hlt2)));clear hown2 hgrow2 hat2 hlt2;go_wp2_with fail
  go_ret
  exact ⟨g, cap, rfl, HX.out.1, HX.out.2.1, HX.out.2.2.1, HX.out.2.2.2⟩
 clear hown;go_enter Tryz.func184, Tryz.ntmps184
 go_wp2_with (at_builtin; refine wpList_append_lies _ rfl _ _ 31 rfl base 9 i0 (.string ⟨#[]⟩) 1 16 Tryz.underlying31 hi hz0 hz1 hz2 rfl (by decide) _ n xs rfl HO.out ⟨vb, 0, none⟩ 1 1 vs rfl (by rw [hvl]) HNw.out H1v.out (by decide) (by unfold maxLen; omega) (by omega) hbase _ rfl ?_)
 all_goals
  intro g cap w2 hown2 hgrow2 hat2 hlt2;have HX := hid (And.intro hown2 (And.intro hgrow2 (And.intro hat2 hlt2)));clear hown2 hgrow2 hat2 hlt2;go_wp2_with fail
  go_ret
  exact ⟨g, cap, rfl, HX.out.1, HX.out.2.1, HX.out.2.2.1, HX.out.2.2.2⟩
theorem JbP {w w' : World} {g : Nat} (h : Aside (fun q => q = g) w w') : w.grownBy w' (some g) := ⟨h.os, h.tape, h.output, h.size, fun k hk hne => h.block k hk (fun e => hne (by rw [e]))⟩
theorem Jin {C xs vs : List Value} {N I K : Nat} (hI : I <= N) (hC : N + K <= C.length) (hx : C.take N = xs) (hv : vs.length = K) :
  ((C.take (I + K) ++ xs.drop I ++ C.drop (I + K + (xs.drop I).length)).take I ++ vs ++ (C.take (I + K) ++ xs.drop I ++ C.drop (I + K + (xs.drop I).length)).drop (I + vs.length)).take (N + K) = xs.take I ++ vs ++ xs.drop I := by
 have hxl : xs.length = N := by rw [<- hx, List.length_take]; omega
 have hd : (xs.drop I).length = N - I := by rw [List.length_drop, hxl]
 have h1 : (C.take (I + K)).length = I + K := by rw [List.length_take]; omega
 have ht : xs.take I = C.take I := by rw [<- hx, List.take_take]; congr 1; omega
 obtain ⟨R, hR⟩ : ∃ R, R = C.drop (I + K + (xs.drop I).length) := ⟨_, rfl⟩
 rw [<- hR]
 have e1 : (C.take (I + K) ++ xs.drop I ++ R).take I = C.take I := by
  rw [List.append_assoc, List.take_append_of_le_length (by omega), List.take_take];congr 1
  omega
 have e2 : (C.take (I + K) ++ xs.drop I ++ R).drop (I + vs.length) = xs.drop I ++ R := by rw [hv, List.append_assoc, List.drop_left' h1]
 rw [e1, e2, <- ht, <- List.append_assoc, List.take_append_of_le_length (by simp only [List.length_append, List.length_take, hd, hv]; omega)];exact List.take_of_length_le (by simp only [List.length_append, List.length_take, hd, hv]; omega)
theorem JbG {w W : World} {base K n g c i o1 o2 : Nat} {e : TypeId} {xs vs : List Value} (h : w.ownsRow base e K (.slice (some ⟨g, 0, none⟩) n c) n xs) (hi : i <= n) (hroom : n + 1 <= c) (hvl : vs.length = K) (h1 : o1 = (i + 1) * K) (h2 : o2 = i * K)
  (hW : W = (w.drew.setCells g o1 (xs.drop (i * K))).setCells g o2 vs) : W.ownsRow base e K (.slice (some ⟨g, 0, none⟩) (n + 1) c) (n + 1) (xs.take (i * K) ++ vs ++ xs.drop (i * K)) /\ w.grownBy W (some g) := by
 obtain ⟨cur, hg, hn, hcm, hcs, ht, hb⟩ := JaX h;have hNI : i * K <= n * K := Nat.mul_le_mul_right K hi;have hNc : (n + 1) * K <= c * K := Nat.mul_le_mul_right K hroom;have hN1 : (n + 1) * K = n * K + K := Nat.succ_mul n K;have hI1 : (i + 1) * K = i * K + K := Nat.succ_mul i K;have hcl : cur.toList.length = c * K := by rw [Array.length_toList, hcs]
 have hxl := h.1;have hdl : (xs.drop (i * K)).length = n * K - i * K := by rw [List.length_drop, hxl]
 subst hW h1 h2;have hr1 := Yd (xs.drop (i * K)) w.drew ((i + 1) * K) cur (show w.drew.heap[g]? = some (.cells cur e (0, 0)) from hg);have hr2 := Yd vs _ (i * K) _ hr1;refine ⟨⟨?_, .inr ⟨g, c, _, rfl, hb, hr2, hroom, hcm, by rw [YR, YR, hcs], ?_⟩⟩, ?_⟩
 ·simp only [List.length_append, List.length_take, hdl, hvl, hxl]; omega
 ·rw [Wg _ _ _ (by rw [YR, hcs, hvl]; omega), Wg _ _ _ (by rw [hcs, hdl]; omega), hI1, hN1]
  exact Jin hNI (by omega) ht hvl
 exact JbP (Z7 (S := fun q => q = g) (b := g) rfl vs w _ _ (Z7 (S := fun q => q = g) (b := g) rfl _ w _ _ (Aside.of_below (Below.drew (Below.refl _ _)))))
theorem Jlc {C xs vs : List Value} {N I K : Nat} (hI : I <= N) (hC : N + K <= C.length) (hx : C.take I = xs.take I) (hxl : xs.length = N) (hv : vs.length = K) :
  ((C.take I ++ vs ++ C.drop (I + vs.length)).take (I + K) ++ xs.drop I ++ (C.take I ++ vs ++ C.drop (I + vs.length)).drop (I + K + (xs.drop I).length)).take (N + K) = xs.take I ++ vs ++ xs.drop I := by
 have hd : (xs.drop I).length = N - I := by rw [List.length_drop, hxl]
 have hl : (C.take I ++ vs).length = I + K := by rw [List.length_append, List.length_take, hv]; omega
 rw [List.take_left' hl, List.take_append_of_le_length (by simp only [List.length_append, List.length_take, hd, hv]; omega), hx];exact List.take_of_length_le (by simp only [List.length_append, List.length_take, hd, hv, hxl]; omega)
theorem Jat {w W : World} {base K n G i o1 o2 : Nat} {e : TypeId} {xs vs : List Value} {ROW : Array Value} (hxl : xs.length = n * K) (hbase : base <= w.heap.size) (hi : i <= n) (hroom : n + 1 <= G) (hG : G <= maxLen) (hR : ROW.size = G * K) (ht : ROW.toList.take (i * K) = xs.take (i * K)) (hvl : vs.length = K) (h1 : o1 = (i + 1) * K) (h2 : o2 = i * K) (row : Option Nat)
  (hW : W = ((w.alloc (.cells ROW e)).drew.setCells w.heap.size o2 vs).drew.setCells w.heap.size o1 (xs.drop (i * K))) : W.ownsRow base e K (.slice (some ⟨w.heap.size, 0, none⟩) (n + 1) G) (n + 1) (xs.take (i * K) ++ vs ++ xs.drop (i * K)) /\ w.grownBy W row /\ w.heap.size < W.heap.size := by
 have hNI : i * K <= n * K := Nat.mul_le_mul_right K hi;have hNc : (n + 1) * K <= G * K := Nat.mul_le_mul_right K hroom;have hN1 : (n + 1) * K = n * K + K := Nat.succ_mul n K;have hI1 : (i + 1) * K = i * K + K := Nat.succ_mul i K;have hcl : ROW.toList.length = G * K := by rw [Array.length_toList, hR]
 have hdl : (xs.drop (i * K)).length = n * K - i * K := by rw [List.length_drop, hxl]
 subst hW h1 h2;have hr0 : (w.alloc (.cells ROW e)).drew.heap[w.heap.size]? = some (.cells ROW e (0, 0)) := heap_alloc_new w _;have hr1 := Yd vs _ (i * K) _ hr0;have hr2 := Yd (xs.drop (i * K)) ((w.alloc (.cells ROW e)).drew.setCells w.heap.size (i * K) vs).drew ((i + 1) * K) _ hr1;refine ⟨⟨?_, .inr ⟨w.heap.size, G, _, rfl, hbase, hr2, hroom, hG, by rw [YR, YR, hR], ?_⟩⟩, ?_, Ja hr2⟩
 ·simp only [List.length_append, List.length_take, hdl, hvl, hxl]; omega
 ·rw [Wg _ _ _ (by rw [YR, hR, hdl]; omega), Wg _ _ _ (by rw [hR, hvl]; omega), hI1, hN1]
  exact Jlc hNI (by omega) ht hxl hvl
 have hA : Aside (fun q => q = w.heap.size) w _ := Z7 (S := fun q => q = w.heap.size) (b := w.heap.size) rfl (xs.drop (i * K)) w ((w.alloc (.cells ROW e)).drew.setCells w.heap.size (i * K) vs).drew ((i + 1) * K) (Aside.trans (Z7 (S := fun q => q = w.heap.size) (b := w.heap.size) rfl vs w (w.alloc (.cells ROW e)).drew (i * K) (Aside.trans (Vn (Aside.refl _ _)) (Aside.of_below (Below.drew (Below.refl _ _))))) (Aside.of_below (Below.drew (Below.refl _ _))))
 exact ⟨hA.os, hA.tape, hA.output, hA.size, fun k hk _ => hA.block k hk (by omega)⟩
theorem JcB (base n i vb : Nat) (v : Value) (xs vs : List Value) (w : World) (hown : w.ownsRow base 34 6 v n xs) (hi : i <= n) (hvb : w.heap[vb]? = some (.cells vs.toArray 34 (0, 0))) (hvl : vs.length = 6) (h1 : ∀ x ∈ xs, x.oneCell' = true) (h1v : ∀ x ∈ vs, x.oneCell' = true) (hn : n <= 1048576) (hbase : base <= w.heap.size) (hne : v.ownBlock ≠ some vb) :
  Calls Tryz.prog 185 #[v, .int .i64 i, .slice (some ⟨vb, 0, none⟩) 1 1] w fun e w' => ∃ g cap, e = .returned (.slice (some ⟨g, 0, none⟩) (n + 1) cap) /\ w'.ownsRow base 34 6 (.slice (some ⟨g, 0, none⟩) (n + 1) cap) (n + 1) (xs.take (i * 6) ++ vs ++ xs.drop (i * 6)) /\ w.grownBy w' v.ownBlock /\ (v.ownBlock = some g ∨ g = w.heap.size) /\ g < w'.heap.size := by
 have hvs : ∀ j u, vs[j]? = some u -> w.cell? ⟨vb, j, none⟩ = some u := fun j u hj => by rw [cell_of_row _ _ _ _ _ _ hvb]; simpa using hj
 have hxl := hown.1;by_cases hin : i = n
 ·subst hin
  rw [List.take_of_length_le (by omega), List.drop_of_length_le (by omega), List.append_nil];exact JgC base i vb v xs vs w hown hvl hvs h1v hn hbase
 obtain ⟨A, c, rfl⟩ := JP hown;have hown2 := hown;rcases hown.2 with ⟨-, h0⟩ | ⟨g, cap, cur, h0, hb, hg, hnc, hcm, hcs, ht⟩
 ·omega
 simp only [Value.slice.injEq, true_and] at h0;obtain ⟨rfl, rfl⟩ := h0
 have hcx : ∀ j v, xs[j]? = some v -> w.cell? ⟨g, j, none⟩ = some v := fun j v hj => by
  have := Jb9 hown2 j v hj
  rwa [Yu, Nat.zero_add] at this
 by_cases hroom : n + 1 <= c
 ·refine (Jes g n c i vb xs vs w (by omega) hroom (by unfold maxLen at hcm; omega) (fun e => hne (by rw [e]; rfl)) hxl hvl hcx (fun j hj => Jb6 hg (by rw [hcs]; have := Nat.mul_le_mul_right 6 hroom; omega)) (fun j => QJ hg j) hvs h1 h1v _ _ _ _ (Wc hvb) (Wc hg) (by rw [hcs]; omega) (QJ hvb _) (QJ hvb _)).mono ?_
  rintro e w' ⟨rfl, hw⟩;obtain ⟨a1, a2⟩ := JbG hown2 hi hroom hvl rfl rfl hw;exact ⟨g, c, rfl, a1, a2, .inl rfl, Nat.lt_of_lt_of_le (Ja hg) a2.size⟩
 refine (JfX g n c i vb xs vs w (by omega) hnc (by omega) (by omega) hxl hvl hcx hvs h1 h1v).mono ?_;rintro e w' ⟨G, ROW, rfl, hG1, hG2, hR1, hR2, hw⟩;obtain ⟨a1, a2, a3⟩ := Jat hxl hbase hi hG1 hG2 hR1 hR2 hvl rfl rfl (some g) hw;exact ⟨_, G, rfl, a1, a2, .inr rfl, a3⟩
theorem JdL (base n i vb : Nat) (v x : Value) (xs : List Value) (w : World) (hown : w.ownsRow base 9 1 v n xs) (hi : i <= n) (hvb : w.heap[vb]? = some (.cells #[x] 9 (0, 0))) (h1 : ∀ x ∈ xs, x.oneCell' = true) (h1v : x.oneCell' = true) (hn : n <= 1048576) (hbase : base <= w.heap.size) (hne : v.ownBlock ≠ some vb) :
  Calls Tryz.prog 184 #[v, .int .i64 i, .slice (some ⟨vb, 0, none⟩) 1 1] w fun e w' => ∃ g cap, e = .returned (.slice (some ⟨g, 0, none⟩) (n + 1) cap) /\ w'.ownsRow base 9 1 (.slice (some ⟨g, 0, none⟩) (n + 1) cap) (n + 1) (xs.take i ++ [x] ++ xs.drop i) /\ w.grownBy w' v.ownBlock /\ (v.ownBlock = some g ∨ g = w.heap.size) /\ g < w'.heap.size := by
 have hvs : ∀ (j : Nat) (u : Value), [x][j]? = some u -> w.cell? ⟨vb, j, none⟩ = some u := fun j u hj => by rw [cell_of_row _ _ _ _ _ _ hvb]; simpa using hj
 have hxl : xs.length = n := by have := hown.1; omega
 have h1vs : ∀ u ∈ [x], u.oneCell' = true := fun u hu => by simp at hu; rw [hu]; exact h1v
 by_cases hin : i = n
 ·subst hin
  rw [List.take_of_length_le (by omega), List.drop_of_length_le (by omega), List.append_nil];exact Jf4 base i vb v xs [x] w hown rfl hvs h1vs hn hbase
 obtain ⟨A, c, rfl⟩ := JP hown;have hown2 := hown;rcases hown.2 with ⟨-, h0⟩ | ⟨g, cap, cur, h0, hb, hg, hnc, hcm, hcs, ht⟩
 ·omega
 simp only [Value.slice.injEq, true_and] at h0;obtain ⟨rfl, rfl⟩ := h0
 have hcx : ∀ (j : Nat) (v : Value), xs[j]? = some v -> w.cell? ⟨g, 0 + j, none⟩ = some v := fun j v hj => by
  have := Jb9 hown2 j v hj
  rwa [Yu] at this
 have hvs0 : ∀ (j : Nat) (u : Value), [x][j]? = some u -> w.cell? ⟨vb, 0 + j, none⟩ = some u := fun j u hj => by rw [Nat.zero_add]; exact hvs j u hj
 by_cases hroom : n + 1 <= c
 ·have hk := Any2.slices_Insert_string_shift Ji9 g 0 n c i vb 0 1 1 xs [x] w (by omega) (by decide) hroom (by unfold maxLen at hcm; omega) (fun e => hne (by rw [e]; rfl)) hxl rfl hcx (fun j hj => by rw [Nat.zero_add]; exact Jb6 hg (by omega)) (fun j _ => QJ hg _) hvs0 h1 h1vs _ _ _ _ (Wc hvb) (Wc hg) (by omega) (QJ hvb _) (QJ hvb _)
  change Calls Tryz.prog 184 _ _ _ at hk
  refine hk.mono ?_;rintro e w' ⟨rfl, hw⟩;obtain ⟨a1, a2⟩ := JbG (W := w') (K := 1) (vs := [x]) (i := i) (o1 := 0 + (i + 1)) (o2 := 0 + i) hown2 hi hroom rfl (by omega) (by omega) (by rw [Nat.mul_one]; exact hw);rw [Nat.mul_one] at a1;exact ⟨g, c, rfl, a1, a2, .inl rfl, Nat.lt_of_lt_of_le (Ja hg) a2.size⟩
 have hk := Any2.slices_Insert_string_grow Ji9 g 0 n c i vb 0 1 1 xs [x] w (by omega) (by decide) hnc (by omega) (by omega) hxl rfl hcx hvs0 h1 h1vs;change Calls Tryz.prog 184 _ _ _ at hk
 refine hk.mono ?_;rintro e w' ⟨rfl, hw⟩;obtain ⟨G, hG⟩ : ∃ G, G = grownCap w (n + 1) c 9 := ⟨_, rfl⟩
 have hGn : n + 1 <= G := by rw [hG]; exact grownCap_ge w _ _ _
 have hG63 : G <= maxLen := by rw [hG]; exact grownCap_le_maxLen w (n + 1) c 9 (by unfold maxLen; omega)
 change w' = (((w.alloc (.cells ((xs.take i).toArray ++ Builtin.zeroCells (Value.string ⟨#[]⟩).cells (n + 1 - i) ++ Builtin.zeroCells (Value.string ⟨#[]⟩).cells (grownCap w (n + 1) c 9 - (n + 1))) 9)).drew.setCells w.heap.size i [x]).drew).setCells w.heap.size (i + 1) (xs.drop i) at hw
 rw [<- hG] at hw;have htl : (xs.take i).length = i := by rw [List.length_take]; omega
 obtain ⟨ROW, hROW⟩ : ∃ ROW : Array Value, ROW = (xs.take i).toArray ++ Builtin.zeroCells (Value.string ⟨#[]⟩).cells (n + 1 - i) ++ Builtin.zeroCells (Value.string ⟨#[]⟩).cells (G - (n + 1)) := ⟨_, rfl⟩
 rw [<- hROW] at hw
 have hR1 : ROW.size = G * 1 := by
  rw [hROW];simp only [Array.size_append, size_zeroCells, List.size_toArray, htl];rw [show (Value.string ⟨#[]⟩).cells.size = 1 from rfl];omega
 have hR2 : ROW.toList.take (i * 1) = xs.take (i * 1) := by
  rw [hROW, Nat.mul_one, Array.append_assoc, Array.toList_append];exact List.take_left' htl
 obtain ⟨a1, a2, a3⟩ := Jat (W := w') (K := 1) (n := n) (i := i) (G := G) (xs := xs) (vs := [x]) (ROW := ROW) (o1 := i + 1) (o2 := i) (by omega) hbase hi hGn hG63 hR1 hR2 rfl (by omega) (by omega) (some g) (by rw [Nat.mul_one]; exact hw);rw [Nat.mul_one] at a1;exact ⟨_, G, by show Ending.returned (Value.slice _ _ (grownCap w (n + 1) c 9)) = _; rw [<- hG], a1, a2, .inr rfl, a3⟩
structure MapG (nT base hi : Nat) (w : World) (ks : List ByteArray) (l : List TreeD) (vk vl : Value) (ess : List (List Value)) (F : Nat -> Nat -> Prop) : Prop where
 len : ess.length = l.length
 six : ∀ es ∈ ess, es.length = 6
 keys : w.ownsRow base 9 1 vk ks.length (ks.map Value.string)
 kids : w.ownsRow base 34 6 vl l.length ess.flatten
 hk : ∀ g, vk.ownBlock = some g -> g < hi
 hl : ∀ g, vl.ownBlock = some g -> g < hi
 part : ∀ i b, F i b -> base <= b /\ b < hi /\ vk.ownBlock ≠ some b /\ vl.ownBlock ≠ some b
 apart : ∀ i j b, F i b -> F j b -> i = j
 own : ∀ i d es, l[i]? = some d -> ess[i]? = some es -> OwnT nT (F i) w d es
 size : ∀ s ∈ ks, s.size <= 9223372036854775807
theorem MapG.nil (nT base hi : Nat) (w : World) : MapG nT base hi w [] [] (.slice none 0 0) (.slice none 0 0) [] (fun _ _ => False) :=
 ⟨rfl, fun _ h => (by cases h), World.ownsRow_nil _ _ _ _, World.ownsRow_nil _ _ _ _, fun g h => (by cases h), fun g h => (by cases h), fun _ _ h => h.elim, fun _ _ _ h => h.elim, fun i d es h => (by simp at h), fun _ h => (by cases h)⟩
theorem MapG.carry {nT base hi hi' : Nat} {w w' : World} {ks : List ByteArray} {l : List TreeD} {vk vl : Value} {ess : List (List Value)} {F : Nat -> Nat -> Prop} (h : MapG nT base hi w ks l vk vl ess F) (hh : hi <= hi') (hb : ∀ g, base <= g -> g < hi -> w'.heap[g]? = w.heap[g]?) : MapG nT base hi' w' ks l vk vl ess F :=
 ⟨h.len, h.six, Jh h.keys (fun g hg => hb g (h.keys.lt g hg).1 (h.hk g hg)), Jh h.kids (fun g hg => hb g (h.kids.lt g hg).1 (h.hl g hg)), fun g hg => Nat.lt_of_lt_of_le (h.hk g hg) hh, fun g hg => Nat.lt_of_lt_of_le (h.hl g hg) hh,
  fun i b hF => ⟨(h.part i b hF).1, Nat.lt_of_lt_of_le (h.part i b hF).2.1 hh, (h.part i b hF).2.2⟩, h.apart, fun i d es hd he => (h.own i d es hd he).carry (fun b hF => hb b (h.part i b hF).1 (h.part i b hF).2.1) (fun _ h => h), h.size⟩
theorem Ja0 {D : Type} {l : List D} {i : Nat} {x : D} (hi : i <= l.length) (j : Nat) : (J3 l i x)[j]? = if j < i then l[j]? else if j = i then some x else l[j - 1]? := by
 unfold J3;have hl : (l.take i).length = i := by rw [List.length_take]; omega
 by_cases h1 : j < i
 ·rw [if_pos h1, List.getElem?_append_left (by omega), List.getElem?_take, if_pos h1]
 rw [if_neg h1, List.getElem?_append_right (by omega), hl];by_cases h2 : j = i
 ·rw [if_pos h2, h2, Nat.sub_self]; rfl
 rw [if_neg h2, show j - i = (j - 1 - i) + 1 by omega, List.getElem?_cons_succ, List.getElem?_drop, show i + (j - 1 - i) = j - 1 by omega]
theorem Jhn {D C : Type} (f : D -> C) (l : List D) (i : Nat) (x : D) : (J3 l i x).map f = J3 (l.map f) i (f x) := by
 unfold J3;rw [List.map_append, List.map_cons, List.map_take, List.map_drop]
theorem Jbc {D : Type} (l : List D) (i : Nat) (x : D) : J3 l i x = l.take i ++ [x] ++ l.drop i := by unfold J3; simp
theorem JaS {D : Type} {l : List D} {i : Nat} {x y : D} (h : y ∈ J3 l i x) : y = x ∨ y ∈ l := by
 unfold J3 at h;rcases List.mem_append.1 h with h | h
 ·exact .inr (List.mem_of_mem_take h)
 rcases List.mem_cons.1 h with h | h
 ·exact .inl h
 exact .inr (List.mem_of_mem_drop h)
theorem Jdz : ∀ (ess : List (List Value)) (i : Nat), (∀ es ∈ ess, es.length = 6) -> ess.flatten.take (i * 6) = (ess.take i).flatten
 | [], i, _ => by simp
 | es :: ess, 0, _ => by simp
 | es :: ess, i + 1, h => by
  have h6 := h es (by simp);rw [List.flatten_cons, List.take_succ_cons, List.flatten_cons, List.take_append, h6, show (i + 1) * 6 - 6 = i * 6 by omega, Jdz ess i (fun x hx => h x (by simp [hx])), List.take_of_length_le (by omega)]
theorem JdG : ∀ (ess : List (List Value)) (i : Nat), (∀ es ∈ ess, es.length = 6) -> ess.flatten.drop (i * 6) = (ess.drop i).flatten
 | [], i, _ => by simp
 | es :: ess, 0, _ => by simp
 | es :: ess, i + 1, h => by
  have h6 := h es (by simp);rw [List.flatten_cons, List.drop_succ_cons, List.drop_append, h6, show (i + 1) * 6 - 6 = i * 6 by omega, JdG ess i (fun x hx => h x (by simp [hx])), List.drop_of_length_le (by omega), List.nil_append]
theorem JbF (ess : List (List Value)) (i : Nat) (es : List Value) (h : ∀ es ∈ ess, es.length = 6) : (J3 ess i es).flatten = ess.flatten.take (i * 6) ++ es ++ ess.flatten.drop (i * 6) := by
 rw [Jdz ess i h, JdG ess i h];unfold J3;rw [List.flatten_append, List.flatten_cons, List.append_assoc]
theorem MapG.one {nT base hi : Nat} {w : World} {ks : List ByteArray} {l : List TreeD} {vk vl : Value} {ess : List (List Value)} {F : Nat -> Nat -> Prop} (h : MapG nT base hi w ks l vk vl ess F) : ∀ u ∈ ess.flatten, u.oneCell' = true := by
 intro u hu;obtain ⟨es, hes, hu⟩ := List.mem_flatten.1 hu;obtain ⟨i, hi⟩ := List.getElem?_of_mem hes;have hil := (List.getElem?_eq_some_iff.1 hi).1;obtain ⟨d, hd⟩ := Jg (l := l) (k := i) (by have := h.len; omega);exact (h.own i d es hd hi).one u hu
theorem MapG.ins {nT base hi i : Nat} {w0 w1 w2 : World} {ks : List ByteArray} {l : List TreeD} {vk vl vk' vl' : Value} {ess : List (List Value)} {F : Nat -> Nat -> Prop} {S : Nat -> Prop} {t : TreeD} {es : List Value} {key : ByteArray} (h : MapG nT base hi w0 ks l vk vl ess F) (hbh : base <= hi) (hhi : hi <= w0.heap.size) (hi1 : i <= ks.length) (hi2 : i <= l.length)
  (ht : OwnT nT S w0 t es) (hS : ∀ b, S b -> hi <= b /\ b < w0.heap.size) (hkey : key.size <= 9223372036854775807)
  (h01 : ∀ b, base <= b -> b < w0.heap.size -> vk.ownBlock ≠ some b -> w1.heap[b]? = w0.heap[b]?) (hs01 : w0.heap.size <= w1.heap.size)
  (hK : w1.ownsRow base 9 1 vk' (ks.length + 1) ((ks.map Value.string).take i ++ [.string key] ++ (ks.map Value.string).drop i)) (hgk : ∀ g, vk'.ownBlock = some g -> vk.ownBlock = some g ∨ w0.heap.size <= g)
  (h12 : ∀ b, base <= b -> b < w1.heap.size -> vl.ownBlock ≠ some b -> w2.heap[b]? = w1.heap[b]?) (hs12 : w1.heap.size <= w2.heap.size)
  (hL : w2.ownsRow base 34 6 vl' (l.length + 1) (ess.flatten.take (i * 6) ++ es ++ ess.flatten.drop (i * 6))) (hgl : ∀ g, vl'.ownBlock = some g -> vl.ownBlock = some g ∨ w1.heap.size <= g) :
  MapG nT base w2.heap.size w2 (J3 ks i key) (J3 l i t) vk' vl' (J3 ess i es) (fun j b => if j < i then F j b else if j = i then S b else F (j - 1) b) := by
 have hvv := VV h.kids h.keys (by decide)
 have hkl : ∀ g, vk'.ownBlock = some g -> vl.ownBlock ≠ some g := fun g hg e => by
  rcases hgk g hg with h1 | h1
  ·exact hvv g e h1
  have := h.hl g e; omega
 have hkeep : ∀ b, base <= b -> b < w0.heap.size -> vk.ownBlock ≠ some b -> vl.ownBlock ≠ some b -> w2.heap[b]? = w0.heap[b]? := fun b h1 h2 h3 h4 => (h12 b h1 (by omega) h4).trans (h01 b h1 h2 h3)
 have hlen := h.len;have hFS : ∀ j b, F j b -> ¬ S b := fun j b hF hs => by have := (h.part j b hF).2.1; have := (hS b hs).1; omega
 refine ⟨by rw [QY (by omega), QY hi2, hlen], ?_, ?_, ?_, ?_, ?_, ?_, ?_, ?_, ?_⟩
 ·intro x hx
  rcases JaS hx with rfl | hx
  ·exact ht.len
  exact h.six x hx
 ·rw [QY hi1, Jhn, Jbc]
  exact Jh hK (fun g hg => h12 g (hK.lt g hg).1 (hK.lt g hg).2 (hkl g hg))
 ·rw [QY hi2, JbF ess i es h.six]
  exact hL
 ·intro g hg
  have := (hK.lt g hg).2;omega
 ·intro g hg
  exact (hL.lt g hg).2
 ·have hnew : ∀ b, base <= b -> b < w0.heap.size -> vk.ownBlock ≠ some b -> vl.ownBlock ≠ some b -> base <= b /\ b < w2.heap.size /\ vk'.ownBlock ≠ some b /\ vl'.ownBlock ≠ some b := fun b h1 h2 h3 h4 =>
   ⟨h1, by omega, fun e => by rcases hgk b e with h5 | h5; exact h3 h5; omega, fun e => by rcases hgl b e with h5 | h5; exact h4 h5; omega⟩
  intro j b hF;by_cases c1 : j < i
  ·rw [if_pos c1] at hF
   obtain ⟨f1, f2, f3, f4⟩ := h.part j b hF;exact hnew b f1 (by omega) f3 f4
  rw [if_neg c1] at hF;by_cases c2 : j = i
  ·rw [if_pos c2] at hF
   obtain ⟨f1, f2⟩ := hS b hF;exact hnew b (by omega) f2 (fun e => by have := h.hk b e; omega) (fun e => by have := h.hl b e; omega)
  rw [if_neg c2] at hF;obtain ⟨f1, f2, f3, f4⟩ := h.part (j - 1) b hF;exact hnew b f1 (by omega) f3 f4
 ·intro j k b hF hG
  have key : ∀ j k, (if j < i then F j b else if j = i then S b else F (j - 1) b) -> (if k < i then F k b else if k = i then S b else F (k - 1) b) -> j <= k -> j = k := by
   intro j k hF hG hjk;by_cases c1 : j < i
   ·rw [if_pos c1] at hF
    by_cases c2 : k < i
    ·rw [if_pos c2] at hG
     exact h.apart j k b hF hG
    rw [if_neg c2] at hG;by_cases c3 : k = i
    ·rw [if_pos c3] at hG
     exact absurd hG (hFS j b hF)
    rw [if_neg c3] at hG;have := h.apart j (k - 1) b hF hG;omega
   rw [if_neg c1] at hF;by_cases c3 : j = i
   ·rw [if_pos c3] at hF
    by_cases c4 : k = i
    ·omega
    rw [if_neg (by omega), if_neg c4] at hG;exact absurd hF (hFS (k - 1) b hG)
   rw [if_neg c3] at hF;rw [if_neg (by omega), if_neg (by omega)] at hG;have := h.apart (j - 1) (k - 1) b hF hG;omega
  rcases Nat.le_total j k with hjk | hjk
  ·exact key j k hF hG hjk
  exact (key k j hG hF hjk).symm
 ·have hset : ∀ b, S b -> w2.heap[b]? = w0.heap[b]? := fun b hs => by
   obtain ⟨f1, f2⟩ := hS b hs;exact hkeep b (by omega) f2 (fun e => by have := h.hk b e; omega) (fun e => by have := h.hl b e; omega)
  intro j d' es' hd hes;rw [Ja0 hi2] at hd;rw [Ja0 (by omega)] at hes;by_cases c1 : j < i
  ·rw [if_pos c1] at hd hes
   refine (h.own j d' es' hd hes).carry (fun b hF => ?_) (fun b hF => by rw [if_pos c1]; exact hF);obtain ⟨f1, f2, f3, f4⟩ := h.part j b hF;exact hkeep b f1 (by omega) f3 f4
  rw [if_neg c1] at hd hes;by_cases c2 : j = i
  ·rw [if_pos c2] at hd hes
   obtain rfl := Option.some.inj hd;obtain rfl := Option.some.inj hes;exact ht.carry hset (fun b hF => by rw [if_neg c1, if_pos c2]; exact hF)
  rw [if_neg c2] at hd hes;refine (h.own (j - 1) d' es' hd hes).carry (fun b hF => ?_) (fun b hF => by rw [if_neg c1, if_neg c2]; exact hF);obtain ⟨f1, f2, f3, f4⟩ := h.part (j - 1) b hF;exact hkeep b f1 (by omega) f3 f4
 intro s hs;rcases JaS hs with rfl | hs
 ·exact hkey
 exact h.size s hs
theorem MapG.tree {nT base hi : Nat} {w wF : World} {ks : List ByteArray} {l : List TreeD} {vk vl : Value} {ess : List (List Value)} {F : Nat -> Nat -> Prop} {S : Nat -> Prop} (h : MapG nT base hi w ks l vk vl ess F) (hF : ∀ q, base <= q -> q < hi -> wF.heap[q]? = w.heap[q]?) (hS : ∀ b, base <= b -> b < hi -> S b) :
  OwnT (nT + 1) S wF (QD ks l) [.int .i64 6, .bool false, .int .i64 0, .string ⟨#[]⟩, vk, vl] := by
 have hvv := VV h.kids h.keys (by decide);refine OwnT.into ⟨_, _, fun b => vk.ownBlock = some b, fun b => base <= b /\ b < hi /\ vk.ownBlock ≠ some b, rfl, (show QA 6 from by unfold QA; decide), (show QA 0 from by unfold QA; decide), (show ByteArray.size ⟨#[]⟩ <= 9223372036854775807 from by decide), fun b hb => ⟨hS b (h.keys.lt b hb).1 (h.hk b hb), fun hx => hx.2.2 hb⟩, fun b hb => hS b hb.1 hb.2.1, ?_, ?_⟩
 ·obtain ⟨hl, h1⟩ := h.keys
  rcases h1 with ⟨rfl, h0⟩ | ⟨g, cap, cur, rfl, hb, hg, hnc, hcm, hcs, ht⟩
  ·exact ⟨none, 0, by show _ = Value.slice none ks.length 0; rw [h0], by show ks.length <= 0; omega, by omega, fun hp => by change 0 < ks.length at hp; omega⟩
  refine ⟨_, cap, rfl, hnc, by unfold maxLen at hcm; omega, fun _ => ⟨g, cur, rfl, rfl, (hF g hb (h.hk g rfl)).trans hg, fun i s hs => ⟨?_, h.size s (List.mem_of_getElem? hs)⟩⟩⟩;change ks[i]? = some s at hs
  have hi : i < ks.length := (List.getElem?_eq_some_iff.1 hs).1;have : (cur.toList.take (ks.length * 1))[i]? = some (.string s) := by rw [ht, List.getElem?_map, hs]; rfl
  rw [List.getElem?_take, if_pos (by omega)] at this
  simpa using this
 obtain ⟨hl, h1⟩ := h.kids;rcases h1 with ⟨rfl, h0⟩ | ⟨g, cap, cur, rfl, hb, hg, hnc, hcm, hcs, ht⟩
 ·exact ⟨none, 0, by show _ = Value.slice none l.length 0; rw [h0], by show l.length <= 0; omega, by omega, fun hp => by change 0 < l.length at hp; omega⟩
 refine ⟨_, cap, rfl, hnc, by unfold maxLen at hcm; omega, fun _ => ⟨g, F, rfl, ⟨hb, h.hl g rfl, fun e => hvv g rfl e⟩, fun i b hb => ⟨⟨(h.part i b hb).1, (h.part i b hb).2.1, (h.part i b hb).2.2.1⟩, fun e => (h.part i b hb).2.2.2 (by rw [e]; rfl)⟩, h.apart, cur, (hF g hb (h.hl g rfl)).trans hg, fun i d hd => ?_⟩⟩;change l[i]? = some d at hd
 have hi : i < l.length := (List.getElem?_eq_some_iff.1 hd).1;have hlen := h.len;obtain ⟨es, hes⟩ := Jg (l := ess) (k := i) (by omega);refine ⟨es, h.six es (List.mem_of_getElem? hes), fun j hj => ?_, (h.own i d es hd hes).carry (fun b hb => hF b (h.part i b hb).1 (h.part i b hb).2.1) (fun _ h => h)⟩;have hf := JbJ ess i es j h.six hes hj;rw [<- ht, List.getElem?_take, if_pos (by omega)] at hf
 simpa using hf
theorem JaB {w w' : World} {r : Option Nat} (h : w.grownBy w' r) : Aside (fun q => some q = r) w w' := ⟨h.os, h.tape, h.output, h.size, fun q h1 h2 => h.block q h1 h2⟩
open Go.RowKit
theorem JbQ (s : ByteArray) : ∀ (k j : Nat) (acc : List UInt8), (Za s k j acc).1.size <= acc.length + 4 * (s.size - j)
 | 0, j, acc => by show (0 : Nat) <= _; omega
 | k + 1, j, acc => by
  unfold Za;by_cases h : j < s.size
  ·rw [if_pos h]
   by_cases h1 : Jb s j = 34
   ·rw [if_pos h1]
    show acc.toArray.size <= _
    rw [List.size_toArray];omega
   rw [if_neg h1];by_cases h2 : (J8 s j).2 < 0
   ·rw [if_pos h2]; show (0 : Nat) <= _; omega
   rw [if_neg h2];have h3 := JbQ s k (J8 s j).2.toNat (acc ++ (Jq (J8 s j).1).data.toList);have h4 := (YW s j).1;have h5 := VT (J8 s j).1;have h6 : (Jq (J8 s j).1).data.toList.length = (Jq (J8 s j).1).size := by rw [Array.length_toList]; rfl
   rw [List.length_append, h6] at h3;omega
  rw [if_neg h]; show (0 : Nat) <= _; omega
def VF : TreeD := ⟨0, false, 0, ⟨#[]⟩, [], []⟩
def ReadE (r : Flt × TreeD) (w : World) (e : Ending) (w' : World) : Prop := ∃ cs, e = .returned (.tuple #[.agg cs.toArray, .agg (Uv r.1)]) /\ OwnT 10 (fun x => w.heap.size <= x /\ x < w'.heap.size) w' r.2 cs /\ Below w.heap.size w w'
theorem ReadE.bad {r : Flt × TreeD} {f : Flt} {w w' : World} (hr : r = (f, VF)) (h : Below w.heap.size w w') : ReadE r w (.returned (.tuple #[.agg #[.int .i64 0, .bool false, .int .i64 0, .string ⟨#[]⟩, .slice none 0 0, .slice none 0 0], .agg (Uv f)])) w' := by
 subst hr;exact ⟨[.int .i64 0, .bool false, .int .i64 0, .string ⟨#[]⟩, .slice none 0 0, .slice none 0 0], rfl, Qr (by unfold QA; decide) (by unfold QA; decide) (by decide), h⟩
theorem Xg {D : Type} (f : D -> Nat) : ∀ a b : List D, QZ f (a ++ b) = QZ f a + QZ f b
 | [], b => by simp [QZ]
 | x :: a, b => by
  simp only [List.cons_append, QZ];rw [Xg f a b];omega
theorem Jld {D : Type} (f : D -> Nat) (l : List D) (i : Nat) (x : D) : QZ f (J3 l i x) = f x + QZ f l := by
 have h := Xg f (l.take i) (l.drop i);rw [List.take_append_drop] at h;unfold J3;rw [Xg, h];simp only [QZ];omega
theorem UL {n : Nat} {d : TreeD} (h1 : Va d = false) (h2 : Qs d.text = true) (h3 : JQ d = true) (h4 : ∀ i, i < d.keys.length -> Q3 d.keys i = true) (h5 : ∀ t ∈ d.kids, Ju n t = true) : Ju (n + 1) d = true := by
 rw [Zn, h1, h2, h3]
 have hall : ∀ {m : Nat} {p : Nat -> Bool}, (∀ i, i < m -> p i = true) -> QG m p = true := fun {m p} ha => by
  unfold QG;exact List.all_eq_true.2 (fun i hi => ha i (List.mem_range.1 hi))
 rw [hall h4, hall (fun i hi => by
  obtain ⟨t, ht⟩ := Jg hi;rw [Xf ht]
  exact h5 t (List.mem_of_getElem? ht))]
 rfl
theorem QL : Qs ⟨#[]⟩ = true := by
 unfold Qs Qt;rw [QE (by decide)];rfl
theorem JhZ {ks : List ByteArray} (hs : Q4 ks) (hk : ∀ k ∈ ks, Qs k = true) : ∀ i, i < ks.length -> Q3 ks i = true := by
 intro i hi;obtain ⟨k, hk1⟩ := Jg hi;have h1 := hk k (List.mem_of_getElem? hk1);cases i with
 | zero => rw [WK hk1, h1]
 | succ i =>
  obtain ⟨p, hp⟩ := Jg (show i < ks.length by omega);rw [Ue hk1 hp, h1];have h2 := List.pairwise_iff_getElem.1 hs i (i + 1) (by omega) hi (by omega);obtain ⟨g1, g2⟩ := List.getElem?_eq_some_iff.1 hk1;obtain ⟨f1, f2⟩ := List.getElem?_eq_some_iff.1 hp;rw [g2, f2] at h2;rw [h2];rfl
theorem WW {pre : Nat -> List UInt8} {f : TreeD -> List UInt8} {g : Nat -> Nat} {l : List TreeD} (hp : ∀ i, i < l.length -> (pre i).length = g i) : ∀ k, 1 <= k -> k <= l.length -> (V6 pre f l k).length + 1 = QZ g (List.range k) + QZ (fun t => (f t).length + 1) (l.take k)
 | 0, h, _ => by omega
 | 1, _, hk => by
  obtain ⟨t, ht⟩ := Jg (show 0 < l.length by omega);have h1 := hp 0 (by omega);rw [WZ ht, Ql _ l 0 t ht];simp only [V6, if_true, List.nil_append, List.length_append, List.take_zero, QZ, List.range_succ, List.range_zero];omega
 | k + 2, _, hk => by
  obtain ⟨t, ht⟩ := Jg (show k + 1 < l.length by omega);have h1 := hp (k + 1) (by omega);have ih := WW (f := f) hp (k + 1) (by omega) (by omega);rw [WZ ht, Ql _ l (k + 1) t ht, if_neg (by omega), List.range_succ, Xg];simp only [List.length_append, List.length_cons, List.length_nil, QZ];omega
theorem JkC {D : Type} (l : List D) : QZ (fun _ => 0) l = 0 := by
 induction l with
 | nil => rfl
 | cons x l ih => simp only [QZ]; omega
theorem Jfc (q : ByteArray -> Nat) (ks : List ByteArray) : ∀ k, k <= ks.length -> QZ (fun i => match ks[i]? with | none => 0 | some x => q x) (List.range k) = QZ q (ks.take k)
 | 0, _ => rfl
 | k + 1, hk => by
  obtain ⟨x, hx⟩ := Jg (show k < ks.length by omega);rw [List.range_succ, Xg, Jfc q ks k (by omega), Ql q ks k x hx];simp only [QZ];rw [hx];rfl
def Jir (k : ByteArray) : Nat := (JN k).data.toList.length + 1
theorem Jkc {n : Nat} {l : List TreeD} (h : l ≠ []) : (VK (n + 1) (JY l)).length = 1 + QZ (fun t => (VK n t).length + 1) l := by
 have hl : 0 < l.length := List.length_pos_iff.2 h;have h1 := WW (pre := fun _ => []) (f := VK n) (g := fun _ => 0) (l := l) (fun _ _ => rfl) l.length (by omega) (Nat.le_refl _);rw [JkC, List.take_length] at h1;show ([91] ++ V6 (fun _ => []) (VK n) l l.length ++ [93]).length = _
 simp only [List.length_append, List.length_cons, List.length_nil];omega
theorem JkU {n : Nat} {ks : List ByteArray} {l : List TreeD} (h : l ≠ []) (hk : ks.length = l.length) : (VK (n + 1) (QD ks l)).length = 1 + QZ Jir ks + QZ (fun t => (VK n t).length + 1) l := by
 have hl : 0 < l.length := List.length_pos_iff.2 h
 have h1 := WW (pre := JfE ks) (f := VK n) (g := fun i => match ks[i]? with | none => 0 | some x => Jir x) (l := l) (fun i hi => by
  obtain ⟨x, hx⟩ := Jg (show i < ks.length by omega);unfold JfE Jir;rw [hx]
  simp) l.length (by omega) (Nat.le_refl _)
 rw [Jfc Jir ks l.length (by omega), List.take_length, <- hk, List.take_length] at h1;show ([123] ++ V6 (JfE ks) (VK n) l l.length ++ [125]).length = _
 rw [<- hk];simp only [List.length_append, List.length_cons, List.length_nil];omega
structure VOk (N d : Nat) (t : TreeD) : Prop where
 shape : Ju N t = true
 num : ZS N t
 deep : Jw N t + d <= 9
theorem JkF {N : Nat} {t : TreeD} (h : QA t.num) (hk : t.kids = []) : ZS (N + 1) t := ⟨h, fun x hx => by rw [hk] at hx; cases hx⟩
theorem Yj {N d : Nat} {t : TreeD} (hd : d <= 8) (h1 : Va t = false) (h2 : Qs t.text = true) (h3 : JQ t = true) (h4 : t.keys = []) (h5 : t.kids = []) (h6 : QA t.num) : VOk (N + 1) d t /\ Jl (N + 1) t = 1 := by
 refine ⟨⟨UL h1 h2 h3 (fun i hi => by rw [h4] at hi; simp at hi) (fun x hx => by rw [h5] at hx; cases hx), JkF h6 h5, ?_⟩, ?_⟩
 ·rw [QF, h5]
  simp only [W5];omega
 rw [JJ, h5];rfl
theorem Jd3 {D : Type} {f : D -> Nat} {b : Nat} : ∀ {l : List D}, (∀ x ∈ l, f x <= b) -> W5 f l <= b
 | [], _ => Nat.zero_le _
 | x :: l, h => by
  have h1 := h x (by simp);have h2 := Jd3 (f := f) (l := l) (fun y hy => h y (by simp [hy]));simp only [W5];omega
theorem Jlg {N d : Nat} {l : List TreeD} (hd : d <= 8) (h : ∀ x ∈ l, VOk N (d + 1) x) : VOk (N + 1) d (JY l) := by
 refine ⟨UL (by unfold Va JY Q6; simp) QL (by unfold JQ JY; simp) (fun i hi => by simp [JY] at hi) (fun x hx => (h x hx).shape), ⟨QS, fun x hx => (h x hx).num⟩, ?_⟩;rw [QF];have := Jd3 (f := Jw N) (b := 8 - d) (l := l) (fun x hx => by have := (h x hx).deep; omega);show W5 (Jw N) l + 1 + d <= 9
 omega
theorem JlS {N d : Nat} {ks : List ByteArray} {l : List TreeD} (hd : d <= 8) (hk : ks.length = l.length) (hs : Q4 ks) (hst : ∀ k ∈ ks, Qs k = true) (h : ∀ x ∈ l, VOk N (d + 1) x) : VOk (N + 1) d (QD ks l) := by
 refine ⟨UL (by unfold Va QD Q6; simp) QL (by unfold JQ QD; simp [hk]) (JhZ hs hst) (fun x hx => (h x hx).shape), ⟨QS, fun x hx => (h x hx).num⟩, ?_⟩;rw [QF];have := Jd3 (f := Jw N) (b := 8 - d) (l := l) (fun x hx => by have := (h x hx).deep; omega);show W5 (Jw N) l + 1 + d <= 9
 omega
structure Grb (w : World) (v : Value) (w' : World) (v' : Value) : Prop where
 grown : w.grownBy w' v.ownBlock
 at' : ∀ q, v'.ownBlock = some q -> v.ownBlock = some q ∨ w.heap.size <= q
theorem Grb.trans {w w1 w2 : World} {v v1 v2 : Value} (h : Grb w v w1 v1) (k : Grb w1 v1 w2 v2) : Grb w v w2 v2 := by
 have hs := h.grown.size;refine ⟨⟨k.grown.os.trans h.grown.os, k.grown.tape.trans h.grown.tape, k.grown.output.trans h.grown.output, Nat.le_trans h.grown.size k.grown.size, fun q h1 h2 => ?_⟩, fun q hq => ?_⟩
 ·refine (k.grown.block q (by omega) (fun e => ?_)).trans (h.grown.block q h1 h2)
  rcases h.at' q e.symm with h3 | h3
  ·exact h2 h3.symm
  omega
 rcases k.at' q hq with h3 | h3
 ·exact h.at' q h3
 exact .inr (by omega)
theorem Grb.of {w w' : World} (v : Value) (h : Below w.heap.size w w') : Grb w v w' v := ⟨⟨h.os, h.tape, h.output, h.size, fun q h1 _ => h.block q h1⟩, fun _ hq => .inl hq⟩
theorem Grb.below {base : Nat} {w w' : World} {v v' : Value} {n : Nat} {xs : List Value} {e : TypeId} {z : Nat} (h : Grb w v w' v') (ho : w.ownsRow base e z v n xs) (hb : base <= w.heap.size) : Below base w w' :=
 Below.grown (Below.refl base w) h.grown hb (fun q hq => (World.ownsRow.lt ho q hq).1)
theorem Grb.keep {w w' : World} {v v' : Value} {q : Nat} (h : Grb w v w' v') (h1 : q < w.heap.size) (h2 : v.ownBlock ≠ some q) : w'.heap[q]? = w.heap[q]? := h.grown.block q h1 (fun e => h2 e.symm)
theorem Grb.of_at {w w' : World} {v v' : Value} (h : w.grownBy w' v.ownBlock) (ha : v'.ownBlock = v.ownBlock ∨ v'.ownBlock = some w.heap.size) : Grb w v w' v' :=
 ⟨h, fun q hq => by
  rcases ha with h1 | h1
  ·exact .inl (h1 ▸ hq)
  rw [hq] at h1
  exact .inr (by have := Option.some.inj h1; omega)⟩
def BufN (base : Nat) (w : World) (M : List UInt8) (n : Nat) (v : Value) : Prop := n = M.length /\ w.ownsRow base 5 1 v n (Lib.strCells ⟨M.toArray⟩)
theorem BufN.below {base n : Nat} {w w' : World} {M : List UInt8} {v : Value} (h : BufN base w M n v) (hb : Below w.heap.size w w') : BufN base w' M n v := ⟨h.1, Jh h.2 (fun q hq => hb.block q (World.ownsRow.lt h.2 q hq).2)⟩
theorem BufN.lt {base n : Nat} {w : World} {M : List UInt8} {v : Value} (h : BufN base w M n v) {q : Nat} (hq : v.ownBlock = some q) : base <= q /\ q < w.heap.size := World.ownsRow.lt h.2 q hq
theorem JgZ (w : World) (base n c : Nat) (A : Option Addr) (xs : List Value) (hown : w.ownsRow base 5 1 (.slice A n c) n xs) (s : ByteArray) (hsz : n + s.size <= 2147483648) (hbase : base <= w.heap.size) :
  ∃ (A' : Option Addr) (c' : Nat) (w' : World), (Builtin.append_ #[28, 9] 28 #[.slice A n c, .string s]).run Tryz.prog w = .ok (.slice A' (n + s.size) c') w' /\ w'.ownsRow base 5 1 (.slice A' (n + s.size) c') (n + s.size) (xs ++ Lib.strCells s) /\ Grb w (.slice A n c) w' (.slice A' (n + s.size) c') := by
 obtain ⟨i0, hi, hz0, hz1, hz2⟩ := info_parts (show (Tryz.prog.info? 5).map (fun i => (i.zero, i.size, i.bytes)) = some (some (.int .u8 0), 1, 1) from by kernel_rfl);obtain ⟨v', w', hr, h2, h3, h4⟩ := run_append_own_string (P := Tryz.prog) w base 28 9 28 5 i0 Tryz.underlying28 Tryz.underlying9 hi hz0 hz1 hz2 (.slice A n c) n xs hown s (by unfold maxLen; omega) (by omega) hbase;obtain ⟨A', c', rfl⟩ := JP h2
 refine ⟨A', c', w', hr, h2, h3, ?_⟩;rcases hown.2 with ⟨e1, e2⟩ | ⟨g, cap, cur, e1, hb, hg, hnc, hcm, hcs, ht⟩
 ·obtain ⟨v2, w2, hr2, k2, -⟩ := run_append_own_string (P := Tryz.prog) w w.heap.size 28 9 28 5 i0 Tryz.underlying28 Tryz.underlying9 hi hz0 hz1 hz2 (.slice A n c) n xs ⟨hown.1, .inl ⟨e1, e2⟩⟩ s (by unfold maxLen; omega) (by omega) (Nat.le_refl _)
  rw [hr] at hr2;simp only [Result.ok.injEq] at hr2;obtain ⟨rfl, rfl⟩ := hr2;exact fun q hq => .inr (World.ownsRow.lt k2 q hq).1
 cases e1
 by_cases hroom : n + s.size <= c
 ·have hr2 := run_append_room_string (P := Tryz.prog) w 28 9 28 5 i0 Tryz.underlying28 Tryz.underlying9 hi hz1 g n c cur hg s hroom (by omega)
  rw [hr] at hr2;simp only [Result.ok.injEq, Value.slice.injEq] at hr2;obtain ⟨⟨rfl, -, rfl⟩, -⟩ := hr2;exact fun q hq => .inl hq
 have hr2 := run_append_grow_string (P := Tryz.prog) w 28 9 28 5 i0 (.int .u8 0) Tryz.underlying28 Tryz.underlying9 hi hz0 ⟨g, 0, none⟩ n c xs (by rw [hz1]; exact hown.1) (by
  intro j u hu;rw [<- ht, List.getElem?_take] at hu;rw [Yu, cell_of_row w g _ cur _ _ hg];split at hu
  ·simpa using hu
  cases hu) s (by omega) (by omega) (by rw [hz2]; exact growslice_fits (by omega) (by omega))
 rw [hr] at hr2;simp only [Result.ok.injEq, Value.slice.injEq] at hr2;obtain ⟨⟨rfl, -, rfl⟩, -⟩ := hr2;intro q hq;simp [Value.ownBlock] at hq;exact .inr (by omega)
theorem UG (w : World) (base n c : Nat) (A : Option Addr) (M : List UInt8) (s : ByteArray) (h : BufN base w M n (.slice A n c)) (hsz : n + s.size <= 2147483648) (hbase : base <= w.heap.size) :
  ∃ (A' : Option Addr) (c' : Nat) (w' : World), (Builtin.append_ #[28, 9] 28 #[.slice A n c, .string s]).run Tryz.prog w = .ok (.slice A' (n + s.size) c') w' /\ BufN base w' (M ++ s.data.toList) (n + s.size) (.slice A' (n + s.size) c') /\ Grb w (.slice A n c) w' (.slice A' (n + s.size) c') := by
 obtain ⟨A', c', w', hr, h2, h3⟩ := JgZ w base n c A _ h.2 s hsz hbase;rw [Qf] at h2;exact ⟨A', c', w', hr, ⟨by rw [List.length_append, <- h.1, Array.length_toList]; rfl, h2⟩, h3⟩
theorem Q1 {P : Program} {w : World} {ops : Array Oper} {rest : List Oper} {o : Oper} {a : Act} {Q : Exit -> Act -> World -> Prop} (hgd : o.guard = none) (s x : Operand) (t t2 : TypeId)
  (ho : o.op = .call { callee := .builtin .append, args := #[s, x], argTypes := #[t, t2] }) (v u v' : Value) (w' : World) (hs : a.eval s = v) (hx : a.eval x = u)
  (hr : (Builtin.append_ #[t, t2] o.type #[v, u]).run P w = .ok v' w') (h : wpList P ops Q rest (a.put o.dst v') w') : wpList P ops Q (o :: rest) a w :=
 wpList_plain hgd fun K hK => by
  unfold Oper.wp execOp;simp only [ho, resolve, invoke, builtin, Sem.run_bind, Sem.run_pure, Result.andThen_ok, List.map_toArray, List.map_cons, List.map_nil, hs, hx, hr];exact hK _ _ h
def Uq (f : Bool) : List UInt8 := if f then JeF else JfQ
theorem Jcv (f : Bool) (w : World) (base n c : Nat) (A : Option Addr) (M : List UInt8) (h : BufN base w M n (.slice A n c)) (hsz : n <= 1073741824) (hbase : base <= w.heap.size) :
  Calls Tryz.prog 221 #[.slice A n c, .bool f] w fun e w' => ∃ (A' : Option Addr) (c' : Nat), e = .returned (.slice A' (n + (Uq f).length) c') /\ BufN base w' (M ++ (Uq f)) (n + (Uq f).length) (.slice A' (n + (Uq f).length) c') /\ Grb w (.slice A n c) w' (.slice A' (n + (Uq f).length) c') := by
 cases f with
 | true =>
  obtain ⟨A5, c5, w5, hr5, h5, g5⟩ := UG w base n c A M ⟨#[116, 114, 117, 101]⟩ h (by show n + 4 <= _; omega) hbase;have H5 := hid (And.intro h5 g5);clear h h5 g5;go_enter Tryz.func221, Tryz.ntmps221
  go_wp2_with (at_builtin; refine Q1 rfl (.tmp 6) (.const (.string ⟨#[116, 114, 117, 101]⟩)) 28 9 rfl _ _ _ w5 rfl rfl hr5 ?_)
  go_ret
  exact ⟨A5, c5, rfl, H5.out.1, H5.out.2⟩
 | false =>
  obtain ⟨A5, c5, w5, hr5, h5, g5⟩ := UG w base n c A M ⟨#[102, 97, 108, 115, 101]⟩ h (by show n + 5 <= _; omega) hbase;have H5 := hid (And.intro h5 g5);clear h h5 g5;go_enter Tryz.func221, Tryz.ntmps221
  go_wp2_with (at_builtin; refine Q1 rfl (.tmp 8) (.const (.string ⟨#[102, 97, 108, 115, 101]⟩)) 28 9 rfl _ _ _ w5 rfl rfl hr5 ?_)
  go_ret
  exact ⟨A5, c5, rfl, H5.out.1, H5.out.2⟩
theorem Jej (f : Bool) (w : World) (base n c : Nat) (A : Option Addr) (M : List UInt8) (h : BufN base w M n (.slice A n c)) (hsz : n <= 1073741824) (hbase : base <= w.heap.size) :
  Calls Tryz.prog 162 #[.slice A n c, .bool f] w fun e w' => ∃ (A' : Option Addr) (c' : Nat), e = .returned (.slice A' (n + (Uq f).length) c') /\ BufN base w' (M ++ (Uq f)) (n + (Uq f).length) (.slice A' (n + (Uq f).length) c') /\ Grb w (.slice A n c) w' (.slice A' (n + (Uq f).length) c') := by
 have HC := hid (Jcv f w base n c A M h hsz hbase);obtain ⟨r, hr⟩ : ∃ r, r = Uq f := ⟨_, rfl⟩
 rw [<- hr] at HC ⊢;clear h hr;go_enter Tryz.func162, Tryz.ntmps162
 go_wp2_with fail
 refine HC.out.mono ?_;rintro e w1 ⟨A', c', rfl, h1, h2⟩;have H12 := hid (And.intro h1 h2);clear h1 h2;go_wp2_with fail
 go_ret
 exact ⟨A', c', rfl, H12.out.1, H12.out.2⟩
open Go.Shelf
def Jel : Go.Shelf.Ren := ⟨fun | 171 => 128 | 243 => 206 | 246 => 248 | 283 => 273 | 284 => 274 | 285 => 275 | 286 => 276 | 129 => 288 | 317 => 287 | 318 => 289 | 319 => 290 | 320 => 291 | 337 => 298 | 338 => 299 | n => n, fun | 3 => 3 | 9 => 9 | 2 => 2 | 4 => 4 | 171 => 212 | 0 => 0 | 53 => 213 | 37 => 28 | 5 => 5 | 173 => 216 | 212 => 233 | 51 => 202 | 20 => 20 | 213 => 234 | 46 => 179 | 232 => 247 | 233 => 248 | n => n, fun | 17 => 5 | 18 => 6 | 19 => 7 | n => n⟩
theorem Jjk : Go.Proofs.LaysM.n171 Tryz.prog Jel := {
 mixed := by kernel_rfl
 f129 := Tryz.func288.trans (congrArg some (by kernel_rfl))
 f171 := Tryz.func128.trans (congrArg some (by kernel_rfl))
 f243 := Tryz.func206.trans (congrArg some (by kernel_rfl))
 f246 := Tryz.func248.trans (congrArg some (by kernel_rfl))
 f283 := Tryz.func273.trans (congrArg some (by kernel_rfl))
 f284 := Tryz.func274.trans (congrArg some (by kernel_rfl))
 f285 := Tryz.func275.trans (congrArg some (by kernel_rfl))
 f286 := Tryz.func276.trans (congrArg some (by kernel_rfl))
 f317 := Tryz.func287.trans (congrArg some (by kernel_rfl))
 f318 := Tryz.func289.trans (congrArg some (by kernel_rfl))
 f319 := Tryz.func290.trans (congrArg some (by kernel_rfl))
 f320 := Tryz.func291.trans (congrArg some (by kernel_rfl))
 f337 := Tryz.func298.trans (congrArg some (by kernel_rfl))
 f338 := Tryz.func299.trans (congrArg some (by kernel_rfl))
 t0 := Tryz.underlying0
 a0 := Tryz.isAgg0
 z0 := Tryz.sizeOf0
 v0 := Tryz.zeroValue0
 t2 := Tryz.underlying2
 a2 := Tryz.isAgg2
 z2 := Tryz.sizeOf2
 v2 := Tryz.zeroValue2
 t3 := Tryz.underlying3
 a3 := Tryz.isAgg3
 z3 := Tryz.sizeOf3
 v3 := Tryz.zeroValue3
 t4 := Tryz.underlying4
 a4 := Tryz.isAgg4
 z4 := Tryz.sizeOf4
 v4 := Tryz.zeroValue4
 t5 := Tryz.underlying5
 a5 := Tryz.isAgg5
 z5 := Tryz.sizeOf5
 v5 := Tryz.zeroValue5
 t9 := Tryz.underlying9
 a9 := Tryz.isAgg9
 z9 := Tryz.sizeOf9
 v9 := Tryz.zeroValue9
 t20 := Tryz.underlying20
 a20 := Tryz.isAgg20
 z20 := Tryz.sizeOf20
 v20 := Tryz.zeroValue20
 t37 := Tryz.underlying28
 a37 := Tryz.isAgg28
 z37 := Tryz.sizeOf28
 v37 := Tryz.zeroValue28
 t46 := Tryz.underlying179
 a46 := Tryz.isAgg179
 z46 := Tryz.sizeOf179
 v46 := Tryz.zeroValue179
 t51 := Tryz.underlying202
 a51 := Tryz.isAgg202
 z51 := Tryz.sizeOf202
 v51 := Tryz.zeroValue202
 t53 := Tryz.underlying213
 a53 := Tryz.isAgg213
 z53 := Tryz.sizeOf213
 v53 := Tryz.zeroValue213
 t171 := Tryz.underlying212
 a171 := Tryz.isAgg212
 z171 := Tryz.sizeOf212
 v171 := Tryz.zeroValue212
 t173 := Tryz.underlying216
 a173 := Tryz.isAgg216
 z173 := Tryz.sizeOf216
 v173 := Tryz.zeroValue216
 t212 := Tryz.underlying233
 a212 := Tryz.isAgg233
 z212 := Tryz.sizeOf233
 v212 := Tryz.zeroValue233
 t213 := Tryz.underlying234
 a213 := Tryz.isAgg234
 z213 := Tryz.sizeOf234
 t232 := Tryz.underlying247
 a232 := Tryz.isAgg247
 z232 := Tryz.sizeOf247
 v232 := Tryz.zeroValue247
 t233 := Tryz.underlying248
 a233 := Tryz.isAgg248
 z233 := Tryz.sizeOf248
 v233 := Tryz.zeroValue248
 g17 := by kernel_rfl
 g18 := by kernel_rfl
 g19 := by kernel_rfl
 i0 := by kernel_rfl
 i2 := by kernel_rfl
 i3 := by kernel_rfl
 i4 := by kernel_rfl
 i5 := by kernel_rfl
 i9 := by kernel_rfl
 i20 := by kernel_rfl
 i37 := by kernel_rfl
 i46 := by kernel_rfl
 i51 := by kernel_rfl
 i53 := by kernel_rfl
 i171 := by kernel_rfl
 i173 := by kernel_rfl
 i212 := by kernel_rfl
 i232 := by kernel_rfl
 i233 := by kernel_rfl
 m17 := by kernel_rfl
 m18 := by kernel_rfl
 m19 := by kernel_rfl }
def Pow (w : World) : Prop := Lib.TabIs Tryz.prog w "internal/strconv.uint64pow10" .u64 Lib.pow10Tab
theorem Pow.below {w w' : World} (h : Pow w) (hb : Below w.heap.size w w') : Pow w' := by
 unfold Pow Lib.TabIs World.var? at h ⊢;cases hg : Tryz.prog.globalNamed "internal/strconv.uint64pow10" with
 | none => rw [hg] at h; cases h
 | some g =>
  rw [hg] at h;simp only [Option.bind_some] at h ⊢
  have hlt : g < w.heap.size := by
   rcases Nat.lt_or_ge g w.heap.size with h' | h'
   ·exact h'
   rw [Array.getElem?_eq_none h'] at h;cases h
  rw [hb.block g hlt];exact h
theorem JgV (w : World) (k : Nat) (os : Array Obj) : Below w.heap.size w (Go.Sort.grow (w.drewN k) os) :=
 ⟨rfl, rfl, rfl, by show w.heap.size <= (w.heap ++ os).size; simp, fun i hi => by
  show (w.heap ++ os)[i]? = w.heap[i]?
  rw [Array.getElem?_append_left hi]⟩
theorem Jcp (n : Int) (w : World) (hn : -9223372036854775808 <= n /\ n <= 9223372036854775807) (hp : Pow w) :
  Calls Tryz.prog 128 #[.int .i64 n] w fun e w' => e = .returned (.string (Qv n)) /\ Below w.heap.size w w' := by
 have h := Any.strconv_Itoa Jjk n hn.1 hn.2 w hp;change Calls Tryz.prog 128 _ _ _ at h
 refine h.mono ?_;rintro e w' ⟨rfl, k, os, rfl⟩;exact ⟨rfl, JgV w k os⟩
theorem Ja6 (n : Int) (w : World) (hn : -9223372036854775808 <= n /\ n <= 9223372036854775807) (hp : Pow w) :
  Calls Tryz.prog 70 #[.int .i64 n] w fun e w' => e = .returned (.string (Qv n)) /\ Below w.heap.size w w' := by
 have Hp := Lib.hid hp;clear hp;go_enter Tryz.func70, Tryz.ntmps70
 go_wp2_with fail
 refine (Jcp n _ hn Hp.out).mono ?_;rintro e w1 ⟨rfl, hb⟩;go_wp2_with fail
 go_ret
 exact ⟨rfl, hb⟩
theorem C_Tree.old {n lo hi : Nat} {w w' : World} {d : TreeD} {cs : List Value} (h : C_Tree n lo hi w d cs) (hb : Below hi w w') : C_Tree n lo hi w' d cs := h.keep (VY hb) (Nat.le_refl _) (Nat.le_refl _)
theorem V8 {n : Nat} {d : TreeD} (h : Uu n d = true) : Jl n d <= 300 /\ Ju n d = true := by
 unfold Uu at h;simp only [Bool.and_eq_true] at h;exact ⟨of_decide_eq_true h.1.2, h.2⟩
theorem Jfp (base : Nat) (w : World) : BufN base w [] 0 (.slice none 0 0) := ⟨rfl, World.ownsRow_nil _ _ _ _⟩
theorem JgJ (w : World) (hB : ∀ {w : World} {e : TypeId} {size base B : Nat}, B = w.heap.size -> base <= w.heap.size -> (w.alloc (.cells #[] e)).ownsRow base e size (.slice (some ⟨B, 0, none⟩) 0 0) 0 []) (base : Nat) (hb : base <= w.heap.size) : BufN base (w.alloc (.cells #[] 5)) [] 0 (.slice (some ⟨w.heap.size, 0, none⟩) 0 0) := ⟨rfl, hB rfl hb⟩
theorem JdS (l : List UInt8) : Rd ⟨l.toArray⟩ 0 l := by unfold Rd; simp
theorem ZT (l : List UInt8) : (⟨l.toArray⟩ : ByteArray).size = l.length := by show l.toArray.size = l.length; simp
theorem Jgy {l : List UInt8} (h : VU l) (hl : l.length <= 20000) : QN ⟨l.toArray⟩ = Jv := by
 have h1 := h ⟨l.toArray⟩ 0 [] (by rw [List.append_nil]; exact JdS l);have h3 : QO ⟨l.toArray⟩ (0 + l.length) = -1 := Wj (by rw [ZT]; omega);rw [h3] at h1;unfold QN;rw [if_neg (by rw [ZT]; omega), h1, if_neg (by decide)]
theorem Jj3 {n : Nat} {d : TreeD} (h : Uu n d = true) : Jw n d <= 8 := by
 unfold Uu at h;simp only [Bool.and_eq_true] at h;exact of_decide_eq_true h.1.1
def Zw (l : List Int) : List UInt8 := l.flatMap fun x => (Jq x).data.toList
theorem JfZ {l : List Int} {k : Nat} {x : Int} (h : l[k]? = some x) : Zw (l.take (k + 1)) = Zw (l.take k) ++ (Jq x).data.toList := by
 unfold Zw;rw [YH h, List.flatMap_append];simp
theorem JbC (l : List Int) : (Zw l).length <= 4 * l.length := by
 unfold Zw;induction l with
 | nil => simp
 | cons x l ih =>
  have := VT x;have h2 : (Jq x).data.toList.length = (Jq x).size := Array.length_toList;rw [List.flatMap_cons, List.length_append, List.length_cons];omega
theorem Jad (l : List Int) (v : Value) (w : World) (lo : Nat) (hs : SlOf Jch 1 lo w.heap.size w l v) (hI : ∀ x ∈ l, -9223372036854775808 <= x /\ x <= 9223372036854775807) (hn : l.length <= 1000) :
  Calls Tryz.prog 252 #[v] w fun e w' => e = .returned (.string ⟨(Zw l).toArray⟩) /\ Below w.heap.size w w' := by
 obtain ⟨A0, c0, rfl, hlc, hc, hA⟩ := hs;have HI := hid hI;have HA := hid hA;clear hA hI;go_enter Tryz.func252, Tryz.ntmps252
 go_wp2_with fail
 go_loopw [3, 4] (fun s i wr => ∃ (k n c : Nat) (A : Option Addr), k <= l.length /\ i = .int .i64 k /\ s = .slice A n c /\ BufN w.heap.size wr (Zw (l.take k)) n (.slice A n c) /\ Below w.heap.size w wr) (fun _ i _ => l.length - (intOf i).toNat)
 case atStart => exact ⟨0, 0, 0, _, Nat.zero_le _, rfl, rfl, JgJ w JV _ (Nat.le_refl _), Jj⟩
 case round =>
  obtain ⟨k, n, c, A, hk, rfl, rfl, hbf, hbr⟩ := hrel;have HBf := hid hbf;have HBr := hid hbr;have hws := hbr.size;have htl := JbC (l.take k);rw [List.length_take] at htl;have hnl : n <= 4000 := by have := hbf.1; omega
  clear htl;clear hbf hbr;by_cases hlt : k < l.length
  ·have hlt1 : (k : Int) < l.length := by omega
   have hk0 : (0 : Int) <= k := by omega
   obtain ⟨b, o, hb, hb1, hb2, hcell⟩ := HA.out (by omega);subst hb;obtain ⟨x, hx⟩ := Jg hlt;obtain ⟨es, -, hes, rfl⟩ := hcell k x hx
   have hy : wr.cell? ⟨b, o + k, none⟩ = some (.int .i64 x) := by
    have := hes 0 (by omega);rw [HBr.out.cell (by simpa using hb2)]
    simpa using this
   have hxI := HI.out x (List.mem_of_getElem? hx);have HNx := hid (JfZ hx);have htz := VT x;clear hcell hes hx;go_wp2_with fail
   refine (Qn x _ hxI).mono ?_;rintro e w5 ⟨rfl, hb5⟩;obtain ⟨A6, c6, w6, hr6, h6, g6⟩ := UG w5 w.heap.size n c A _ (Jq x) (HBf.out.below hb5) (by omega) (Nat.le_trans hws hb5.size);have hb6 := (HBr.out.trans (hb5.mono hws)).trans (g6.below (HBf.out.below hb5).2 (Nat.le_trans hws hb5.size));have H6 := hid (And.intro h6 hb6);clear h6 g6 hb6;go_wp2_with (at_builtin; refine Q1 rfl (.tmp 12) (.tmp 17) 28 9 rfl _ _ _ w6 rfl rfl hr6 ?_)
   go_roundw
   case rel => exact ⟨k + 1, n + (Jq x).size, c6, A6, by omega, by go_num, rfl, by rw [HNx.out]; exact H6.out.1, H6.out.2⟩
   case measure => first | omega | (simp [Lib.intOf]; omega) | (simp [intOf]; omega)
  obtain rfl : k = l.length := by omega
  have HT := hid (show l.take l.length = l from List.take_length);have hcv := V7 HBf.out.1 HBf.out.2;have hke : decide ((l.length : Int) < l.length) = false := JmF (by omega);rw [HT.out] at hcv;go_wp2_with fail
  go_ret
  exact ⟨rfl, HBr.out⟩
open Go.Lib
theorem Jmk : ∀ {l : List UInt8} {a b : Nat}, l.map UInt8.toNat = [a, b] -> ∃ x y : UInt8, l = [x, y] /\ x.toNat = a /\ y.toNat = b
 | [x, y], a, b, h => by simp at h; exact ⟨x, y, rfl, h.1, h.2⟩
 | [], _, _, h => by simp at h
 | [_], _, _, h => by simp at h
 | _ :: _ :: _ :: _, _, _, h => by simp at h
theorem Jmi : ∀ {l : List UInt8} {a b c : Nat}, l.map UInt8.toNat = [a, b, c] -> ∃ x y z : UInt8, l = [x, y, z] /\ x.toNat = a /\ y.toNat = b /\ z.toNat = c
 | [x, y, z], a, b, c, h => by simp at h; exact ⟨x, y, z, rfl, h.1, h.2.1, h.2.2⟩
 | [], _, _, _, h => by simp at h
 | [_], _, _, _, h => by simp at h
 | [_, _], _, _, _, h => by simp at h
 | _ :: _ :: _ :: _ :: _, _, _, _, h => by simp at h
theorem Jl9 : ∀ {l : List UInt8} {a b c d : Nat}, l.map UInt8.toNat = [a, b, c, d] -> ∃ x y z u : UInt8, l = [x, y, z, u] /\ x.toNat = a /\ y.toNat = b /\ z.toNat = c /\ u.toNat = d
 | [x, y, z, u], a, b, c, d, h => by simp at h; exact ⟨x, y, z, u, rfl, h.1, h.2.1, h.2.2.1, h.2.2.2⟩
 | [], _, _, _, _, h => by simp at h
 | [_], _, _, _, _, h => by simp at h
 | [_, _], _, _, _, _, h => by simp at h
 | [_, _, _], _, _, _, _, h => by simp at h
 | _ :: _ :: _ :: _ :: _ :: _, _, _, _, _, h => by simp at h
theorem JgY {l : List UInt8} {n k : Nat} (hk : l.length = k) (h1 : 1 < k) (hd : decodeL l = (n, k)) : VU l := by
 have h := VU.rune (l := l) (by rw [hd]; intro e; simp at e; omega) (by rw [hd]; exact Nat.le_of_lt h1) (by rw [hd, hk]; exact Nat.le_refl _);rw [hd] at h
 have ht : l.take (n, k).2 = l := by
  show l.take k = l
  rw [<- hk];exact List.take_length
 rw [ht] at h;exact h
theorem VU.text (x : Int) : VU (Jq x).data.toList := by
 by_cases h : Vr x = true
 ·have hx : 0 <= x /\ x <= 1114111 /\ ¬ (55296 <= x /\ x <= 57343) := by unfold Vr at h; simp at h; omega
  obtain ⟨n, rfl⟩ : ∃ n : Nat, x = n := ⟨x.toNat, by omega⟩
  have hl := Vm n;generalize (Jq (n : Int)).data.toList = l at hl ⊢;have he := hl;unfold J5 at he;rw [if_neg (by omega)] at he;by_cases c1 : n < 128
  ·rw [if_pos c1] at he
   refine VU.low (fun c hc => ?_);have hm : c.toNat ∈ l.map UInt8.toNat := List.mem_map_of_mem hc;rw [he] at hm;simp at hm;omega
  rw [if_neg c1] at he;by_cases c2 : n < 2048
  ·rw [if_pos c2] at he
   obtain ⟨a, b, rfl, ha, hb⟩ := Jmk he;have hg : JS a.toNat b.toNat 0 0 2 = n := by show 64 * Qk a.toNat + b.toNat - 128 = n; unfold Qk; rw [if_neg (by omega), if_neg (by omega), if_pos (by omega)]; omega
   have w := YJ 2 a.toNat b.toNat 0 0 (by omega) (by omega) (by omega);have hd := w.2 (w.1.1 ⟨by omega, by unfold JO; simp; omega, by rw [hg, <- hl]; rfl⟩);rw [hg] at hd;exact JgY (n := n) (k := 2) rfl (by omega) (by rw [decodeL_N]; exact hd)
  rw [if_neg c2] at he;by_cases c3 : n < 65536
  ·rw [if_pos c3] at he
   obtain ⟨a, b, c, rfl, ha, hb, hc⟩ := Jmi he;have hg : JS a.toNat b.toNat c.toNat 0 3 = n := by show 64 * (64 * Qk a.toNat + b.toNat - 128) + c.toNat - 128 = n; unfold Qk; rw [if_neg (by omega), if_pos (by omega)]; omega
   have w := YU 3 a.toNat b.toNat c.toNat 0 (by omega) (by omega) (by omega) (by omega);have hd := w.2 (w.1.1 ⟨by omega, by unfold JO; simp; omega, by unfold JO; simp; omega, by rw [hg, <- hl]; rfl⟩);rw [hg] at hd;exact JgY (n := n) (k := 3) rfl (by omega) (by rw [decodeL_N]; exact hd)
  ·rw [if_neg c3] at he
   obtain ⟨a, b, c, d, rfl, ha, hb, hc, hd4⟩ := Jl9 he;have hg : JS a.toNat b.toNat c.toNat d.toNat 4 = n := by show 64 * (64 * (64 * Qk a.toNat + b.toNat - 128) + c.toNat - 128) + d.toNat - 128 = n; unfold Qk; rw [if_pos (by omega)]; omega
   have w := YK 4 a.toNat b.toNat c.toNat d.toNat (by omega) (by omega) (by omega) (by omega) (by omega);have hd := w.2 (w.1.1 ⟨by omega, by unfold JO; simp; omega, by unfold JO; simp; omega, by unfold JO; simp; omega, by rw [hg, <- hl]; rfl⟩);rw [hg] at hd;exact JgY (n := n) (k := 4) rfl (by omega) (by rw [decodeL_N]; exact hd)
 have : Jq x = ⟨#[]⟩ := by unfold Jq; rw [if_neg h]
 rw [this];exact VU.nil
theorem VU.texts : ∀ l : List Int, VU (Zw l)
 | [] => VU.nil
 | x :: l => VU.app (VU.text x) (VU.texts l)
theorem Jd1 (s : ByteArray) : ∀ (f i : Nat), s.size - i <= f -> QO s i = -1 -> (JH s i).isSome = true := by
 intro f;induction f with
 | zero =>
  intro i hf _;rw [QE (by omega)];rfl
 | succ f ih =>
  intro i hf h;by_cases hi : i < s.size
  ·by_cases hd : Utf8.decode s i = (65533, 1)
   ·rw [Jac hi hd] at h
    omega
   obtain ⟨-, d2, d3⟩ := JT s i hi;rw [Zd hi hd] at h;rw [Qu hi hd];have := ih _ (by omega) h;rw [Option.isSome_map];exact this
  rw [QE hi];rfl
theorem JcS {l : List UInt8} (h : VU l) : Qt ⟨l.toArray⟩ = true := by
 have h1 := h ⟨l.toArray⟩ 0 [] (by rw [List.append_nil]; exact JdS l);have h3 : QO ⟨l.toArray⟩ (0 + l.length) = -1 := Wj (by rw [ZT]; omega);rw [h3] at h1;exact Jd1 _ _ 0 (Nat.le_refl _) h1
def WordOk (s : ByteArray) : Prop := Qt s = true /\ s.size <= 20
theorem JfV {s : ByteArray} (h : s.data.toList.all (fun c => decide (c.toNat < 128)) = true) (hs : s.size <= 20) : WordOk s := by
 have hv : VU s.data.toList := VU.low (fun c hc => by
  have := List.all_eq_true.1 h c hc
  simpa using this)
 have := JcS hv;exact ⟨by simpa using this, hs⟩
theorem Jdu {L : List ByteArray} (h : ∀ s ∈ L, s.data.toList.all (fun c => decide (c.toNat < 128)) = true /\ s.size <= 20) : ∀ s ∈ L, WordOk s := fun s hs => JfV (h s hs).1 (h s hs).2
theorem Jgm {l : List Int} (h : l.length <= 5) : WordOk ⟨(Zw l).toArray⟩ := by
 refine ⟨JcS (VU.texts l), ?_⟩;have := JbC l;rw [ZT];omega
theorem WordOk.str {s : ByteArray} (h : WordOk s) : Qs s = true := by
 unfold Qs;rw [h.1, Bool.and_true];exact JmG (Nat.le_trans h.2 (by decide))
theorem WordOk.quote {s : ByteArray} (h : WordOk s) : (JN s).data.toList.length <= 122 := by
 have := Wb s;have := h.2;omega
end Go.Proofs.YtohcpifekcehjaaGreatDoor
