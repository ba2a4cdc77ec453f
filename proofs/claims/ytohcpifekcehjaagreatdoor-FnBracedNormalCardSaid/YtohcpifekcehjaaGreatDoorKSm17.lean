/- Steps to FnBracedNormal. No conditions. -/
import Derived.Test.YtohcpifekcehjaaGreatDoorKSm16
import Derived.Test.YtohcpifekcehjaaGreatDoorKSm9
import Derived.Test.YtohcpifekcehjaaGreatDoorKSm2
import Derived.Test.YtohcpifekcehjaaGreatDoorKSm8
import Derived.Test.YtohcpifekcehjaaGreatDoorKSm12
import Derived.Test.YtohcpifekcehjaaGreatDoorKSm7
set_option maxHeartbeats 16000000
set_option maxRecDepth 20000
namespace Go.Proofs.YtohcpifekcehjaaGreatDoor
open Go.RowKit
structure MapRows (base : Nat) (w : World) (ks : List ByteArray) (css : List (List Value)) (vk vl : Value) : Prop where
 keys : w.ownsRow base 9 1 vk ks.length (ks.map Value.string)
 kids : w.ownsRow base 34 6 vl css.length css.flatten
 six : ∀ es ∈ css, es.length = 6
 one : ∀ x ∈ css.flatten, x.oneCell' = true
theorem lay_fin {g g5 cap cap5 B : Nat} {w w4 wF : World} {ks : List ByteArray} {vs : List (List Value)} {key : ByteArray} {kc : List Value} {k0 m0 : Int} {f0 : Bool} {t0 : ByteArray} (hlen : vs.length = ks.length) (h6 : ∀ es ∈ vs, es.length = 6) (h1 : ∀ x ∈ vs.flatten, x.oneCell' = true) (hk6 : kc.length = 6) (hk1 : ∀ x ∈ kc, x.oneCell' = true)
  (hw4 : Below w.heap.size w w4) (hF : Aside (fun b => b = w.heap.size ∨ b = w.heap.size + 1 + 1) w4 wF) (hB : w.heap.size + 1 + 1 < B) (hgB : B <= g)
  (KK : w4.ownsRow w.heap.size 9 1 (.slice (some ⟨g, 0, none⟩) (ks.length + 1) cap) (ks.length + 1) (ks.map Value.string ++ [.string key]))
  (KV : w4.ownsRow B 34 6 (.slice (some ⟨g5, 0, none⟩) (ks.length + 1) cap5) (ks.length + 1) (vs.flatten ++ kc)) :
  ∃ vk' vl', Ending.returned (.agg #[.int .i64 k0, .bool f0, .int .i64 m0, .string t0, .slice (some ⟨g, 0, none⟩) (ks.length + 1) cap, .slice (some ⟨g5, 0, none⟩) (ks.length + 1) cap5]) = Ending.returned (.agg #[.int .i64 k0, .bool f0, .int .i64 m0, .string t0, vk', vl']) /\ MapRows w.heap.size wF (ks ++ [key]) (vs ++ [kc]) vk' vl' /\ Below w.heap.size w wF := by
 refine ⟨_, _, rfl, ⟨?_, ?_, six_push h6 hk6, ?_⟩, hw4.trans (hF.below hw4.size (fun i hi => by omega))⟩
 ·have := ownsRow_carry KK (fun q hq => by
   simp [Value.ownBlock] at hq
   subst hq
   exact hF.block g (KK.lt g rfl).2 (by omega))
  simpa using this
 ·have := ownsRow_carry (own_less KV (show w.heap.size <= B by omega)) (fun q hq => by
   have h3 := KV.lt q hq
   exact hF.block q h3.2 (by omega))
  simp only [List.flatten_append, List.length_append, List.flatten_cons, List.flatten_nil, List.append_nil, List.length_cons, List.length_nil, hlen]
  exact this
 ·intro x hx
  simp only [List.flatten_append, List.flatten_cons, List.flatten_nil, List.append_nil, List.mem_append] at hx
  rcases hx with hx | hx
  ·exact h1 x hx
  ·exact hk1 x hx
theorem c_lay (ks : List ByteArray) (vs : List (List Value)) (key t : ByteArray) (k0 m0 k m : Int) (f0 f : Bool) (t0 : ByteArray) (B4 B5 : Option Addr) (n4 d4 n5 d5 : Nat) (vk vl : Value) (base : Nat) (w : World) (h : MapRows base w ks vs vk vl) (hlen : vs.length = ks.length) (hks : ∀ x ∈ ks, x.size <= 9223372036854775807) (hlt : ∀ x ∈ ks, lessS x key = true) (hk : ks.length <= 1048576) :
  Calls Tryz.prog 193 #[.agg #[.int .i64 k0, .bool f0, .int .i64 m0, .string t0, vk, vl], .string key, .agg #[.int .i64 k, .bool f, .int .i64 m, .string t, .slice B4 n4 d4, .slice B5 n5 d5]] w fun e w' => ∃ vk' vl', e = .returned (.agg #[.int .i64 k0, .bool f0, .int .i64 m0, .string t0, vk', vl']) /\ MapRows w.heap.size w' (ks ++ [key]) (vs ++ [[.int .i64 k, .bool f, .int .i64 m, .string t, .slice B4 n4 d4, .slice B5 n5 d5]]) vk' vl' /\ Below w.heap.size w w' := by
 obtain ⟨i0, hi, hz0, hz1, hz2⟩ := info_parts (show (Tryz.prog.info? 34).map (fun i => (i.zero, i.size, i.bytes)) = some (some (.agg #[.int .i64 0, .bool false, .int .i64 0, .string ⟨#[]⟩, .slice none 0 0, .slice none 0 0]), 6, 88) from by kernel_rfl)
 obtain ⟨j0, gi, gz0, gz1, gz2⟩ := info_parts (show (Tryz.prog.info? 9).map (fun i => (i.zero, i.size, i.bytes)) = some (some (.string ⟨#[]⟩), 1, 16) from by kernel_rfl)
 obtain ⟨hkeys, hkids, h6, h1⟩ := h
 rw [hlen] at hkids
 have hS := own_strs hkeys hks
 obtain ⟨A4, c4, rfl⟩ := own_form hkeys
 obtain ⟨A5, c5, rfl⟩ := own_form hkids
 have Hkeys := Lib.hid hkeys
 have Hkids := Lib.hid hkids
 have H1 := Lib.hid h1
 have hlc5 : ks.length <= c5 := own_cap hkids
 clear h1
 have Hlen := Lib.hid hlen
 have Hlt := Lib.hid hlt
 obtain ⟨A4', c4', hv, hlc, hcc, hA⟩ := hS
 simp only [Value.slice.injEq, true_and] at hv
 obtain ⟨rfl, rfl⟩ := hv
 clear hkeys hkids hlen hlt hks
 go_enter Tryz.func193, Tryz.ntmps193
 go_wp2_with fail
 go_loopw [7] (fun i wr => ∃ j : Nat, j <= ks.length /\ i = .int .i64 j /\ wr.heap[w.heap.size]? = some (.cells #[.int .i64 k0, .bool f0, .int .i64 m0, .string t0, .slice A4 ks.length c4, .slice A5 ks.length c5] 34 (0, 0)) /\ wr.heap[w.heap.size + 1]? = some (.cells #[.int .i64 k, .bool f, .int .i64 m, .string t, .slice B4 n4 d4, .slice B5 n5 d5] 34 (0, 0)) /\ wr.heap[w.heap.size + 1 + 1]? = some (.cells #[.int .i64 0, .bool false, .int .i64 0, .string ⟨#[]⟩, .slice none 0 0, .slice none 0 0] 34 (0, 0)) /\ Below w.heap.size w wr) (fun i _ => ks.length - (intOf i).toNat)
 case atStart => exact ⟨0, Nat.zero_le _, rfl, (Below.heap_alloc _ _ _ (by simp; omega)).trans ((Below.heap_alloc _ _ _ (by simp)).trans (heap_alloc_new _ _)), (Below.heap_alloc _ _ _ (by simp)).trans (heap_at (by simp)), heap_at (by simp), bel⟩
 case round =>
  obtain ⟨j, hj, rfl, hT, hK, hZ, hbr⟩ := hrel
  obtain ⟨x0, x1, x2, x3, x4, x5, xf⟩ := row6 hT
  have hl1 := row_lt hT
  have hl2 := row_lt hK
  have hl8 := row_lt hZ
  have HT := Lib.hid hT
  have HK := Lib.hid hK
  have HZ := Lib.hid hZ
  clear hT hK hZ
  by_cases hlt : j < ks.length
  ·obtain ⟨b, o, rfl, -, hb2, hcell⟩ := hA (by omega)
   obtain ⟨d, hd⟩ := exists_at hlt
   obtain ⟨es, -, hcs, rfl, hd2⟩ := hcell j d hd
   have hc0 := (hbr.cell (p := ⟨b, o + j * 1 + 0, none⟩) (by simp; omega)).trans (hcs 0 (by omega))
   simp at hc0
   have hbl : b < wr.heap.size := Nat.lt_of_lt_of_le hb2 hbr.size
   have hj0 : (0 : Int) <= j := by omega
   have hj1 : (j : Int) < ks.length := by omega
   have hcmp := Hlt.out d (List.mem_of_getElem? hd)
   unfold lessS at hcmp
   clear hcs hcell hA hd
   go_wp2_with fail
   go_roundw
   case rel => exact ⟨j + 1, by omega, by go_num, HT.out, HK.out, HZ.out, bel⟩
   case measure => simp [intOf]; omega
  ·obtain rfl : j = ks.length := by omega
   clear hA
   have hK0 : wr.ownsRow base 9 1 (.slice A4 ks.length c4) ks.length (ks.map Value.string) := ownsRow_carry Hkeys.out (fun q hq => hbr.block q (Hkeys.out.lt q hq).2)
   obtain ⟨v1, w1, hr1, ho1, hg1, ha1⟩ := run_append_row (P := Tryz.prog) (wr.alloc (.cells #[] 9)) 31 31 w.heap.size 9 j0 (.string ⟨#[]⟩) 1 16 Tryz.underlying31 gi gz0 gz1 gz2 rfl (by decide) (.slice (some ⟨wr.heap.size, 0, none⟩) 0 0) 0 [] (own_empty rfl (by omega)) base ks.length (ks.map Value.string) (.slice A4 ks.length c4) (hK0.alloc _) (one_strs ks) (by unfold maxLen; omega) (by omega) (by simp; omega)
   rw [Nat.zero_add, List.nil_append] at ho1
   obtain ⟨E4, e4, rfl⟩ := own_form ho1
   obtain ⟨g, cap, w2, hr2, ho2, hg2, ha2, hl3⟩ := run_append_lies (P := Tryz.prog) (w1.alloc (.cells #[.string key] 9)) 31 31 w.heap.size 9 j0 (.string ⟨#[]⟩) 1 16 Tryz.underlying31 gi gz0 gz1 gz2 rfl (by decide) (.slice E4 ks.length e4) ks.length (ks.map Value.string) (ho1.alloc _) ⟨w1.heap.size, 0, none⟩ 1 1 [.string key] rfl (World.news_of_block (heap_at rfl)) (by intro u hu; simp at hu; subst hu; rfl) (by decide) (by unfold maxLen; omega) (by omega) (by have := hg1.size; simp at this ⊢; omega) _ rfl
   go_wp2_with (at_builtin; first | refine wpList_append_of rfl (.tmp 26) (.tmp 30) 31 rfl _ _ _ w1 rfl rfl hr1 ?_ | refine wpList_append_of rfl (.tmp 31) (.tmp 33) 31 rfl _ _ _ w2 rfl rfl hr2 ?_)
   have hq1 : ∀ q, (Value.slice E4 ks.length e4).ownBlock = some q -> wr.heap.size <= q := fun q hq => by
    rw [hq] at ha1
    simp [Value.ownBlock] at ha1
    omega
   have hs1 := hg1.size
   have hs2 := hg2.size
   simp at hs1 hs2
   have hb1 : Below wr.heap.size wr w1 := Below.grown (bel : Below wr.heap.size wr (wr.alloc (.cells #[] 9))) hg1 (by simp) (fun q hq => by simp [Value.ownBlock] at hq; omega)
   have hb2 : Below wr.heap.size wr w2 := Below.grown (hb1.alloc hb1.size _) hg2 (by simp; omega) hq1
   have HT2 := Lib.hid ((hb2.block _ hl1).trans HT.out)
   have HK2 := Lib.hid ((hb2.block _ hl2).trans HK.out)
   have HZ2 := Lib.hid ((hb2.block _ hl8).trans HZ.out)
   have hw2 : Below w.heap.size w w2 := hbr.trans (hb2.mono hbr.size)
   have Ho2 := Lib.hid ho2
   have hgw : wr.heap.size <= g := by
    rcases ha2 with h | h
    ·exact hq1 g h
    ·simp at h; omega
   clear x0 x1 x2 x3 x4 x5 xf ho1 ho2 hg1 hg2 ha1 ha2 hr1 hr2 HT HK HZ hq1 hK0 hb1 hb2
   obtain ⟨x0, x1, x2, x3, x4, x5, xf⟩ := row6 HT2.out
   obtain ⟨y0, y1, y2, y3, y4, y5, yf⟩ := row6 HK2.out
   have hl4 := row_lt HT2.out
   have hl5 := row_lt HK2.out
   have hl9 := row_lt HZ2.out
   have hcapK : ks.length + 1 <= cap := own_cap Ho2.out
   have hww : wr.heap.size <= w2.heap.size := by omega
   have hone : ∀ x ∈ [Value.int .i64 k, .bool f, .int .i64 m, .string t, .slice B4 n4 d4, .slice B5 n5 d5], x.oneCell' = true := by intro u hu; simp at hu; rcases hu with rfl | rfl | rfl | rfl | rfl | rfl <;> rfl
   go_region_law (first | (refine step_append_row rfl (.tmp 35) (.tmp 39) 32 rfl w2.heap.size 34 i0 (.agg #[.int .i64 0, .bool false, .int .i64 0, .string ⟨#[]⟩, .slice none 0 0, .slice none 0 0]) 6 88 Tryz.underlying32 hi hz0 hz1 hz2 rfl (by decide) (.slice (some ⟨_, 0, none⟩) 0 0) 0 [] rfl (by first | exact own_eq (own_empty (w := w2) rfl (Nat.le_refl _)) rfl | exact own_eq ((own_empty (w := w2) rfl (Nat.le_refl _)).alloc (.cells #[.int .i64 k, .bool f, .int .i64 m, .string t, .slice B4 n4 d4, .slice B5 n5 d5] 34)) rfl | exact own_eq (own_empty (w := w2.alloc (.cells #[.int .i64 k, .bool f, .int .i64 m, .string t, .slice B4 n4 d4, .slice B5 n5 d5] 34)) (by simp) (by simp)) rfl) base ks.length vs.flatten (.slice A5 ks.length c5) rfl (ownsRow_carry Hkids.out (fun q hq => Below.block (bel : Below w.heap.size w _) q (Hkids.out.lt q hq).2)) H1.out (by unfold maxLen; omega) (by omega) (by simp <;> omega) ?_; intro v3 w3 ho3 hg3 ha3; rw [Nat.zero_add, List.nil_append] at ho3; obtain ⟨E5, e5, rfl⟩ := own_form ho3; have hb3 : Below w2.heap.size w2 w3 := Below.grown (bel : Below w2.heap.size w2 _) hg3 (by simp <;> omega) (fun q hq => (by simp [Value.ownBlock] at hq; omega)); obtain ⟨z0, z1, z2, z3, z4, z5, zf⟩ := row6 ((hb3.block _ hl5).trans HK2.out); have hl6 : w.heap.size + 1 < w3.heap.size := Nat.lt_of_lt_of_le hl5 hb3.size) | (refine step_append_lies _ rfl (.tmp 40) (.tmp 42) 32 rfl w2.heap.size 34 i0 (.agg #[.int .i64 0, .bool false, .int .i64 0, .string ⟨#[]⟩, .slice none 0 0, .slice none 0 0]) 6 88 Tryz.underlying32 hi hz0 hz1 hz2 rfl (by decide) (.slice E5 ks.length e5) ks.length vs.flatten rfl (by first | exact ho3 | exact ho3.alloc _) _ 1 1 [.int .i64 k, .bool f, .int .i64 m, .string t, .slice B4 n4 d4, .slice B5 n5 d5] rfl rfl (by first | exact World.news_of_block (heap_alloc_new _ _) | exact World.news_of_block ((hg3.block _ (by simp <;> omega) (by simp [Value.ownBlock] <;> omega)).trans (heap_at (by simp))) | exact World.news_of_block ((hg3.block _ (by simp <;> omega) (by simp [Value.ownBlock] <;> omega)).trans ((Below.heap_alloc _ _ _ (by simp)).trans (heap_at (by simp))))) hone (by decide) (by unfold maxLen; omega) (by omega) (by have := hb3.size; simp; omega) _ rfl ?_; intro g5 cap5 w4 ho5 hg5 ha5 hl7))
   all_goals
    have hq5 : ∀ q, (Value.slice E5 ks.length e5).ownBlock = some q -> w2.heap.size <= q := fun q hq => by
     rw [hq] at ha3
     simp [Value.ownBlock] at ha3
     omega
    have hb4 : Below w2.heap.size w2 w4 := Below.grown (bel : Below w2.heap.size w2 _) hg5 (by have := hb3.size; first | omega | (simp; omega)) hq5
    have HT4 := Lib.hid ((hb4.block _ hl4).trans HT2.out)
    have HZ4 := Lib.hid ((hb4.block _ hl9).trans HZ2.out)
    have Ho4 := Lib.hid ho5
    have Hk4 := Lib.hid (ownsRow_carry Ho2.out (fun q hq => hb4.block q (Ho2.out.lt q hq).2))
    have hcapV : ks.length + 1 <= cap5 := own_cap ho5
    have hw4 : Below w.heap.size w w4 := hw2.trans (hb4.mono hw2.size)
    have hg5w : w2.heap.size <= g5 := by
     rcases ha5 with h | h
     ·exact hq5 g5 h
     ·have := hb3.size
      (try simp at h)
      omega
    clear x0 x1 x2 x3 x4 x5 xf y0 y1 y2 y3 y4 y5 yf z0 z1 z2 z3 z4 z5 zf ho3 ho5 hg3 hg5 ha3 ha5 hb3
    obtain ⟨x0, x1, x2, x3, x4, x5, xf⟩ := row6 HT4.out
    obtain ⟨y0, y1, y2, y3, y4, y5, yf⟩ := row6 HZ4.out
    have hl10 := row_lt HT4.out
    have hl11 := row_lt HZ4.out
    go_wp2_with (at_builtin; first | refine wpList_append_of rfl (.tmp 44) (.tmp 48) 31 rfl _ _ _ _ rfl rfl (run_append_zero _ _ _ 9 j0 Tryz.underlying31 gi ⟨g, 0, none⟩ (ks.length + 1) cap hcapK _ _) ?_ | refine wpList_append_of rfl (.tmp 51) (.tmp 55) 32 rfl _ _ _ _ rfl rfl (run_append_zero _ _ _ 34 i0 Tryz.underlying32 hi ⟨g5, 0, none⟩ (ks.length + 1) cap5 hcapV _ _) ?_)
    all_goals
     refine bodyPost_ret (v := .agg #[.int .i64 k0, .bool f0, .int .i64 m0, .string t0, .slice (some ⟨g, 0, none⟩) (ks.length + 1) cap, .slice (some ⟨g5, 0, none⟩) (ks.length + 1) cap5]) (by simp only [results, Tryz.results193]; go_simp) rfl (lay_fin (B := wr.heap.size) Hlen.out h6 H1.out rfl hone hw4 asd hl8 hgw Hk4.out (own_less Ho4.out hww))
theorem own_take {w : World} {base : Nat} {e : TypeId} {size g n c : Nat} {xs : List Value} (h : w.ownsRow base e size (.slice (some ⟨g, 0, none⟩) n c) n xs) (i : Nat) (hi : i <= n) : w.ownsRow base e size (.slice (some ⟨g, 0, none⟩) i c) i (xs.take (i * size)) := by
 obtain ⟨cur, hg, hn, hcm, hcs, ht, hb⟩ := own_row h
 have hm := Nat.mul_le_mul_right size hi
 refine ⟨by rw [List.length_take, h.1]; omega, .inr ⟨g, c, cur, rfl, hb, hg, by omega, hcm, hcs, ?_⟩⟩
 rw [<- ht, List.take_take, Nat.min_eq_left hm]
theorem own_from {w : World} {base : Nat} {e : TypeId} {size g n c : Nat} {xs : List Value} (h : w.ownsRow base e size (.slice (some ⟨g, 0, none⟩) n c) n xs) (i : Nat) : ∀ j u, (xs.drop (i * size))[j]? = some u -> w.cell? ((⟨g, i * size, none⟩ : Addr).add j) = some u := by
 intro j u hu
 obtain ⟨cur, hg, hn, hcm, hcs, ht, hb⟩ := own_row h
 rw [List.getElem?_drop, <- ht, List.getElem?_take] at hu
 rw [add_at, cell_of_row w g _ cur _ _ hg]
 split at hu
 ·simpa using hu
 ·cases hu
theorem own_some {w : World} {base : Nat} {e : TypeId} {size n : Nat} {v : Value} {xs : List Value} (h : w.ownsRow base e size v n xs) (hn : 0 < n) : ∃ g c, v = .slice (some ⟨g, 0, none⟩) n c := by
 rcases h.2 with ⟨-, h0⟩ | ⟨g, cap, cur, rfl, -⟩
 ·omega
 ·exact ⟨g, cap, rfl⟩
theorem drop_len (ks : List ByteArray) (i : Nat) : ((ks.map Value.string).drop (i * 1)).length = (ks.length - i) * 1 := by simp
theorem layI_fin {g g5 cap cap5 i n B : Nat} {w w4 wF : World} {ks : List ByteArray} {vs : List (List Value)} {key : ByteArray} {kc : List Value} {k0 m0 : Int} {f0 : Bool} {t0 : ByteArray} (hn : ks.length = n) (hlen : vs.length = n) (hi : i < n) (h6 : ∀ es ∈ vs, es.length = 6) (h1 : ∀ x ∈ vs.flatten, x.oneCell' = true) (hk6 : kc.length = 6) (hk1 : ∀ x ∈ kc, x.oneCell' = true)
  (hw4 : Below w.heap.size w w4) (hF : Aside (fun b => b = w.heap.size ∨ b = w.heap.size + 1 + 1) w4 wF) (hB : w.heap.size + 1 + 1 < B) (hgB : B <= g) (hgB5 : B <= g5)
  (KK : w4.ownsRow w.heap.size 9 1 (.slice (some ⟨g, 0, none⟩) (n + 1) cap) (n + 1) ((ks.take i).map Value.string ++ [.string key] ++ (ks.map Value.string).drop (i * 1)))
  (KV : w4.ownsRow w.heap.size 34 6 (.slice (some ⟨g5, 0, none⟩) (n + 1) cap5) (n + 1) (vs.flatten.take (i * 6) ++ kc ++ vs.flatten.drop (i * 6))) :
  ∃ vk' vl', Ending.returned (.agg #[.int .i64 k0, .bool f0, .int .i64 m0, .string t0, .slice (some ⟨g, 0, none⟩) (n + 1) cap, .slice (some ⟨g5, 0, none⟩) (n + 1) cap5]) = Ending.returned (.agg #[.int .i64 k0, .bool f0, .int .i64 m0, .string t0, vk', vl']) /\ MapRows w.heap.size wF (insL ks i key) (insL vs i kc) vk' vl' /\ Below w.heap.size w wF := by
 have KK' := ownsRow_carry KK (fun q hq => by
   simp [Value.ownBlock] at hq
   subst hq
   exact hF.block g (KK.lt g rfl).2 (by omega))
 have KV' := ownsRow_carry KV (fun q hq => by
   simp [Value.ownBlock] at hq
   subst hq
   exact hF.block g5 (KV.lt g5 rfl).2 (by omega))
 refine ⟨_, _, rfl, ⟨?_, ?_, ?_, ?_⟩, hw4.trans (hF.below hw4.size (fun i hi => by omega))⟩
 ·rw [ins_len (by omega), hn, ins_map, ins_append, <- List.map_take]
  rw [Nat.mul_one] at KK'
  exact KK'
 ·rw [ins_len (by omega), hlen, flat_ins vs i kc h6]
  exact KV'
 ·intro es hes
  rcases ins_mem hes with rfl | hes
  ·exact hk6
  ·exact h6 es hes
 ·intro x hx
  rw [flat_ins vs i kc h6] at hx
  rcases List.mem_append.1 hx with hx | hx
  ·rcases List.mem_append.1 hx with hx | hx
   ·exact h1 x (List.mem_of_mem_take hx)
   ·exact hk1 x hx
  ·exact h1 x (List.mem_of_mem_drop hx)
theorem c_layI (ks : List ByteArray) (vs : List (List Value)) (key t : ByteArray) (k0 m0 k m : Int) (f0 f : Bool) (t0 : ByteArray) (B4 B5 : Option Addr) (n4 d4 n5 d5 : Nat) (vk vl : Value) (base i n : Nat) (w : World) (h : MapRows base w ks vs vk vl) (hn : ks.length = n) (hlen : vs.length = n) (hks : ∀ x ∈ ks, x.size <= 9223372036854775807) (hi : i < n)
  (hlt : ∀ j d, j < i -> ks[j]? = some d -> lessS d key = true) (hge : ∀ d, ks[i]? = some d -> lessS d key = false) (hk : n <= 1048576) :
  Calls Tryz.prog 193 #[.agg #[.int .i64 k0, .bool f0, .int .i64 m0, .string t0, vk, vl], .string key, .agg #[.int .i64 k, .bool f, .int .i64 m, .string t, .slice B4 n4 d4, .slice B5 n5 d5]] w fun e w' => ∃ vk' vl', e = .returned (.agg #[.int .i64 k0, .bool f0, .int .i64 m0, .string t0, vk', vl']) /\ MapRows w.heap.size w' (insL ks i key) (insL vs i [.int .i64 k, .bool f, .int .i64 m, .string t, .slice B4 n4 d4, .slice B5 n5 d5]) vk' vl' /\ Below w.heap.size w w' := by
 obtain ⟨i0, gt, hz0, hz1, hz2⟩ := info_parts (show (Tryz.prog.info? 34).map (fun i => (i.zero, i.size, i.bytes)) = some (some (.agg #[.int .i64 0, .bool false, .int .i64 0, .string ⟨#[]⟩, .slice none 0 0, .slice none 0 0]), 6, 88) from by kernel_rfl)
 obtain ⟨j0, gi, gz0, gz1, gz2⟩ := info_parts (show (Tryz.prog.info? 9).map (fun i => (i.zero, i.size, i.bytes)) = some (some (.string ⟨#[]⟩), 1, 16) from by kernel_rfl)
 obtain ⟨hkeys, hkids, h6, h1⟩ := h
 rw [hlen] at hkids
 have hS := own_strs hkeys hks
 rw [hn] at hkeys
 obtain ⟨gk, c4, rfl⟩ := own_some hkeys (by omega)
 obtain ⟨gl, c5, rfl⟩ := own_some hkids (by omega)
 have Hkeys := Lib.hid hkeys
 have Hkids := Lib.hid hkids
 have H1 := Lib.hid h1
 have hlc5 : n <= c5 := own_cap hkids
 clear h1
 have Hlen := Lib.hid hlen
 have Hn := Lib.hid hn
 have Hlt := Lib.hid hlt
 have Hge := Lib.hid hge
 obtain ⟨A4', c4', hv, hlc, hcc, hA⟩ := hS
 rw [hn] at hv hlc hA
 simp only [Value.slice.injEq, true_and] at hv
 obtain ⟨rfl, rfl⟩ := hv
 clear hkeys hkids hlen hlt hge hks hn
 go_enter Tryz.func193, Tryz.ntmps193
 go_wp2_with fail
 go_loopw [7] (fun v wr => ∃ j : Nat, j <= i /\ v = .int .i64 j /\ wr.heap[w.heap.size]? = some (.cells #[.int .i64 k0, .bool f0, .int .i64 m0, .string t0, .slice (some ⟨gk, 0, none⟩) n c4, .slice (some ⟨gl, 0, none⟩) n c5] 34 (0, 0)) /\ wr.heap[w.heap.size + 1]? = some (.cells #[.int .i64 k, .bool f, .int .i64 m, .string t, .slice B4 n4 d4, .slice B5 n5 d5] 34 (0, 0)) /\ wr.heap[w.heap.size + 1 + 1]? = some (.cells #[.int .i64 0, .bool false, .int .i64 0, .string ⟨#[]⟩, .slice none 0 0, .slice none 0 0] 34 (0, 0)) /\ Below w.heap.size w wr) (fun v _ => i - (intOf v).toNat)
 case atStart => exact ⟨0, Nat.zero_le _, rfl, (Below.heap_alloc _ _ _ (by simp; omega)).trans ((Below.heap_alloc _ _ _ (by simp)).trans (heap_alloc_new _ _)), (Below.heap_alloc _ _ _ (by simp)).trans (heap_at (by simp)), heap_at (by simp), bel⟩
 case round =>
  obtain ⟨j, hj, rfl, hT, hK, hZ, hbr⟩ := hrel
  obtain ⟨x0, x1, x2, x3, x4, x5, xf⟩ := row6 hT
  have hl1 := row_lt hT
  have hl2 := row_lt hK
  have hl8 := row_lt hZ
  have HT := Lib.hid hT
  have HK := Lib.hid hK
  have HZ := Lib.hid hZ
  clear hT hK hZ
  have hjn : j < n := by omega
  have hj0 : (0 : Int) <= j := by omega
  have hj1 : (j : Int) < n := by omega
  obtain ⟨b, o, hbo, -, hb2, hcell⟩ := hA (by omega)
  simp only [Option.some.injEq, Addr.mk.injEq, and_true] at hbo
  obtain ⟨rfl, rfl⟩ := hbo
  have hbl : gk < wr.heap.size := Nat.lt_of_lt_of_le hb2 hbr.size
  obtain ⟨d, hd⟩ := exists_at (l := ks) (k := j) (by rw [Hn.out]; exact hjn)
  obtain ⟨es, -, hcs, rfl, hd2⟩ := hcell j d hd
  have hc0 := (hbr.cell (p := ⟨gk, 0 + j * 1 + 0, none⟩) (by simp; omega)).trans (hcs 0 (by omega))
  simp at hc0
  by_cases hlt : j < i
  ·have hcmp := Hlt.out j d hlt hd
   unfold lessS at hcmp
   clear hcs hcell hA hd
   go_wp2_with fail
   go_roundw
   case rel => exact ⟨j + 1, by omega, by go_num, HT.out, HK.out, HZ.out, bel⟩
   case measure => simp [intOf]; omega
  ·obtain rfl : j = i := by omega
   have hcmp := Hge.out d hd
   unfold lessS at hcmp
   clear hcs hcell hA hd
   have hjc4 : (j : Int) <= c4 := by omega
   have hjc5 : (j : Int) <= c5 := by omega
   have htn : ((j : Int)).toNat = j := by omega
   have hK0 : wr.ownsRow base 9 1 (.slice (some ⟨gk, 0, none⟩) n c4) n (ks.map Value.string) := ownsRow_carry Hkeys.out (fun q hq => hbr.block q (Hkeys.out.lt q hq).2)
   have hkt : (ks.map Value.string).take (j * 1) = (ks.take j).map Value.string := by rw [Nat.mul_one, List.map_take]
   have hto := own_take hK0 j (by omega)
   rw [hkt] at hto
   obtain ⟨v1, w1, hr1, ho1, hg1, ha1⟩ := run_append_row (P := Tryz.prog) (wr.alloc (.cells #[] 9)) 31 31 w.heap.size 9 j0 (.string ⟨#[]⟩) 1 16 Tryz.underlying31 gi gz0 gz1 gz2 rfl (by decide) (.slice (some ⟨wr.heap.size, 0, none⟩) 0 0) 0 [] (own_empty rfl (by omega)) base j ((ks.take j).map Value.string) (.slice (some ⟨gk, 0, none⟩) j c4) (hto.alloc _) (one_strs _) (by unfold maxLen; omega) (by omega) (by simp; omega)
   rw [Nat.zero_add, List.nil_append] at ho1
   obtain ⟨E4, e4, rfl⟩ := own_form ho1
   obtain ⟨g, cap, w2, hr2, ho2, hg2, ha2, hl3⟩ := run_append_lies (P := Tryz.prog) (w1.alloc (.cells #[.string key] 9)) 31 31 w.heap.size 9 j0 (.string ⟨#[]⟩) 1 16 Tryz.underlying31 gi gz0 gz1 gz2 rfl (by decide) (.slice E4 j e4) j ((ks.take j).map Value.string) (ho1.alloc _) ⟨w1.heap.size, 0, none⟩ 1 1 [.string key] rfl (World.news_of_block (heap_at rfl)) (by intro u hu; simp at hu; subst hu; rfl) (by decide) (by unfold maxLen; omega) (by omega) (by have := hg1.size; simp at this ⊢; omega) _ rfl
   clear hto hkt
   go_upto_region 5 with (at_builtin; first | refine wpList_append_of rfl (.tmp 26) (.tmp 30) 31 rfl _ _ _ w1 rfl rfl hr1 ?_ | refine wpList_append_of rfl (.tmp 31) (.tmp 33) 31 rfl _ _ _ w2 rfl rfl hr2 ?_)
   have hq1 : ∀ q, (Value.slice E4 j e4).ownBlock = some q -> wr.heap.size <= q := fun q hq => by
    rw [hq] at ha1
    simp [Value.ownBlock] at ha1
    omega
   have hs1 := hg1.size
   have hs2 := hg2.size
   simp at hs1 hs2
   have hb1 : Below wr.heap.size wr w1 := Below.grown (bel : Below wr.heap.size wr (wr.alloc (.cells #[] 9))) hg1 (by simp) (fun q hq => by simp [Value.ownBlock] at hq; omega)
   have hb2 : Below wr.heap.size wr w2 := Below.grown (hb1.alloc hb1.size _) hg2 (by simp; omega) hq1
   have HT2 := Lib.hid ((hb2.block _ hl1).trans HT.out)
   have HK2 := Lib.hid ((hb2.block _ hl2).trans HK.out)
   have HZ2 := Lib.hid ((hb2.block _ hl8).trans HZ.out)
   have hw2 : Below w.heap.size w w2 := hbr.trans (hb2.mono hbr.size)
   have Ho2 := Lib.hid ho2
   have hgw : wr.heap.size <= g := by
    rcases ha2 with h | h
    ·exact hq1 g h
    ·simp at h; omega
   clear x0 x1 x2 x3 x4 x5 xf ho1 ho2 hg1 hg2 ha1 ha2 hr1 hr2 HT HK HZ hq1 hK0 hb1 hb2 hc0
   obtain ⟨x0, x1, x2, x3, x4, x5, xf⟩ := row6 HT2.out
   obtain ⟨y0, y1, y2, y3, y4, y5, yf⟩ := row6 HK2.out
   have hl4 := row_lt HT2.out
   have hl5 := row_lt HK2.out
   have hl9 := row_lt HZ2.out
   have hcapK : j + 1 <= cap := own_cap Ho2.out
   have hww : wr.heap.size <= w2.heap.size := by omega
   have hone : ∀ x ∈ ([.int .i64 k, .bool f, .int .i64 m, .string t, .slice B4 n4 d4, .slice B5 n5 d5] : List Value), x.oneCell' = true := by intro u hu; simp at hu; rcases hu with rfl | rfl | rfl | rfl | rfl | rfl <;> rfl
   have h1t : ∀ x ∈ vs.flatten.take (j * 6), x.oneCell' = true := fun x hx => H1.out x (List.mem_of_mem_take hx)
   go_cut [9] from 35 to 43 (fun s9 wx => ∃ (g5 cap5 : Nat), s9 = .slice (some ⟨g5, 0, none⟩) (j + 1) cap5 /\ w2.heap.size <= g5 /\ wx.ownsRow w2.heap.size 34 6 (.slice (some ⟨g5, 0, none⟩) (j + 1) cap5) (j + 1) (vs.flatten.take (j * 6) ++ [.int .i64 k, .bool f, .int .i64 m, .string t, .slice B4 n4 d4, .slice B5 n5 d5]) /\ Below w2.heap.size w2 wx)
   case first =>
    go_region_law (first | (refine step_append_row rfl (.tmp 35) (.tmp 39) 32 rfl w2.heap.size 34 i0 (.agg #[.int .i64 0, .bool false, .int .i64 0, .string ⟨#[]⟩, .slice none 0 0, .slice none 0 0]) 6 88 Tryz.underlying32 gt hz0 hz1 hz2 rfl (by decide) (.slice (some ⟨_, 0, none⟩) 0 0) 0 [] rfl (by first | exact own_eq (own_empty (w := w2) rfl (Nat.le_refl _)) rfl | exact own_eq ((own_empty (w := w2) rfl (Nat.le_refl _)).alloc (.cells #[.int .i64 k, .bool f, .int .i64 m, .string t, .slice B4 n4 d4, .slice B5 n5 d5] 34)) rfl | exact own_eq (own_empty (w := w2.alloc (.cells #[.int .i64 k, .bool f, .int .i64 m, .string t, .slice B4 n4 d4, .slice B5 n5 d5] 34)) (by simp) (by simp)) rfl) base j (vs.flatten.take (j * 6)) (.slice (some ⟨gl, 0, none⟩) j c5) rfl (own_take (ownsRow_carry Hkids.out (fun q hq => Below.block (bel : Below w.heap.size w _) q (Hkids.out.lt q hq).2)) j (by omega)) h1t (by unfold maxLen; omega) (by omega) (by simp <;> omega) ?_; intro v3 w3 ho3 hg3 ha3; rw [Nat.zero_add, List.nil_append] at ho3; obtain ⟨E5, e5, rfl⟩ := own_form ho3; have hb3 : Below w2.heap.size w2 w3 := Below.grown (bel : Below w2.heap.size w2 _) hg3 (by simp <;> omega) (fun q hq => (by simp [Value.ownBlock] at hq; omega)); obtain ⟨z0, z1, z2, z3, z4, z5, zf⟩ := row6 ((hb3.block _ hl5).trans HK2.out); have hl6 : w.heap.size + 1 < w3.heap.size := Nat.lt_of_lt_of_le hl5 hb3.size) | (refine step_append_lies _ rfl (.tmp 40) (.tmp 42) 32 rfl w2.heap.size 34 i0 (.agg #[.int .i64 0, .bool false, .int .i64 0, .string ⟨#[]⟩, .slice none 0 0, .slice none 0 0]) 6 88 Tryz.underlying32 gt hz0 hz1 hz2 rfl (by decide) (.slice E5 j e5) j (vs.flatten.take (j * 6)) rfl (by first | exact ho3 | exact ho3.alloc _) _ 1 1 [.int .i64 k, .bool f, .int .i64 m, .string t, .slice B4 n4 d4, .slice B5 n5 d5] rfl rfl (by first | exact World.news_of_block (heap_alloc_new _ _) | exact World.news_of_block ((hg3.block _ (by simp <;> omega) (by simp [Value.ownBlock] <;> omega)).trans (heap_at (by simp))) | exact World.news_of_block ((hg3.block _ (by simp <;> omega) (by simp [Value.ownBlock] <;> omega)).trans ((Below.heap_alloc _ _ _ (by simp)).trans (heap_at (by simp))))) hone (by decide) (by unfold maxLen; omega) (by omega) (by have := hb3.size; simp; omega) _ rfl ?_; intro g5 cap5 w4 ho5 hg5 ha5 hl7))
    all_goals
     have hq5 : ∀ q, (Value.slice E5 j e5).ownBlock = some q -> w2.heap.size <= q := fun q hq => by
      rw [hq] at ha3
      simp [Value.ownBlock] at ha3
      omega
     have hb4 : Below w2.heap.size w2 w4 := Below.grown (bel : Below w2.heap.size w2 _) hg5 (by have := hb3.size; first | omega | (simp; omega)) hq5
     have hg5w : w2.heap.size <= g5 := by
      rcases ha5 with h | h
      ·exact hq5 g5 h
      ·have := hb3.size
       (try simp at h)
       omega
     go_wp2_with fail
     go_meet
     exact ⟨g5, cap5, rfl, hg5w, ho5, hb4⟩
   case rest =>
    obtain ⟨g5, cap5, rfl, hg5w, ho5, hb4⟩ := hcut
    clear x0 x1 x2 x3 x4 x5 xf y0 y1 y2 y3 y4 y5 yf
    have HT4 := Lib.hid ((hb4.block _ hl4).trans HT2.out)
    have HZ4 := Lib.hid ((hb4.block _ hl9).trans HZ2.out)
    have Ho4 := Lib.hid ho5
    have Hk4 := Lib.hid (ownsRow_carry Ho2.out (fun q hq => hb4.block q (Ho2.out.lt q hq).2))
    have hw4 : Below w.heap.size w wc := hw2.trans (hb4.mono hw2.size)
    clear ho5
    obtain ⟨x0, x1, x2, x3, x4, x5, xf⟩ := row6 HT4.out
    have hl10 := row_lt HT4.out
    have hl11 := row_lt HZ4.out
    have hjj : j + 1 + (n - j) = n + 1 := by omega
    have hKsrc : wc.ownsRow base 9 1 (.slice (some ⟨gk, 0, none⟩) n c4) n (ks.map Value.string) := ownsRow_carry Hkeys.out (fun q hq => hw4.block q (Hkeys.out.lt q hq).2)
    obtain ⟨g6, cap6, w5, hr6, ho6, hg6, ha6, hl6'⟩ := run_append_lies (P := Tryz.prog) wc 31 31 w.heap.size 9 j0 (.string ⟨#[]⟩) 1 16 Tryz.underlying31 gi gz0 gz1 gz2 rfl (by decide) (.slice (some ⟨g, 0, none⟩) (j + 1) cap) (j + 1) ((ks.take j).map Value.string ++ [.string key]) Hk4.out ⟨gk, j * 1, none⟩ (n - j) (c4 - j) ((ks.map Value.string).drop (j * 1)) ((drop_len ks j).trans (by rw [Hn.out])) (own_from hKsrc j) (fun x hx => one_strs ks x (List.mem_of_mem_drop hx)) (by omega) (by unfold maxLen; omega) (by omega) hw4.size _ rfl
    rw [hjj] at hr6 ho6
    rw [Nat.mul_one] at hr6
    have hgwr : w.heap.size < g := by omega
    have hg6g : wr.heap.size <= g6 := by
     rcases ha6 with h | h
     ·simp [Value.ownBlock] at h; omega
     ·have := hb4.size; omega
    have hne : ∀ q, q < wr.heap.size -> some q ≠ (Value.slice (some ⟨g, 0, none⟩) (j + 1) cap).ownBlock := fun q hq e => by simp [Value.ownBlock] at e; omega
    have HT5 := Lib.hid ((hg6.block _ hl10 (hne _ hl1)).trans HT4.out)
    have HZ5 := Lib.hid ((hg6.block _ hl11 (hne _ hl8)).trans HZ4.out)
    have hw5 : Below w.heap.size w w5 := Below.grown hw4 hg6 hw4.size (fun q hq => by simp [Value.ownBlock] at hq; omega)
    have Hv5 := Lib.hid (ownsRow_carry Ho4.out (fun q hq => hg6.block q (Ho4.out.lt q hq).2 (fun e => own_apart Ho4.out Hk4.out (by decide) q hq e.symm)))
    have Ho6 := Lib.hid ho6
    have hs5 := hg6.size
    have hs4 := hb4.size
    clear hKsrc ho6 hg6 ha6 hne hl6' hjj
    obtain ⟨y0, y1, y2, y3, y4, y5, yf⟩ := row6 HT5.out
    have hl14 := row_lt HT5.out
    have Hr6 := Lib.hid hr6
    go_upto_region 7 with (at_builtin; refine wpList_append_of rfl (.tmp 44) (.tmp 48) 31 rfl _ _ _ w5 rfl rfl Hr6.out ?_)
    obtain ⟨W6, hW6⟩ : ∃ W6, W6 = w5.setCell ⟨w.heap.size, 4, none⟩ (.slice (some ⟨g6, 0, none⟩) (n + 1) cap6) := ⟨_, rfl⟩
    rw [<- hW6]
    have hA6 : Aside (fun b => b = w.heap.size) w5 W6 := by rw [hW6]; exact Aside.setCell (Aside.refl _ _) rfl
    have hw6 : Below w.heap.size w W6 := hw5.trans (hA6.below hw5.size (fun i hi => by omega))
    have HT6 := Lib.hid (show W6.heap[w.heap.size]? = some (.cells #[.int .i64 k0, .bool f0, .int .i64 m0, .string t0, .slice (some ⟨g6, 0, none⟩) (n + 1) cap6, .slice (some ⟨gl, 0, none⟩) n c5] 34 (0, 0)) by rw [hW6]; exact heap_setCell_same _ _ 4 _ _ _ HT5.out)
    have HZ6 := Lib.hid ((hA6.block _ (row_lt HZ5.out) (by omega)).trans HZ5.out)
    have hVsrc : W6.ownsRow base 34 6 (.slice (some ⟨gl, 0, none⟩) n c5) n vs.flatten := ownsRow_carry Hkids.out (fun q hq => hw6.block q (Hkids.out.lt q hq).2)
    have Hv6 := ownsRow_carry Hv5.out (fun q hq => hA6.block q (Hv5.out.lt q hq).2 (by have := (Hv5.out.lt q hq).1; omega))
    have Hk6 := ownsRow_carry Ho6.out (fun q hq => hA6.block q (Ho6.out.lt q hq).2 (by simp [Value.ownBlock] at hq; omega))
    have hs6 := hA6.size
    obtain ⟨g7, cap7, w7, hr7, ho7, hg7, ha7, hl7'⟩ := run_append_lies (P := Tryz.prog) W6 32 32 w2.heap.size 34 i0 (.agg #[.int .i64 0, .bool false, .int .i64 0, .string ⟨#[]⟩, .slice none 0 0, .slice none 0 0]) 6 88 Tryz.underlying32 gt hz0 hz1 hz2 rfl (by decide) (.slice (some ⟨g5, 0, none⟩) (j + 1) cap5) (j + 1) (vs.flatten.take (j * 6) ++ [.int .i64 k, .bool f, .int .i64 m, .string t, .slice B4 n4 d4, .slice B5 n5 d5]) Hv6 ⟨gl, j * 6, none⟩ (n - j) (c5 - j) (vs.flatten.drop (j * 6)) (by rw [List.length_drop, Hkids.out.1]; omega) (own_from hVsrc j) (fun x hx => H1.out x (List.mem_of_mem_drop hx)) (by omega) (by unfold maxLen; omega) (by omega) (by omega) _ rfl
    rw [show j + 1 + (n - j) = n + 1 by omega] at hr7 ho7
    have hg7g : w2.heap.size <= g7 := by
     rcases ha7 with h | h
     ·simp [Value.ownBlock] at h; omega
     ·omega
    have hne7 : ∀ q, q < w2.heap.size -> some q ≠ (Value.slice (some ⟨g5, 0, none⟩) (j + 1) cap5).ownBlock := fun q hq e => by simp [Value.ownBlock] at e; omega
    have HT7 := Lib.hid ((hg7.block _ (row_lt HT6.out) (hne7 _ hl4)).trans HT6.out)
    have HZ7 := Lib.hid ((hg7.block _ (row_lt HZ6.out) (hne7 _ hl9)).trans HZ6.out)
    have hw7 : Below w.heap.size w w7 := Below.grown hw6 hg7 hw6.size (fun q hq => by simp [Value.ownBlock] at hq; omega)
    have Hk7 := Lib.hid (ownsRow_carry Hk6 (fun q hq => hg7.block q (Hk6.lt q hq).2 (fun e => own_apart Hv6 Hk6 (by decide) q e.symm hq)))
    have Ho7 := Lib.hid (own_less ho7 (show w.heap.size <= w2.heap.size by omega))
    have Hr7 := Lib.hid hr7
    clear x0 x1 x2 x3 x4 x5 xf y0 y1 y2 y3 y4 y5 yf hr6 hr7 hW6 hVsrc Hv6 Hk6 ho7 hg7 ha7 hne7 hl7' hA6 hw6
    obtain ⟨y0, y1, y2, y3, y4, y5, yf⟩ := row6 HT6.out
    have hl15 := row_lt HT6.out
    obtain ⟨x0, x1, x2, x3, x4, x5, xf⟩ := row6 HT7.out
    obtain ⟨u0', u1', u2', u3', u4', u5', uf'⟩ := row6 HZ7.out
    have hl16 := row_lt HT7.out
    have hl17 := row_lt HZ7.out
    go_wp2_with (at_builtin; refine wpList_append_of rfl (.tmp 51) (.tmp 55) 32 rfl _ _ _ w7 rfl rfl Hr7.out ?_)
    refine bodyPost_ret (v := .agg #[.int .i64 k0, .bool f0, .int .i64 m0, .string t0, .slice (some ⟨g6, 0, none⟩) (n + 1) cap6, .slice (some ⟨g7, 0, none⟩) (n + 1) cap7]) (by simp only [results, Tryz.results193]; go_simp) rfl ?_
    exact (layI_fin (B := wr.heap.size) Hn.out Hlen.out hi h6 H1.out rfl (by intro u hu; simp at hu; rcases hu with rfl | rfl | rfl | rfl | rfl | rfl <;> rfl) hw7 asd hl8 hg6g (by omega) Hk7.out Ho7.out)
open Go.RowKit Go.Lib
theorem MapG.fresh {nT base hi i : Nat} {w0 w2 : World} {ks : List ByteArray} {l : List TreeD} {vk vl vk' vl' : Value} {ess : List (List Value)} {F : Nat -> Nat -> Prop} {S : Nat -> Prop} {t : TreeD} {es : List Value} {key : ByteArray} (h : MapG nT base hi w0 ks l vk vl ess F) (hbh : base <= hi) (hhi : hi <= w0.heap.size) (hi2 : i <= l.length)
  (ht : OwnT nT S w0 t es) (hS : ∀ b, S b -> hi <= b /\ b < w0.heap.size) (hkey : key.size <= 9223372036854775807)
  (hB : Below w0.heap.size w0 w2) (hM : MapRows w0.heap.size w2 (insL ks i key) (insL ess i es) vk' vl') :
  MapG nT base w2.heap.size w2 (insL ks i key) (insL l i t) vk' vl' (insL ess i es) (fun j b => if j < i then F j b else if j = i then S b else F (j - 1) b) := by
 have hlen := h.len
 have hsz := hB.size
 have hgk : ∀ g, vk'.ownBlock = some g -> w0.heap.size <= g := fun g hg => (hM.keys.lt g hg).1
 have hgl : ∀ g, vl'.ownBlock = some g -> w0.heap.size <= g := fun g hg => (hM.kids.lt g hg).1
 have hkeep : ∀ b, b < w0.heap.size -> w2.heap[b]? = w0.heap[b]? := fun b hb => hB.block b hb
 have hFS : ∀ j b, F j b -> ¬ S b := fun j b hF hs => by have := (h.part j b hF).2.1; have := (hS b hs).1; omega
 have hl1 : (insL ess i es).length = (insL l i t).length := by rw [ins_len (by omega), ins_len hi2, hlen]
 refine ⟨hl1, hM.six, own_less hM.keys (by omega), hl1 ▸ own_less hM.kids (by omega), fun g hg => (hM.keys.lt g hg).2, fun g hg => (hM.kids.lt g hg).2, ?_, ?_, ?_, ?_⟩
 ·have hnew : ∀ b, base <= b -> b < w0.heap.size -> base <= b /\ b < w2.heap.size /\ vk'.ownBlock ≠ some b /\ vl'.ownBlock ≠ some b := fun b h1 h2 =>
   ⟨h1, by omega, fun e => by have := hgk b e; omega, fun e => by have := hgl b e; omega⟩
  intro j b hF
  by_cases c1 : j < i
  ·rw [if_pos c1] at hF
   obtain ⟨f1, f2, f3, f4⟩ := h.part j b hF
   exact hnew b f1 (by omega)
  ·rw [if_neg c1] at hF
   by_cases c2 : j = i
   ·rw [if_pos c2] at hF
    obtain ⟨f1, f2⟩ := hS b hF
    exact hnew b (by omega) f2
   ·rw [if_neg c2] at hF
    obtain ⟨f1, f2, f3, f4⟩ := h.part (j - 1) b hF
    exact hnew b f1 (by omega)
 ·intro j k b hF hG
  have key : ∀ j k, (if j < i then F j b else if j = i then S b else F (j - 1) b) -> (if k < i then F k b else if k = i then S b else F (k - 1) b) -> j <= k -> j = k := by
   intro j k hF hG hjk
   by_cases c1 : j < i
   ·rw [if_pos c1] at hF
    by_cases c2 : k < i
    ·rw [if_pos c2] at hG
     exact h.apart j k b hF hG
    ·rw [if_neg c2] at hG
     by_cases c3 : k = i
     ·rw [if_pos c3] at hG
      exact absurd hG (hFS j b hF)
     ·rw [if_neg c3] at hG
      have := h.apart j (k - 1) b hF hG
      omega
   ·rw [if_neg c1] at hF
    by_cases c3 : j = i
    ·rw [if_pos c3] at hF
     by_cases c4 : k = i
     ·omega
     ·rw [if_neg (by omega), if_neg c4] at hG
      exact absurd hF (hFS (k - 1) b hG)
    ·rw [if_neg c3] at hF
     rw [if_neg (by omega), if_neg (by omega)] at hG
     have := h.apart (j - 1) (k - 1) b hF hG
     omega
  rcases Nat.le_total j k with hjk | hjk
  ·exact key j k hF hG hjk
  ·exact (key k j hG hF hjk).symm
 ·intro j d' es' hd hes
  rw [ins_get hi2] at hd
  rw [ins_get (by omega)] at hes
  by_cases c1 : j < i
  ·rw [if_pos c1] at hd hes
   refine (h.own j d' es' hd hes).carry (fun b hF => ?_) (fun b hF => by rw [if_pos c1]; exact hF)
   obtain ⟨f1, f2, f3, f4⟩ := h.part j b hF
   exact hkeep b (by omega)
  ·rw [if_neg c1] at hd hes
   by_cases c2 : j = i
   ·rw [if_pos c2] at hd hes
    obtain rfl := Option.some.inj hd
    obtain rfl := Option.some.inj hes
    exact ht.carry (fun b hs => hkeep b (hS b hs).2) (fun b hF => by rw [if_neg c1, if_pos c2]; exact hF)
   ·rw [if_neg c2] at hd hes
    refine (h.own (j - 1) d' es' hd hes).carry (fun b hF => ?_) (fun b hF => by rw [if_neg c1, if_neg c2]; exact hF)
    obtain ⟨f1, f2, f3, f4⟩ := h.part (j - 1) b hF
    exact hkeep b (by omega)
 ·intro s hs
  rcases ins_mem hs with rfl | hs
  ·exact hkey
  ·exact h.size s hs
theorem MapG.rows {nT base hi : Nat} {w : World} {ks : List ByteArray} {l : List TreeD} {vk vl : Value} {ess : List (List Value)} {F : Nat -> Nat -> Prop} (h : MapG nT base hi w ks l vk vl ess F) : MapRows base w ks ess vk vl :=
 ⟨h.keys, h.len ▸ h.kids, h.six, h.one⟩
theorem ins_end {D : Type} (l : List D) (n : Nat) (x : D) (h : l.length = n) : insL l n x = l ++ [x] := by
 unfold insL
 rw [List.take_of_length_le (by omega), List.drop_of_length_le (by omega)]
theorem c_layG {ks : List ByteArray} {vs : List (List Value)} {key t : ByteArray} {k0 m0 k m : Int} {f0 f : Bool} {t0 : ByteArray} {B4 B5 : Option Addr} {n4 d4 n5 d5 : Nat} {vk vl : Value} {base i : Nat} {w : World} (h : MapRows base w ks vs vk vl) (hlen : vs.length = ks.length) (hks : ∀ x ∈ ks, x.size <= 9223372036854775807) (hk : ks.length <= 1048576) (hi : i = posK ks key) (hso : SortK ks) :
  Calls Tryz.prog 193 #[.agg #[.int .i64 k0, .bool f0, .int .i64 m0, .string t0, vk, vl], .string key, .agg #[.int .i64 k, .bool f, .int .i64 m, .string t, .slice B4 n4 d4, .slice B5 n5 d5]] w fun e w' => ∃ vk' vl', e = .returned (.agg #[.int .i64 k0, .bool f0, .int .i64 m0, .string t0, vk', vl']) /\ MapRows w.heap.size w' (insL ks i key) (insL vs i [.int .i64 k, .bool f, .int .i64 m, .string t, .slice B4 n4 d4, .slice B5 n5 d5]) vk' vl' /\ Below w.heap.size w w' := by
 have hle := posK_le ks key
 by_cases hlt : i < ks.length
 ·exact c_layI ks vs key t k0 m0 k m f0 f t0 B4 B5 n4 d4 n5 d5 vk vl base i ks.length w h rfl hlen hks hlt (fun j d hj hd => posK_less (hi ▸ hj) hd) (fun d hd => posK_not hso (Nat.le_of_eq hi.symm) hd) hk
 ·have he : ks.length = i := by omega
  have := c_lay ks vs key t k0 m0 k m f0 f t0 B4 B5 n4 d4 n5 d5 vk vl base w h hlen hks (fun x hx => by
   obtain ⟨j, hj⟩ := List.getElem?_of_mem hx
   exact posK_less (by have := (List.getElem?_eq_some_iff.1 hj).1; omega) hj) hk
  rw [ins_end ks i key he, ins_end vs i _ (by omega)]
  exact this
theorem key_no {ks : List ByteArray} {l : List TreeD} {key : ByteArray} (h : hasS ks key = false) : keyI (tMap ks l) key = -1 := by
 show (if (6 : Int) = 6 then idxI ks key else -1) = -1
 rw [if_pos rfl]
 exact idxI_end ks key (by rw [List.take_of_length_le (Nat.le_refl _)]; exact h)
theorem key_yes {ks : List ByteArray} {l : List TreeD} {key : ByteArray} (h : hasS ks key = true) : ∃ k : Nat, keyI (tMap ks l) key = (k : Int) := by
 show ∃ k : Nat, (if (6 : Int) = 6 then idxI ks key else -1) = (k : Int)
 rw [if_pos rfl]
 unfold idxI
 rcases hx : ks.findIdx? (isS key) with _ | k
 ·rw [List.findIdx?_eq_none_iff] at hx
  unfold hasS at h
  rw [List.any_eq_true] at h
  obtain ⟨x, h1, h2⟩ := h
  rw [hx x h1] at h2
  cases h2
 ·exact ⟨k, rfl⟩
theorem PBox.all {b : Nat} {w wx : World} {vk vl u v : Value} (h : PBox b w wx vk vl) : PBox b w ((((((wx.setCell ⟨w.heap.size + 1, 0, none⟩ (.int .i64 6)).setCell ⟨w.heap.size + 1, 1, none⟩ (.bool false)).setCell ⟨w.heap.size + 1, 2, none⟩ (.int .i64 0)).setCell ⟨w.heap.size + 1, 3, none⟩ (.string ⟨#[]⟩)).setCell ⟨w.heap.size + 1, 4, none⟩ u).setCell ⟨w.heap.size + 1, 5, none⟩ v) u v := by
 have h0 : PBox b w (wx.setCell ⟨w.heap.size + 1, 0, none⟩ (.int .i64 6)) vk vl := ⟨(Below.heap_setCell _ _ _ _ (by simp)).trans h.zero, heap_setCell_same wx (w.heap.size + 1) 0 _ _ _ h.map, aside_set (.inr (by simp)) h.aside⟩
 have h1 : PBox b w ((wx.setCell ⟨w.heap.size + 1, 0, none⟩ (.int .i64 6)).setCell ⟨w.heap.size + 1, 1, none⟩ (.bool false)) vk vl := ⟨(Below.heap_setCell _ _ _ _ (by simp)).trans h0.zero, heap_setCell_same _ (w.heap.size + 1) 1 _ _ _ h0.map, aside_set (.inr (by simp)) h0.aside⟩
 have h2 : PBox b w (((wx.setCell ⟨w.heap.size + 1, 0, none⟩ (.int .i64 6)).setCell ⟨w.heap.size + 1, 1, none⟩ (.bool false)).setCell ⟨w.heap.size + 1, 2, none⟩ (.int .i64 0)) vk vl := ⟨(Below.heap_setCell _ _ _ _ (by simp)).trans h1.zero, heap_setCell_same _ (w.heap.size + 1) 2 _ _ _ h1.map, aside_set (.inr (by simp)) h1.aside⟩
 have h3 : PBox b w ((((wx.setCell ⟨w.heap.size + 1, 0, none⟩ (.int .i64 6)).setCell ⟨w.heap.size + 1, 1, none⟩ (.bool false)).setCell ⟨w.heap.size + 1, 2, none⟩ (.int .i64 0)).setCell ⟨w.heap.size + 1, 3, none⟩ (.string ⟨#[]⟩)) vk vl := ⟨(Below.heap_setCell _ _ _ _ (by simp)).trans h2.zero, heap_setCell_same _ (w.heap.size + 1) 3 _ _ _ h2.map, aside_set (.inr (by simp)) h2.aside⟩
 exact h3.set4.set5
def PairsAtS (L : List SignD) (E : Int) (R : Nat -> Nat -> Flt -> World -> Prop) (b n d : Nat) (r : Res) (w wx : World) : Prop :=
 ∃ (ks : List ByteArray) (acc : List TreeD) (p m k : Nat), GoodM R b (9 - d) w ks acc p m wx /\ p <= L.length /\ m <= 300 /\ ks.length <= p /\ acc.length = ks.length /\ SortK ks /\ needJ L p (.pairs d ks acc) <= k /\ k <= n /\ r = readJ L E k (.pairs d ks acc) p m
theorem BadM.finS {L : List SignD} {E : Int} {b N : Nat} {w wx wF : World} {f : Flt} {A A' : Option Addr} {n c n' c' p m : Nat} (hb : b < w.heap.size) (hL : PBox b w wx (.slice A n c) (.slice A' n' c')) (hR : RdAtS L E b p m f wx) (hp : p <= N) (hF : Aside (fun q => q = w.heap.size) wx wF) :
  BadT (RdAtS L E b) b N f w (.returned (.agg #[.int .i64 6, .bool false, .int .i64 0, .string ⟨#[]⟩, .slice A n c, .slice A' n' c'])) wF :=
 ⟨6, false, 0, ⟨#[]⟩, A, n, c, A', n', c', p, m, rfl, hR.past hF (fun q hq => by omega), hp, Aside.low (hL.aside.join hF (fun q hq _ => .inr (by omega)))⟩
theorem BadM.finZ {L : List SignD} {E : Int} {b N : Nat} {w wx wF : World} {f : Flt} {vk vl : Value} {p m : Nat} (hb : b < w.heap.size) (hL : PBox b w wx vk vl) (hR : RdAtS L E b p m f wx) (hp : p <= N) (hF : Aside (fun q => q = w.heap.size) wx wF) :
  BadT (RdAtS L E b) b N f w (.returned (.agg #[.int .i64 0, .bool false, .int .i64 0, .string ⟨#[]⟩, .slice none 0 0, .slice none 0 0])) wF :=
 ⟨0, false, 0, ⟨#[]⟩, none, 0, 0, none, 0, 0, p, m, rfl, hR.past hF (fun q hq => by omega), hp, Aside.low (hL.aside.join hF (fun q hq _ => .inr (by omega)))⟩
theorem GoodM.finS {L : List SignD} {E : Int} {b nT : Nat} {w wx wF : World} {ks : List ByteArray} {acc : List TreeD} {q m : Nat} {vk vl : Value} {ess : List (List Value)} {F : Nat -> Nat -> Prop} (hb : b < w.heap.size) (hL : PBox b w wx vk vl) (hG : MapG nT (w.heap.size + 2) wx.heap.size wx ks acc vk vl ess F) (hR : RdAtS L E b q m flt0 wx) (hF : Aside (fun q => q = w.heap.size) wx wF) :
  GoodT (RdAtS L E b) b (nT + 1) (tMap ks acc) q m w (.returned (.agg #[.int .i64 6, .bool false, .int .i64 0, .string ⟨#[]⟩, vk, vl])) wF := by
 refine ⟨[.int .i64 6, .bool false, .int .i64 0, .string ⟨#[]⟩, vk, vl], rfl, hG.tree (fun q h1 h2 => hF.block q h2 (by omega)) (fun b h1 h2 => ⟨by omega, Nat.lt_of_lt_of_le h2 hF.size⟩), hR.past hF (fun q hq => by omega), ?_⟩
 exact Aside.low (hL.aside.join hF (fun q hq _ => .inr (by omega)))
theorem of_pairsS (L : List SignD) (E : Int) (b n : Nat) (hL : SgOk L) (hv : ∀ k, k < n -> T_valS L E b k) : T_pairsS L E b n := by
 intro d p0 m0 w hd1 hd8 hpl hm hn h
 have HRd := hid h
 have Hv := hid hv
 have hlb := h.lt
 have hlen := hL.len
 have HLs := hid hL
 obtain ⟨nd, hnd⟩ : ∃ k, 10 - d = k + 1 := ⟨9 - d, by omega⟩
 have hnd9 : 9 - d = nd := by omega
 obtain ⟨r, hr⟩ : ∃ r, r = pairsR L E n d p0 m0 := ⟨_, rfl⟩
 rw [<- hr, hnd]
 have HR := hid hr
 have HN9 := hid hnd9
 have HNe := hid hn
 obtain ⟨t0, ht0⟩ : ∃ t, t = kindAt L p0 := ⟨_, rfl⟩
 have HT0 := hid ht0
 obtain ⟨a0', hpa0⟩ : ∃ z, z = placeAt L E p0 := ⟨_, rfl⟩
 have HP0 := hid hpa0
 clear hr h hv hnd hnd9 hn hL hpa0
 by_cases hk4 : kindAt L p0 = 2
 ·have HQ := hid (show r = .good (tMap [] []) (p0 + 1) m0 by rw [HR.out]; exact if_pos hk4)
  obtain rfl : t0 = 2 := ht0.trans hk4
  clear hk4 ht0
  go_enter Tryz.func142, Tryz.ntmps142
  go_wp2_with fail
  refine (c_rs_next L E b p0 m0 flt0 _ (by omega) (HRd.out.below bel)).mono ?_
  rintro e w1 ⟨rfl, hb1⟩
  rw [<- HT0.out, <- HP0.out]
  have hR1 : RdAtS L E b p0 m0 flt0 w1 := HRd.out.below bel
  have hL1 : PBox b w w1 (.slice none 0 0) (.slice none 0 0) := ⟨(hb1.block _ (by simp; omega)).trans ((Below.heap_alloc _ _ _ (by simp)).trans (heap_at (by simp))), (hb1.block _ (by simp)).trans (heap_at (by simp)), Aside.of_below bel⟩
  have HL1 := hid hL1
  have HR1 := hid hR1
  obtain ⟨A, c, hbx, -, -⟩ := hR1
  unfold rdC at hbx
  obtain ⟨a0, a1, a2, a3, a4, a5, a6, af⟩ := row7r hbx
  have lb := row_lt hbx
  clear hL1 hb1 hbx
  go_upto_region 5 with fail
  obtain ⟨w2, hw2⟩ : ∃ W, W = w1.setCell ⟨b, 1, none⟩ (.int .i64 ((p0 : Int) + 1)) := ⟨_, rfl⟩
  have hA2 : Aside (fun q => q = b) w1 w2 := by rw [hw2]; exact aside_set rfl (Aside.refl _ _)
  have hR2 : RdAtS L E b (p0 + 1) m0 flt0 w2 := RdAtS.poke HR1.out hA2 (fun A c h => by rw [hw2]; unfold rdC at h ⊢; exact set7_1 h)
  rw [<- hw2]
  have HR2 := hid hR2
  have HL2 := hid (HL1.out.same hA2 (fun q hq => .inl hq) hlb)
  clear a0 a1 a2 a3 a4 a5 a6 af hw2 hA2 hR2
  obtain ⟨x0, x1, x2, x3, x4, x5, xf⟩ := row6 HL2.out.zero
  obtain ⟨y0, y1, y2, y3, y4, y5, yf⟩ := row6 HL2.out.map
  have l0 := row_lt HL2.out.zero
  have l1 := row_lt HL2.out.map
  go_wp2_with fail
  exact bodyPost_ret (v := .agg #[.int .i64 6, .bool false, .int .i64 0, .string ⟨#[]⟩, .slice none 0 0, .slice none 0 0]) (by simp only [results, Tryz.results142]; go_simp) rfl (ValE.good HQ.out (GoodM.finS hlb HL2.out (MapG.nil _ _ _ _) HR2.out asd))
 ·have HQ := hid (show r = readJ L E n (.pairs d [] []) p0 m0 by rw [HR.out]; exact if_neg hk4)
  have dt0 : (t0 == 2) = false := beq_eq_false_iff_ne.2 (fun h => hk4 (ht0.symm.trans h))
  clear hk4 ht0
  go_enter Tryz.func142, Tryz.ntmps142
  go_wp2_with fail
  refine (c_rs_next L E b p0 m0 flt0 _ (by omega) (HRd.out.below bel)).mono ?_
  rintro e w1 ⟨rfl, hb1⟩
  rw [<- HT0.out, <- HP0.out]
  have hR1 : RdAtS L E b p0 m0 flt0 w1 := HRd.out.below bel
  have hL1 : PBox b w w1 (.slice none 0 0) (.slice none 0 0) := ⟨(hb1.block _ (by simp; omega)).trans ((Below.heap_alloc _ _ _ (by simp)).trans (heap_at (by simp))), (hb1.block _ (by simp)).trans (heap_at (by simp)), Aside.of_below bel⟩
  have hG1 : GoodM (RdAtS L E b) b (9 - d) w [] [] p0 m0 w1 := ⟨_, _, _, _, hL1, MapG.nil _ _ _ _, hR1⟩
  have HG1 := hid hG1
  clear hR1 hL1 hG1 hb1
  go_wp2_with fail
  go_loopw [6, 7] (fun s6 s7 wr => (∃ z : Int, s6 = .int .i64 z) /\ (∃ z : Int, s7 = .int .i64 z) /\ PairsAtS L E (RdAtS L E b) b n d r w wr) (fun _ _ wr => rdM L.length b wr)
  case atStart => exact ⟨⟨_, rfl⟩, ⟨_, rfl⟩, [], [], p0, m0, n, HG1.out, hpl, hm, by simp, rfl, List.Pairwise.nil, HNe.out, Nat.le_refl _, HQ.out⟩
  case round =>
   obtain ⟨⟨z6, rfl⟩, ⟨z7, rfl⟩, hrel⟩ := hrel
   have HRel := hid hrel
   clear hrel HG1
   obtain ⟨ks, acc, p, m, k, hG, hp, hm3, hac, hac2, hso, hne, hkn, hrr⟩ := HRel.out
   clear HRel
   obtain ⟨vk, vl, ess, F, hLb, hmg, hRr⟩ := hG
   obtain ⟨KA, kc, rfl⟩ := own_form hmg.keys
   obtain ⟨VA, vc, rfl⟩ := own_form hmg.kids
   have HRr := hid hRr
   have HLb := hid hLb
   have HM := hid hmg
   have HSo := hid hso
   have HJ := hid hrr
   obtain ⟨k1, hk1⟩ : ∃ k1, k = k1 + 1 := by cases k with | zero => simp [needJ] at hne | succ k1 => exact ⟨k1, rfl⟩
   have hk1n : k1 < n := by omega
   have HJ2 := hid (show r = readJ L E (k1 + 1) (.pairs d ks acc) p m by rw [HJ.out, hk1])
   have HNl := hid (show 2 * (L.length - p) + 2 <= k1 + 1 by subst hk1; unfold needJ at hne; simp only at hne; exact hne)
   obtain ⟨dd, hdd⟩ : ∃ dd, dd = d + 1 := ⟨_, rfl⟩
   have hdd1 : 1 <= dd := by omega
   have hdd9 : dd <= 9 := by omega
   have hddI : (d : Int) + 1 = (dd : Int) := by omega
   have HDD := hid hdd
   have HAC := hid hac2
   obtain ⟨t, ht⟩ : ∃ t, t = kindAt L p := ⟨_, rfl⟩
   have HT := hid ht
   obtain ⟨pl, hpl1⟩ : ∃ z, z = placeAt L E p := ⟨_, rfl⟩
   have HP := hid hpl1
   obtain ⟨A, c, hbx, -, -⟩ := hRr
   unfold rdC at hbx
   obtain ⟨a0, a1, a2, a3, a4, a5, a6, af⟩ := row7r hbx
   have lb := row_lt hbx
   have a4' : wr.cell? ⟨b, 4, none⟩ = some (.int .i64 0) := a4
   clear hLb hmg hrr hk1 hne hbx a4 hso hkn hdd hac2 hpl1
   by_cases hkk : kindAt L p = 7
   ·obtain ⟨x, hx⟩ : ∃ x, L[p]? = some x := by
     rcases hx : L[p]? with _ | x
     ·rw [kindAt_none hx] at hkk; omega
     ·exact ⟨x, rfl⟩
    have hxk : x.kind = 7 := by rw [<- kindAt_some hx]; exact hkk
    have hpl2 : p < L.length := (List.getElem?_eq_some_iff.1 hx).1
    have hxt := HLs.out.text p x hx
    have HX := hid hx
    have HXk := hid hxk
    obtain ⟨key, hkey⟩ : ∃ key, key = x.text := ⟨_, rfl⟩
    have HKey := hid hkey
    rw [<- hkey] at hxt
    obtain rfl : t = 7 := ht.trans hkk
    clear hx hxk hkk hkey ht
    go_wp2_with fail
    refine (c_rs_next L E b p m flt0 _ (by omega) HRr.out).mono ?_
    rintro e w1 ⟨rfl, hb1⟩
    rw [<- HT.out, <- HP.out]
    have HR1 := hid (HRr.out.below hb1)
    have HL1 := hid (HLb.out.same (Aside.of_below (S := fun q => q = b) hb1) (fun q hq => .inl hq) hlb)
    have HM1 := hid (HM.out.carry hb1.size (fun q h1 h2 => hb1.block q h2))
    have hs1 := hb1.size
    clear a0 a1 a2 a3 a4' a5 a6 af hb1
    obtain ⟨A1, c1, hbx, hrow, -⟩ := HR1.out
    unfold rdC at hbx
    obtain ⟨a0, a1, a2, a3, a4, a5, a6, af⟩ := row7r hbx
    have lb1 := row_lt hbx
    obtain ⟨g, x', rfl, hx', hlc, lg, d0, d1, d2, d3⟩ := sign_row (p := p) hrow hpl2
    obtain rfl : x' = x := Option.some.inj (hx'.symm.trans HX.out)
    rw [<- HKey.out] at d1
    have hp0 : (0 : Int) <= p := by omega
    have hp1 : (p : Int) < L.length := by omega
    clear hbx hrow hx' d0 d2 d3
    go_wp2_with fail
    refine wp_region_det 11 (by kernel_rfl) (by kernel_rfl) (by decide) ?_
    iterate 3 refine ds ?_
    refine ds ?_
    iterate 3 refine ds ?_
    refine ds ?_
    iterate 2 refine ds ?_
    refine ds ?_
    intro wq hbwq
    (try simp only [Act.put, List.setIfInBounds_toArray, List.set_cons_zero, List.set_cons_succ])
    (try simp only [List.drop_succ_cons, List.drop_zero])
    have HRq := hid (HR1.out.below hbwq)
    have HLq := hid (HL1.out.same (Aside.of_below (S := fun q => q = b) hbwq) (fun q hq => .inl hq) hlb)
    have HMq := hid (HM1.out.carry hbwq.size (fun q h1 h2 => hbwq.block q h2))
    have hsq := hbwq.size
    clear a0 a1 a2 a3 a4 a5 a6 af d1 hbwq lg
    obtain ⟨y0, y1, y2, y3, y4, y5, yf⟩ := row6 HLq.out.map
    obtain ⟨x0, x1, x2, x3, x4, x5, xf⟩ := row6 HLq.out.zero
    have ly := row_lt HLq.out.map
    have lz := row_lt HLq.out.zero
    have hkz : key.size <= 9223372036854775807 := by omega
    by_cases hw4 : 400 < key.size
    ·have d8 : decide ((400 : Int) < key.size) = true := decide_eq_true (by omega)
     have HF := hid (show r = .bad (badF L E 8 p) from HJ2.out.trans (readP_wide HX.out HXk.out (by rw [<- HKey.out]; exact hw4)))
     clear hw4
     go_wp2_with fail
     refine (c_rs_bad_new L E 8 pl b p m flt0 _ HRq.out rfl).mono ?_
     rintro e w3 ⟨rfl, hR3, hA3⟩
     have HR3 := hid (show RdAtS L E b p m (badF L E 8 p) w3 by unfold badF; rw [<- HP.out]; exact hR3)
     have HL3 := hid (HLq.out.same hA3 (fun q hq => .inl hq) hlb)
     (try clear x0 x1 x2 x3 x4 x5 xf y0 y1 y2 y3 y4 y5 yf)
     obtain ⟨x0, x1, x2, x3, x4, x5, xf⟩ := row6 HL3.out.zero
     have l0 := row_lt HL3.out.zero
     clear hR3 hA3
     go_wp2_with fail
     exact bodyPost_ret (v := .agg #[.int .i64 0, .bool false, .int .i64 0, .string ⟨#[]⟩, .slice none 0 0, .slice none 0 0]) (by simp only [results, Tryz.results142]; go_simp) rfl (ValE.bad HF.out (BadM.finZ hlb HL3.out HR3.out (by omega) asd))
    ·have d8 : decide ((400 : Int) < key.size) = false := decide_eq_false (by omega)
     have HSz := hid (show ¬ 400 < x'.text.size by rw [<- HKey.out]; exact hw4)
     have HC := hid ((HMq.out.tree (wF := wq) (S := fun q => w.heap.size + 2 <= q /\ q < wq.heap.size) (fun _ _ _ => rfl) (fun b h1 h2 => ⟨h1, h2⟩)).toC (fun _ h => h))
     obtain ⟨kz, hkz⟩ : ∃ z, z = keyI (tMap ks acc) key := ⟨_, rfl⟩
     have HKz := hid hkz
     clear hw4 hkz
     go_wp2_with fail
     refine (c_spec_KeyAt _ (tMap ks acc) _ key _ _ HC.out).mono ?_
     rintro e w4 ⟨rfl, hb4⟩
     rw [<- HKz.out]
     have HR4 := hid (HRq.out.below hb4)
     have HL4 := hid (HLq.out.same (Aside.of_below (S := fun q => q = b) hb4) (fun q hq => .inl hq) hlb)
     have HM4 := hid (HMq.out.carry hb4.size (fun q h1 h2 => hb4.block q h2))
     have hs4 := hb4.size
     clear hb4 x0 x1 x2 x3 x4 x5 xf y0 y1 y2 y3 y4 y5 yf
     rcases hhas : hasS ks key with _ | _
     ·have HNo := hid hhas
      have HNc := hid (show ks.contains x'.text = false by rw [contains_hasS, <- HKey.out]; exact hhas)
      obtain rfl : kz = -1 := HKz.out.trans (key_no hhas)
      obtain ⟨A, c, hbx, -, -⟩ := HR4.out
      unfold rdC at hbx
      obtain ⟨a0, a1, a2, a3, a4, a5, a6, af⟩ := row7r hbx
      have lb4 := row_lt hbx
      clear hbx hhas
      go_upto_region 16 with fail
      obtain ⟨w5, hw5⟩ : ∃ W, W = w4.setCell ⟨b, 1, none⟩ (.int .i64 ((p : Int) + 1)) := ⟨_, rfl⟩
      have hA5 : Aside (fun q => q = b) w4 w5 := by rw [hw5]; exact aside_set rfl (Aside.refl _ _)
      have hR5 : RdAtS L E b (p + 1) m flt0 w5 := RdAtS.poke HR4.out hA5 (fun A c h => by rw [hw5]; unfold rdC at h ⊢; exact set7_1 h)
      rw [<- hw5]
      have HR5 := hid hR5
      have HL5 := hid (HL4.out.same hA5 (fun q hq => .inl hq) hlb)
      have HM5 := hid (HM4.out.carry hA5.size (fun q h1 h2 => hA5.block q h2 (by omega)))
      have hs5 := hA5.size
      clear a0 a1 a2 a3 a4 a5 a6 af hw5 hA5 hR5
      by_cases hk5 : kindAt L (p + 1) = 5
      ·have HK5 := hid hk5
       have hpl3 := kindAt_lt (L := L) (p := p + 1) (by omega)
       clear hk5
       go_wp2_with fail
       refine (c_rs_want_yes L E 5 b (p + 1) m flt0 _ (by omega) HR5.out HK5.out).mono ?_
       rintro e w6 ⟨rfl, hR6, hA6⟩
       have HR6 := hid (show RdAtS L E b (p + 2) m flt0 w6 from hR6)
       have HL6 := hid (HL5.out.same hA6 (fun q hq => .inl hq) hlb)
       have HM6 := hid (HM5.out.carry hA6.size (fun q h1 h2 => hA6.block q h2 (by omega)))
       have hs6 := hA6.size
       obtain ⟨A, c, hbx, -, -⟩ := HR6.out
       unfold rdC at hbx
       obtain ⟨a0, a1, a2, a3, a4, a5, a6, af⟩ := row7r hbx
       have lb6 := row_lt hbx
       have a4' : w6.cell? ⟨b, 4, none⟩ = some (.int .i64 0) := a4
       have hne2 : needJ L (p + 2) (.value dd) <= k1 := by have := HNl.out; unfold needJ; simp only; omega
       have hgood := readJ_good L E k1 (.value dd) (p + 2) m (by omega) hm3 hne2
       have HNe2 := hid hne2
       have hiks := posK_le ks key
       have hp2 : p + 2 <= L.length := by omega
       obtain ⟨i, hi⟩ : ∃ i, i = posK ks key := ⟨_, rfl⟩
       have HI := hid hi
       rw [<- hi] at hiks
       clear hne2 hi hR6 hA6 hbx a4
       go_wp2_with fail
       refine (Hv.out k1 hk1n dd (p + 2) m _ hdd1 hdd9 hp2 hm3 HNe2.out HR6.out).mono ?_
       intro e w7 hv7
       rcases hq : readJ L E k1 (.value dd) (p + 2) m with f | ⟨t7, q, m'⟩
       ·have hf0 : f.code ≠ 0 := by rw [hq] at hgood; exact hgood
        obtain ⟨u0, u1, u2, u3, U4, u4, u44, U5, u5, u55, p7, m7, rfl, hR7, hp7, hA7⟩ := ValE.isBad hq hv7
        have HJ6 := hid (show r = .bad f from HJ2.out.trans (readP_bad HX.out HXk.out HSz.out HNc.out HK5.out (by rw [<- HDD.out]; exact hq)))
        have HR7 := hid hR7
        have HL7 := hid (HL6.out.same hA7 (fun q hq => .inl hq) hlb)
        clear hq hgood hv7 a0 a1 a2 a3 a4' a5 a6 af
        obtain ⟨z, hz⟩ : ∃ z, z = f.code := ⟨_, rfl⟩
        have hf1 := hf0
        rw [<- hz] at hf1
        have dz : (z != 0) = true := bne_iff_ne.2 hf1
        obtain ⟨A, c, hbx, -, -⟩ := HR7.out
        unfold rdC at hbx
        obtain ⟨a0, a1, a2, a3, a4, a5, a6, af⟩ := row7r hbx
        have lb7 := row_lt hbx
        rw [<- hz] at a4
        obtain ⟨x0, x1, x2, x3, x4, x5, xf⟩ := row6 HL7.out.zero
        obtain ⟨y0, y1, y2, y3, y4, y5, yf⟩ := row6 HL7.out.map
        have l0 := row_lt HL7.out.zero
        have l1 := row_lt HL7.out.map
        clear hR7 hA7 hbx hz hf1 hf0
        go_wp2_with fail
        exact bodyPost_ret (v := .agg #[.int .i64 6, .bool false, .int .i64 0, .string ⟨#[]⟩, .slice KA ks.length kc, .slice VA acc.length vc]) (by simp only [results, Tryz.results142]; go_simp) rfl (ValE.bad HJ6.out (BadM.finS hlb HL7.out HR7.out hp7 asd))
       ·rw [hq] at hgood
        obtain ⟨hg1, hg2, hg3⟩ := hgood
        obtain ⟨cs7, rfl, hO7, hR7, hA7⟩ := ValE.isGood hq hv7
        have HO7 := hid hO7
        obtain ⟨U4, u44, U5, u55, rfl, -⟩ := hO7.flat
        have HJ6 := hid (show r = if kindAt L q = 2 then .good (tMap (insL ks i key) (insL acc i t7)) (q + 1) m' else if kindAt L q = 6 then readJ L E k1 (.pairs d (insL ks i key) (insL acc i t7)) (q + 1) m' else .bad (badF L E 4 q) by rw [HJ2.out, readP_good HX.out HXk.out HSz.out HNc.out HK5.out (by rw [<- HDD.out]; exact hq), HI.out, HKey.out])
        have HR7 := hid hR7
        have HL7 := hid (HL6.out.same hA7 (fun q hq => .inl hq) hlb)
        have HM7 := hid (HM6.out.carry (Nat.le_refl _) (fun q h1 h2 => hA7.block q h2 (by omega)))
        have hs7 := hA7.size
        clear hq hv7 a0 a1 a2 a3 a4' a5 a6 af hO7 hR7 hA7
        obtain ⟨A, c, hbx, -, -⟩ := HR7.out
        unfold rdC at hbx
        obtain ⟨a0, a1, a2, a3, a4, a5, a6, af⟩ := row7r hbx
        have lb7 := row_lt hbx
        have a4' : w7.cell? ⟨b, 4, none⟩ = some (.int .i64 0) := a4
        clear hbx a4
        go_upto_region 22 with fail
        obtain ⟨w8, hw8⟩ : ∃ W, W = w7.alloc (.cells #[.int .i64 t7.kind, .bool t7.flag, .int .i64 t7.num, .string t7.text, .slice U4 t7.keys.length u44, .slice U5 t7.kids.length u55] 34) := ⟨_, rfl⟩
        have hb8 : Below w7.heap.size w7 w8 := by rw [hw8]; exact bel
        have X8 : w8.heap[w7.heap.size]? = some (.cells #[.int .i64 t7.kind, .bool t7.flag, .int .i64 t7.num, .string t7.text, .slice U4 t7.keys.length u44, .slice U5 t7.kids.length u55] 34 (0, 0)) := by rw [hw8]; exact heap_at rfl
        rw [<- hw8]
        have HL8 := hid (HL7.out.same (Aside.of_below (S := fun q => q = b) hb8) (fun q hq => .inl hq) hlb)
        have HR8 := hid (HR7.out.below hb8)
        have HM8 := hid (HM7.out.carry (Nat.le_refl _) (fun q h1 h2 => hb8.block q (by omega)))
        have HO8 := hid (HO7.out.carry (fun x hx => hb8.block x hx.2) (fun x hx => hx))
        have hs8 := hb8.size
        clear a0 a1 a2 a3 a4' a5 a6 af hw8 hb8
        obtain ⟨v0, v1, v2, v3, v4, v5, vf⟩ := row6 X8
        obtain ⟨y0, y1, y2, y3, y4, y5, yf⟩ := row6 HL8.out.map
        have ly8 := row_lt HL8.out.map
        have lx8 := row_lt X8
        have hlac : ks.length <= 1048576 := by omega
        clear X8
        go_wp2_with fail
        refine (c_layG (i := i) HM8.out.rows (HM8.out.len.trans HAC.out) HM8.out.size hlac HI.out HSo.out).mono ?_
        rintro e w9 ⟨vk', vl', rfl, hM9, hb9⟩
        have HMG := hid (MapG.fresh (i := i) HM8.out (by omega) (by omega) (by have := HAC.out; omega) (HO8.out.up (show 10 - dd <= 9 - d by have := HDD.out; omega)) (fun x hx => ⟨hx.1, by have := hx.2; omega⟩) (by omega) hb9 hM9)
        have HL9 := hid (HL8.out.same (Aside.of_below (S := fun q => q = b) hb9) (fun q hq => .inl hq) hlb)
        have HR9 := hid (HR8.out.below hb9)
        obtain ⟨K9, k9, rfl⟩ := own_form hM9.keys
        obtain ⟨V9, v9, rfl⟩ := own_form hM9.kids
        have hlk9 : (insL ks i key).length = ks.length + 1 := ins_len hiks
        have hlv9 : (insL ess i [Value.int .i64 t7.kind, .bool t7.flag, .int .i64 t7.num, .string t7.text, .slice U4 t7.keys.length u44, .slice U5 t7.kids.length u55]).length = ks.length + 1 := by rw [ins_len (by rw [HM8.out.len, HAC.out]; exact hiks), HM8.out.len, HAC.out]
        have hla9 : (insL acc i t7).length = ks.length + 1 := by rw [ins_len (by rw [HAC.out]; exact hiks), HAC.out]
        rw [hlk9, hlv9]
        rw [hlk9, hlv9] at HMG
        have HSN := hid (show SortK (insL ks i key) by rw [HI.out]; exact ins_sorted HSo.out HNo.out)
        have HKN := hid (And.intro hlk9 hla9)
        have hs9 := hb9.size
        clear v0 v1 v2 v3 v4 v5 vf y0 y1 y2 y3 y4 y5 yf hlk9 hlv9 hla9 hM9 hb9
        obtain ⟨y0, y1, y2, y3, y4, y5, yf⟩ := row6 HL9.out.map
        have ly9 := row_lt HL9.out.map
        go_upto_region 23 with fail
        obtain ⟨w10, hw10⟩ : ∃ W, W = (((((w9.setCell ⟨w.heap.size + 1, 0, none⟩ (.int .i64 6)).setCell ⟨w.heap.size + 1, 1, none⟩ (.bool false)).setCell ⟨w.heap.size + 1, 2, none⟩ (.int .i64 0)).setCell ⟨w.heap.size + 1, 3, none⟩ (.string ⟨#[]⟩)).setCell ⟨w.heap.size + 1, 4, none⟩ (.slice K9 (ks.length + 1) k9)).setCell ⟨w.heap.size + 1, 5, none⟩ (.slice V9 (ks.length + 1) v9) := ⟨_, rfl⟩
        rw [<- hw10]
        have hA10 : Aside (fun q => q = w.heap.size + 1) w9 w10 := by rw [hw10]; exact aside_set rfl (aside_set rfl (aside_set rfl (aside_set rfl (aside_set rfl (aside_set rfl (Aside.refl _ _))))))
        have HL10 := hid (show PBox b w w10 (.slice K9 (ks.length + 1) k9) (.slice V9 (ks.length + 1) v9) by rw [hw10]; exact HL9.out.all)
        have HR10 := hid (HR9.out.past hA10 (fun q hq => by omega))
        have HM10 := hid (HMG.out.carry hA10.size (fun x h1 h2 => hA10.block x h2 (by omega)))
        obtain ⟨t2, ht2⟩ : ∃ z, z = kindAt L q := ⟨_, rfl⟩
        have HT2 := hid ht2
        obtain ⟨pl2, hpl2⟩ : ∃ z, z = placeAt L E q := ⟨_, rfl⟩
        have HP2 := hid hpl2
        clear y0 y1 y2 y3 y4 y5 yf hw10 hA10 hpl2
        go_wp2_with fail
        refine (c_rs_next L E b q m' flt0 _ (by omega) HR10.out).mono ?_
        rintro e w11 ⟨rfl, hb11⟩
        rw [<- HT2.out, <- HP2.out]
        have HR11 := hid (HR10.out.below hb11)
        have HL11 := hid (HL10.out.same (Aside.of_below (S := fun q => q = b) hb11) (fun q hq => .inl hq) hlb)
        have HM11 := hid (HM10.out.carry hb11.size (fun x h1 h2 => hb11.block x h2))
        clear hb11
        by_cases hk6 : kindAt L q = 6
        ·have HF := hid (show r = readJ L E k1 (.pairs d (insL ks i key) (insL acc i t7)) (q + 1) m' by rw [HJ6.out, if_neg (by omega), if_pos hk6])
         have hql := kindAt_lt (L := L) (p := q) (by omega)
         have HNx := hid (show needJ L (q + 1) (.pairs d (insL ks i key) (insL acc i t7)) <= k1 by have := HNl.out; unfold needJ; simp only; omega)
         obtain rfl : t2 = 6 := ht2.trans hk6
         clear hk6 ht2
         obtain ⟨A, c, hbx, -, -⟩ := HR11.out
         unfold rdC at hbx
         obtain ⟨a0, a1, a2, a3, a4, a5, a6, af⟩ := row7r hbx
         have lb11 := row_lt hbx
         clear hbx
         go_upto_region 25 with fail
         obtain ⟨w12, hw12⟩ : ∃ W, W = w11.setCell ⟨b, 1, none⟩ (.int .i64 ((q : Int) + 1)) := ⟨_, rfl⟩
         have hA12 : Aside (fun q => q = b) w11 w12 := by rw [hw12]; exact aside_set rfl (Aside.refl _ _)
         have hR12 : RdAtS L E b (q + 1) m' flt0 w12 := RdAtS.poke HR11.out hA12 (fun A c h => by rw [hw12]; unfold rdC at h ⊢; exact set7_1 h)
         go_wp2_with fail
         go_roundw
         case rel => rw [<- hw12]; exact ⟨⟨_, rfl⟩, ⟨_, rfl⟩, insL ks i key, insL acc i t7, q + 1, m', k1, ⟨_, _, _, _, HL11.out.same hA12 (fun q hq => .inl hq) hlb, HM11.out.carry hA12.size (fun x h1 h2 => hA12.block x h2 (by omega)), hR12⟩, by omega, hg3, by rw [HKN.out.1]; omega, by rw [HKN.out.1, HKN.out.2], HSN.out, HNx.out, by omega, HF.out⟩
         case measure => rw [<- hw12, hR12.meas, HRr.out.meas, if_pos (show flt0.code = 0 from rfl), if_pos (show flt0.code = 0 from rfl)]; omega
        ·have d6 : (t2 != 6) = true := bne_iff_ne.2 (fun h => hk6 (ht2.symm.trans h))
         by_cases hk2 : kindAt L q = 2
         ·have HF := hid (show r = .good (tMap (insL ks i key) (insL acc i t7)) (q + 1) m' by rw [HJ6.out, if_pos hk2])
          have HK2 := hid hk2
          clear hk2 hk6 ht2
          go_wp2_with fail
          refine (c_rs_want_yes L E 2 b q m' flt0 _ (by omega) HR11.out HK2.out).mono ?_
          rintro e w12 ⟨rfl, hR12, hA12⟩
          have HL12 := hid (HL11.out.same hA12 (fun q hq => .inl hq) hlb)
          have HR12 := hid hR12
          have HM12 := hid (HM11.out.carry hA12.size (fun x h1 h2 => hA12.block x h2 (by omega)))
          obtain ⟨x0, x1, x2, x3, x4, x5, xf⟩ := row6 HL12.out.zero
          obtain ⟨y0, y1, y2, y3, y4, y5, yf⟩ := row6 HL12.out.map
          have l0 := row_lt HL12.out.zero
          have l1 := row_lt HL12.out.map
          clear hR12 hA12
          go_wp2_with fail
          exact bodyPost_ret (v := .agg #[.int .i64 6, .bool false, .int .i64 0, .string ⟨#[]⟩, .slice K9 (ks.length + 1) k9, .slice V9 (ks.length + 1) v9]) (by simp only [results, Tryz.results142]; go_simp) rfl (ValE.good HF.out (GoodM.finS (nT := nd) hlb HL12.out (HN9.out ▸ HM12.out) HR12.out asd))
         ·have HF := hid (show r = .bad (badF L E 4 q) by rw [HJ6.out, if_neg hk2, if_neg hk6])
          have HK2 := hid hk2
          clear hk2 hk6 ht2
          go_wp2_with fail
          refine (c_rs_want_no L E 2 b q m' flt0 _ (by omega) HR11.out rfl HK2.out).mono ?_
          rintro e w12 ⟨rfl, hR12, hA12⟩
          have HL12 := hid (HL11.out.same hA12 (fun q hq => .inl hq) hlb)
          have HR12 := hid hR12
          obtain ⟨x0, x1, x2, x3, x4, x5, xf⟩ := row6 HL12.out.zero
          obtain ⟨y0, y1, y2, y3, y4, y5, yf⟩ := row6 HL12.out.map
          have l0 := row_lt HL12.out.zero
          have l1 := row_lt HL12.out.map
          clear hR12 hA12
          go_wp2_with fail
          exact bodyPost_ret (v := .agg #[.int .i64 6, .bool false, .int .i64 0, .string ⟨#[]⟩, .slice K9 (ks.length + 1) k9, .slice V9 (ks.length + 1) v9]) (by simp only [results, Tryz.results142]; go_simp) rfl (ValE.bad HF.out (BadM.finS hlb HL12.out HR12.out hg2 asd))
      ·have HK5 := hid hk5
       have HF := hid (show r = .bad (badF L E 4 (p + 1)) from HJ2.out.trans (readP_colon HX.out HXk.out HSz.out HNc.out hk5))
       clear hk5
       go_wp2_with fail
       refine (c_rs_want_no L E 5 b (p + 1) m flt0 _ (by omega) HR5.out rfl HK5.out).mono ?_
       rintro e w6 ⟨rfl, hR6, hA6⟩
       have HR6 := hid hR6
       have HL6 := hid (HL5.out.same hA6 (fun q hq => .inl hq) hlb)
       obtain ⟨A, c, hbx, -, -⟩ := HR6.out
       unfold rdC at hbx
       obtain ⟨a0, a1, a2, a3, a4, a5, a6, af⟩ := row7r hbx
       have lb6 := row_lt hbx
       have a4' : w6.cell? ⟨b, 4, none⟩ = some (.int .i64 4) := a4
       obtain ⟨x0, x1, x2, x3, x4, x5, xf⟩ := row6 HL6.out.zero
       obtain ⟨y0, y1, y2, y3, y4, y5, yf⟩ := row6 HL6.out.map
       have l0 := row_lt HL6.out.zero
       have l1 := row_lt HL6.out.map
       clear hR6 hA6 hbx a4
       go_wp2_with fail
       exact bodyPost_ret (v := .agg #[.int .i64 6, .bool false, .int .i64 0, .string ⟨#[]⟩, .slice KA ks.length kc, .slice VA acc.length vc]) (by simp only [results, Tryz.results142]; go_simp) rfl (ValE.bad HF.out (BadM.finS hlb HL6.out HR6.out (by omega) asd))
     ·have HF := hid (show r = .bad (badF L E 5 p) from HJ2.out.trans (readP_twice HX.out HXk.out HSz.out (by rw [contains_hasS, <- HKey.out]; exact hhas)))
      obtain ⟨kn, hkn⟩ := key_yes (l := acc) hhas
      obtain rfl : kz = (kn : Int) := HKz.out.trans hkn
      have dk : decide ((0 : Int) <= kn) = true := decide_eq_true (by omega)
      clear hkn hhas
      go_wp2_with fail
      refine (c_rs_bad_new L E 5 pl b p m flt0 _ HR4.out rfl).mono ?_
      rintro e w3 ⟨rfl, hR3, hA3⟩
      have HR3 := hid (show RdAtS L E b p m (badF L E 5 p) w3 by unfold badF; rw [<- HP.out]; exact hR3)
      have HL3 := hid (HL4.out.same hA3 (fun q hq => .inl hq) hlb)
      (try clear x0 x1 x2 x3 x4 x5 xf y0 y1 y2 y3 y4 y5 yf)
      obtain ⟨x0, x1, x2, x3, x4, x5, xf⟩ := row6 HL3.out.zero
      have l0 := row_lt HL3.out.zero
      clear hR3 hA3
      go_wp2_with fail
      exact bodyPost_ret (v := .agg #[.int .i64 0, .bool false, .int .i64 0, .string ⟨#[]⟩, .slice none 0 0, .slice none 0 0]) (by simp only [results, Tryz.results142]; go_simp) rfl (ValE.bad HF.out (BadM.finZ hlb HL3.out HR3.out (by omega) asd))
   ·have HF := hid (show r = .bad (badF L E 4 p) from HJ2.out.trans (readP_kind hkk))
    have dt : (t != 7) = true := bne_iff_ne.2 (fun h => hkk (ht.symm.trans h))
    clear hkk ht
    go_wp2_with fail
    refine (c_rs_next L E b p m flt0 _ (by omega) HRr.out).mono ?_
    rintro e w1 ⟨rfl, hb1⟩
    rw [<- HT.out, <- HP.out]
    have HR1 := hid (HRr.out.below hb1)
    have HL1 := hid (HLb.out.same (Aside.of_below (S := fun q => q = b) hb1) (fun q hq => .inl hq) hlb)
    clear a0 a1 a2 a3 a4' a5 a6 af hb1
    go_wp2_with fail
    refine (c_rs_bad_new L E 4 pl b p m flt0 _ HR1.out rfl).mono ?_
    rintro e w3 ⟨rfl, hR3, hA3⟩
    have HR3 := hid (show RdAtS L E b p m (badF L E 4 p) w3 by unfold badF; rw [<- HP.out]; exact hR3)
    have HL3 := hid (HL1.out.same hA3 (fun q hq => .inl hq) hlb)
    (try clear x0 x1 x2 x3 x4 x5 xf y0 y1 y2 y3 y4 y5 yf)
    obtain ⟨x0, x1, x2, x3, x4, x5, xf⟩ := row6 HL3.out.zero
    have l0 := row_lt HL3.out.zero
    clear hR3 hA3
    go_wp2_with fail
    exact bodyPost_ret (v := .agg #[.int .i64 0, .bool false, .int .i64 0, .string ⟨#[]⟩, .slice none 0 0, .slice none 0 0]) (by simp only [results, Tryz.results142]; go_simp) rfl (ValE.bad HF.out (BadM.finZ hlb HL3.out HR3.out (by omega) asd))
end Go.Proofs.YtohcpifekcehjaaGreatDoor
