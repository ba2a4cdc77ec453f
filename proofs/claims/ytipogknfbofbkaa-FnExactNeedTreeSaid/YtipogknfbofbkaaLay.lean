/- Contract of the reference's l10Lay where the key is behind all others: a map of blocks of its own. No conditions. -/
import Derived.Test.YtipogknfbofbkaaLeaf
import Derived.Test.YtipogknfbofbkaaL08
import Derived.Test.YtipogknfbofbkaaCmp
namespace Go.Proofs.Ytipogknfbofbkaa
open Go.RowKit

/-- Two values hold the keys ks and the kids whose cells are css, in rows of the call's own behind block base. -/
structure MapRows (base : Nat) (w : World) (ks : List ByteArray) (css : List (List Value)) (vk vl : Value) : Prop where
  keys : w.ownsRow base 9 1 vk ks.length (ks.map Value.string)
  kids : w.ownsRow base 40 6 vl css.length css.flatten
  six : ∀ es ∈ css, es.length = 6
  one : ∀ x ∈ css.flatten, x.oneCell' = true
theorem own_strs {w : World} {base : Nat} {ks : List ByteArray} {v : Value} (h : w.ownsRow base 9 1 v ks.length (ks.map Value.string)) (hs : ∀ k ∈ ks, k.size ≤ 9223372036854775807) : Sl_Str base w.heap.size w ks v := by
  rcases h.2 with ⟨rfl, h0⟩ | ⟨g, cap, cur, rfl, hb, hg, hn, hcm, hcs, ht⟩
  · exact ⟨none, 0, by rw [h0], by omega, by omega, fun hp => by omega⟩
  · refine ⟨_, _, rfl, hn, hcm, fun hp => ⟨g, 0, rfl, hb, row_lt hg, ?_⟩⟩
    intro i s hi
    have hil := List.getElem?_eq_some_iff.1 hi
    refine ⟨[.string s], rfl, ?_, ?_⟩
    · intro j hj
      obtain rfl : j = 0 := by omega
      have : (cur.toList.take (ks.length * 1))[i]? = (ks.map Value.string)[i]? := by rw [ht]
      rw [List.getElem?_take, if_pos (by have := hil.1; omega), Array.getElem?_toList, List.getElem?_map, hi] at this
      rw [cell_of_row w g _ cur _ _ hg]
      simpa using this
    · exact ⟨rfl, hs s (List.mem_of_getElem? hi)⟩
/-- A row that is owned, read as cells to be appended. -/
theorem own_news {w : World} {base : Nat} {e : TypeId} {size : Nat} {g m cap : Nat} {news : List Value} (h : w.ownsRow base e size (.slice (some ⟨g, 0, none⟩) m cap) m news) : ∀ j u, news[j]? = some u → w.cell? ((⟨g, 0, none⟩ : Addr).add j) = some u := by
  obtain ⟨cur, hg, hn, hcm, hcs, ht, hb⟩ := own_row h
  intro j u hu
  have hadd : (⟨g, 0, none⟩ : Addr).add j = ⟨g, j, none⟩ := by unfold Addr.add; split <;> simp_all
  rw [hadd, cell_of_row w g j cur _ _ hg]
  rw [← ht, List.getElem?_take] at hu
  split at hu
  · simpa using hu
  · cases hu
/-- Appending a row that is owned, empty or not. -/
theorem run_append_row {P : Program} (w : World) (t ty : TypeId) (base : Nat) (e : TypeId) (i : TypeInfo) (z : Value) (size bytes : Nat) (ht : P.underlying t = some (.slice e)) (hi : P.info? e = some i) (hz : i.zero = some z)
    (hsize : i.size = size) (hby : i.bytes = bytes) (hzs : z.cells.size = size) (hsz : 0 < size) (v : Value) (n : Nat) (xs : List Value) (hown : w.ownsRow base e size v n xs)
    (base' m : Nat) (news : List Value) (u : Value) (hu : w.ownsRow base' e size u m news) (h1 : ∀ x ∈ news, x.oneCell' = true) (h63 : n + m ≤ maxLen) (hbytes : (n + m) * bytes ≤ 140737488355328) (hbase : base ≤ w.heap.size) :
    ∃ v' w', (Builtin.append_ #[t, t] ty #[v, u]).run P w = .ok v' w' ∧ w'.ownsRow base e size v' (n + m) (xs ++ news) ∧ w.grownBy w' v.ownBlock ∧ (v'.ownBlock = v.ownBlock ∨ v'.ownBlock = some w.heap.size) := by
  rcases hu.2 with ⟨rfl, rfl⟩ | ⟨g, cap, cur, rfl, -⟩
  · have hx : news = [] := List.eq_nil_of_length_eq_zero (by have := hu.1; omega)
    subst hx
    exact ⟨v, w, run_append_none w t ty base e i size ht hi v n xs hown 0, by simpa using hown, World.grownBy.refl _ _, .inl rfl⟩
  · obtain ⟨v', w', hr, h2, h3, _, h5⟩ := run_append_own_at (P := P) w base t ty e i z size bytes ht hi hz hsize hby hzs hsz v n xs hown ⟨g, 0, none⟩ m cap news hu.1 (own_news hu) h1 h63 hbytes hbase
    exact ⟨v', w', hr, h2, h3, h5⟩
/-- Appending nothing. -/
theorem run_append_zero {P : Program} (w : World) (t ty : TypeId) (e : TypeId) (i : TypeInfo) (ht : P.underlying t = some (.slice e)) (hi : P.info? e = some i) (ad : Addr) (n cap : Nat) (hn : n ≤ cap) (A : Option Addr) (c : Nat) :
    (Builtin.append_ #[t, t] ty #[.slice (some ad) n cap, .slice A 0 c]).run P w = .ok (.slice (some ad) n cap) w := by
  rcases A with _ | a
  · simp [Builtin.append_, run_underlying ht, sizeOf, typeInfo, hi, Builtin.lenOf, Builtin.firstCells, loadCells, storeCells, hn]
  · simp [Builtin.append_, run_underlying ht, sizeOf, typeInfo, hi, Builtin.lenOf, Builtin.firstCells, loadCells, loadCellsFrom, storeCells, hn]
theorem step_append_of {P : Program} {w : World} {ops : Array Oper} {o : Oper} {a : Act} {K : Act → World → Prop} {Q : Exit → Act → World → Prop} {E : Prop} (hgd : o.guard = none) (s x : Operand) (t : TypeId)
    (ho : o.op = .call { callee := .builtin .append, args := #[s, x], argTypes := #[t, t] }) (v u v' : Value) (w' : World) (hs : a.eval s = v) (hx : a.eval x = u)
    (hr : (Builtin.append_ #[t, t] o.type #[v, u]).run P w = .ok v' w') (h : K (a.put o.dst v') w') : if Region.wanted o (yielded ops a.tmps) = true then Oper.wp P o a w K Q else E := by
  have hw : Region.wanted o (yielded ops a.tmps) = true := by simp [Region.wanted, hgd]
  rw [if_pos hw]
  unfold Oper.wp execOp
  simp only [ho, resolve, invoke, builtin, Sem.run_bind, Sem.run_pure, Result.andThen_ok, List.map_toArray, List.map_cons, List.map_nil, hs, hx, hr]
  exact h
theorem own_eq {w w' : World} {base : Nat} {e : TypeId} {size : Nat} {v : Value} {n : Nat} {xs : List Value} (h : w.ownsRow base e size v n xs) (he : w'.heap = w.heap) : w'.ownsRow base e size v n xs := ownsRow_carry h (fun q _ => by rw [he])
theorem own_cap {w : World} {base : Nat} {e : TypeId} {size n c : Nat} {A : Option Addr} {xs : List Value} (h : w.ownsRow base e size (.slice A n c) n xs) : n ≤ c := by
  rcases h.2 with ⟨h1, rfl⟩ | ⟨g, cap, cur, h1, hb, hg, hn, hcm, hcs, ht⟩
  · omega
  · simp only [Value.slice.injEq] at h1
    obtain ⟨-, -, rfl⟩ := h1
    exact hn
theorem step_append_row {P : Program} {w : World} {ops : Array Oper} {o : Oper} {a : Act} {K : Act → World → Prop} {Q : Exit → Act → World → Prop} {E : Prop} (hgd : o.guard = none) (s x : Operand) (t : TypeId)
    (ho : o.op = .call { callee := .builtin .append, args := #[s, x], argTypes := #[t, t] }) (base : Nat) (e : TypeId) (i : TypeInfo) (z : Value) (size bytes : Nat) (ht : P.underlying t = some (.slice e)) (hi : P.info? e = some i) (hz : i.zero = some z)
    (hsize : i.size = size) (hby : i.bytes = bytes) (hzs : z.cells.size = size) (hsz : 0 < size) (v : Value) (n : Nat) (xs : List Value) (hs : a.eval s = v) (hown : w.ownsRow base e size v n xs)
    (base' m : Nat) (news : List Value) (u : Value) (hx : a.eval x = u) (hu : w.ownsRow base' e size u m news) (h1 : ∀ x ∈ news, x.oneCell' = true) (h63 : n + m ≤ maxLen) (hbytes : (n + m) * bytes ≤ 140737488355328) (hbase : base ≤ w.heap.size)
    (h : ∀ v' w', w'.ownsRow base e size v' (n + m) (xs ++ news) → w.grownBy w' v.ownBlock → (v'.ownBlock = v.ownBlock ∨ v'.ownBlock = some w.heap.size) → K (a.put o.dst v') w') :
    if Region.wanted o (yielded ops a.tmps) = true then Oper.wp P o a w K Q else E := by
  obtain ⟨v', w', hr, h2, h3, h4⟩ := run_append_row (P := P) w t o.type base e i z size bytes ht hi hz hsize hby hzs hsz v n xs hown base' m news u hu h1 h63 hbytes hbase
  exact step_append_of hgd s x t ho v u v' w' hs hx hr (h v' w' h2 h3 h4)
theorem own_less {w : World} {base base' : Nat} {e : TypeId} {size : Nat} {v : Value} {n : Nat} {xs : List Value} (h : w.ownsRow base e size v n xs) (hb : base' ≤ base) : w.ownsRow base' e size v n xs := by
  refine ⟨h.1, ?_⟩
  rcases h.2 with h0 | ⟨g, cap, cur, h1, h2, h3⟩
  · exact .inl h0
  · exact .inr ⟨g, cap, cur, h1, Nat.le_trans hb h2, h3⟩
theorem lay_fin {g g5 cap cap5 B : Nat} {w w4 wF : World} {ks : List ByteArray} {vs : List (List Value)} {key : ByteArray} {kc : List Value} {k0 m0 : Int} {f0 : Bool} {t0 : ByteArray} (hlen : vs.length = ks.length) (h6 : ∀ es ∈ vs, es.length = 6) (h1 : ∀ x ∈ vs.flatten, x.oneCell' = true) (hk6 : kc.length = 6) (hk1 : ∀ x ∈ kc, x.oneCell' = true)
    (hw4 : Below w.heap.size w w4) (hF : Aside (fun b => b = w.heap.size ∨ b = w.heap.size + 1 + 1) w4 wF) (hB : w.heap.size + 1 + 1 < B) (hgB : B ≤ g)
    (KK : w4.ownsRow w.heap.size 9 1 (.slice (some ⟨g, 0, none⟩) (ks.length + 1) cap) (ks.length + 1) (ks.map Value.string ++ [.string key]))
    (KV : w4.ownsRow B 40 6 (.slice (some ⟨g5, 0, none⟩) (ks.length + 1) cap5) (ks.length + 1) (vs.flatten ++ kc)) :
    ∃ vk' vl', Ending.returned (.agg #[.int .i64 k0, .bool f0, .int .i64 m0, .string t0, .slice (some ⟨g, 0, none⟩) (ks.length + 1) cap, .slice (some ⟨g5, 0, none⟩) (ks.length + 1) cap5]) = Ending.returned (.agg #[.int .i64 k0, .bool f0, .int .i64 m0, .string t0, vk', vl']) ∧ MapRows w.heap.size wF (ks ++ [key]) (vs ++ [kc]) vk' vl' ∧ Below w.heap.size w wF := by
  refine ⟨_, _, rfl, ⟨?_, ?_, six_push h6 hk6, ?_⟩, hw4.trans (hF.below hw4.size (fun i hi => by omega))⟩
  · have := ownsRow_carry KK (fun q hq => by
      simp [Value.ownBlock] at hq
      subst hq
      exact hF.block g (KK.lt g rfl).2 (by omega))
    simpa using this
  · have := ownsRow_carry (own_less KV (show w.heap.size ≤ B by omega)) (fun q hq => by
      have h3 := KV.lt q hq
      exact hF.block q h3.2 (by omega))
    simp only [List.flatten_append, List.length_append, List.flatten_cons, List.flatten_nil, List.append_nil, List.length_cons, List.length_nil, hlen]
    exact this
  · intro x hx
    simp only [List.flatten_append, List.flatten_cons, List.flatten_nil, List.append_nil, List.mem_append] at hx
    rcases hx with hx | hx
    · exact h1 x hx
    · exact hk1 x hx
set_option maxHeartbeats 10000000 in
set_option maxRecDepth 10000 in
theorem c_lay (ks : List ByteArray) (vs : List (List Value)) (key t : ByteArray) (k0 m0 k m : Int) (f0 f : Bool) (t0 : ByteArray) (B4 B5 : Option Addr) (n4 d4 n5 d5 : Nat) (vk vl : Value) (base : Nat) (w : World) (h : MapRows base w ks vs vk vl) (hlen : vs.length = ks.length) (hks : ∀ x ∈ ks, x.size ≤ 9223372036854775807) (hlt : ∀ x ∈ ks, lessS x key = true) (hk : ks.length ≤ 1048576) :
    Calls Try.prog 135 #[.agg #[.int .i64 k0, .bool f0, .int .i64 m0, .string t0, vk, vl], .string key, .agg #[.int .i64 k, .bool f, .int .i64 m, .string t, .slice B4 n4 d4, .slice B5 n5 d5]] w fun e w' => ∃ vk' vl', e = .returned (.agg #[.int .i64 k0, .bool f0, .int .i64 m0, .string t0, vk', vl']) ∧ MapRows w.heap.size w' (ks ++ [key]) (vs ++ [[.int .i64 k, .bool f, .int .i64 m, .string t, .slice B4 n4 d4, .slice B5 n5 d5]]) vk' vl' ∧ Below w.heap.size w w' := by
  obtain ⟨i0, hi, hz0, hz1, hz2⟩ := info_parts (show (Try.prog.info? 40).map (fun i => (i.zero, i.size, i.bytes)) = some (some (.agg #[.int .i64 0, .bool false, .int .i64 0, .string ⟨#[]⟩, .slice none 0 0, .slice none 0 0]), 6, 88) from by kernel_rfl)
  obtain ⟨j0, gi, gz0, gz1, gz2⟩ := info_parts (show (Try.prog.info? 9).map (fun i => (i.zero, i.size, i.bytes)) = some (some (.string ⟨#[]⟩), 1, 16) from by kernel_rfl)
  obtain ⟨hkeys, hkids, h6, h1⟩ := h
  rw [hlen] at hkids
  have hS := own_strs hkeys hks
  obtain ⟨A4, c4, rfl⟩ := own_form hkeys
  obtain ⟨A5, c5, rfl⟩ := own_form hkids
  have Hkeys := Lib.hid hkeys
  have Hkids := Lib.hid hkids
  have H1 := Lib.hid h1
  have hlc5 : ks.length ≤ c5 := own_cap hkids
  clear h1
  have Hlen := Lib.hid hlen
  have Hlt := Lib.hid hlt
  obtain ⟨A4', c4', hv, hlc, hcc, hA⟩ := hS
  simp only [Value.slice.injEq, true_and] at hv
  obtain ⟨rfl, rfl⟩ := hv
  clear hkeys hkids hlen hlt hks
  go_enter Try.func135, Try.ntmps135
  go_wp2_with fail
  go_loopw [7] (fun i wr => ∃ j : Nat, j ≤ ks.length ∧ i = .int .i64 j ∧ wr.heap[w.heap.size]? = some (.cells #[.int .i64 k0, .bool f0, .int .i64 m0, .string t0, .slice A4 ks.length c4, .slice A5 ks.length c5] 40 (0, 0)) ∧ wr.heap[w.heap.size + 1]? = some (.cells #[.int .i64 k, .bool f, .int .i64 m, .string t, .slice B4 n4 d4, .slice B5 n5 d5] 40 (0, 0)) ∧ wr.heap[w.heap.size + 1 + 1]? = some (.cells #[.int .i64 0, .bool false, .int .i64 0, .string ⟨#[]⟩, .slice none 0 0, .slice none 0 0] 40 (0, 0)) ∧ Below w.heap.size w wr) (fun i _ => ks.length - (intOf i).toNat)
  case atStart => exact ⟨0, Nat.zero_le _, rfl, (Below.heap_alloc _ _ _ (by simp; omega)).trans ((Below.heap_alloc _ _ _ (by simp)).trans (heap_alloc_new _ _)), (Below.heap_alloc _ _ _ (by simp)).trans (heap_at (by simp)), heap_at (by simp), (by repeat (first | (with_reducible exact Below.refl _ _) | (with_reducible refine ext_alloc ?_) | ((with_reducible refine ext_setCell ?_ ?_); focus (simp; (try omega))) | (with_reducible refine below_drewN ?_ _) | (with_reducible refine Below.drew ?_) | (with_reducible (apply ext_step; assumption))))⟩
  case round =>
    obtain ⟨j, hj, rfl, hT, hK, hZ, hbr⟩ := hrel
    obtain ⟨x0, x1, x2, x3, x4, x5, xf⟩ := row6 hT
    have hl1 := row_lt hT
    have hl2 := row_lt hK
    have hl8 := row_lt hZ
    have HT := Lib.hid hT
    have HK := Lib.hid hK
    have HZ := Lib.hid hZ
    clear hT hK hZ
    by_cases hlt : j < ks.length
    · obtain ⟨b, o, rfl, -, hb2, hcell⟩ := hA (by omega)
      obtain ⟨d, hd⟩ := exists_at hlt
      obtain ⟨es, -, hcs, rfl, hd2⟩ := hcell j d hd
      have hc0 := (hbr.cell (p := ⟨b, o + j * 1 + 0, none⟩) (by simp; omega)).trans (hcs 0 (by omega))
      simp at hc0
      have hbl : b < wr.heap.size := Nat.lt_of_lt_of_le hb2 hbr.size
      have hj0 : (0 : Int) ≤ j := by omega
      have hj1 : (j : Int) < ks.length := by omega
      have hcmp := Hlt.out d (List.mem_of_getElem? hd)
      unfold lessS at hcmp
      clear hcs hcell hA hd
      go_wp2_with fail
      go_roundw
      case rel => exact ⟨j + 1, by omega, by go_num, HT.out, HK.out, HZ.out, (by repeat (first | (with_reducible exact Below.refl _ _) | (with_reducible refine ext_alloc ?_) | ((with_reducible refine ext_setCell ?_ ?_); focus (simp; (try omega))) | (with_reducible refine below_drewN ?_ _) | (with_reducible refine Below.drew ?_) | (with_reducible (apply ext_step; assumption))))⟩
      case measure => simp [intOf]; omega
    · obtain rfl : j = ks.length := by omega
      clear hA
      have hK0 : wr.ownsRow base 9 1 (.slice A4 ks.length c4) ks.length (ks.map Value.string) := ownsRow_carry Hkeys.out (fun q hq => hbr.block q (Hkeys.out.lt q hq).2)
      obtain ⟨v1, w1, hr1, ho1, hg1, ha1⟩ := run_append_row (P := Try.prog) (wr.alloc (.cells #[] 9)) 37 37 w.heap.size 9 j0 (.string ⟨#[]⟩) 1 16 Try.underlying37 gi gz0 gz1 gz2 rfl (by decide) (.slice (some ⟨wr.heap.size, 0, none⟩) 0 0) 0 [] (own_empty rfl (by omega)) base ks.length (ks.map Value.string) (.slice A4 ks.length c4) (hK0.alloc _) (one_strs ks) (by unfold maxLen; omega) (by omega) (by simp; omega)
      rw [Nat.zero_add, List.nil_append] at ho1
      obtain ⟨E4, e4, rfl⟩ := own_form ho1
      obtain ⟨g, cap, w2, hr2, ho2, hg2, ha2, hl3⟩ := run_append_lies (P := Try.prog) (w1.alloc (.cells #[.string key] 9)) 37 37 w.heap.size 9 j0 (.string ⟨#[]⟩) 1 16 Try.underlying37 gi gz0 gz1 gz2 rfl (by decide) (.slice E4 ks.length e4) ks.length (ks.map Value.string) (ho1.alloc _) ⟨w1.heap.size, 0, none⟩ 1 1 [.string key] rfl (World.news_of_block (heap_at rfl)) (by intro u hu; simp at hu; subst hu; rfl) (by decide) (by unfold maxLen; omega) (by omega) (by have := hg1.size; simp at this ⊢; omega) _ rfl
      go_wp2_with (at_builtin; first | refine wpList_append_of rfl (.tmp 26) (.tmp 30) 37 rfl _ _ _ w1 rfl rfl hr1 ?_ | refine wpList_append_of rfl (.tmp 31) (.tmp 33) 37 rfl _ _ _ w2 rfl rfl hr2 ?_)
      have hq1 : ∀ q, (Value.slice E4 ks.length e4).ownBlock = some q → wr.heap.size ≤ q := fun q hq => by
        rw [hq] at ha1
        simp [Value.ownBlock] at ha1
        omega
      have hs1 := hg1.size
      have hs2 := hg2.size
      simp at hs1 hs2
      have hb1 : Below wr.heap.size wr w1 := Below.grown ((by repeat (first | (with_reducible exact Below.refl _ _) | (with_reducible refine ext_alloc ?_) | ((with_reducible refine ext_setCell ?_ ?_); focus (simp; (try omega))) | (with_reducible refine below_drewN ?_ _) | (with_reducible refine Below.drew ?_) | (with_reducible (apply ext_step; assumption)))) : Below wr.heap.size wr (wr.alloc (.cells #[] 9))) hg1 (by simp) (fun q hq => by simp [Value.ownBlock] at hq; omega)
      have hb2 : Below wr.heap.size wr w2 := Below.grown (hb1.alloc hb1.size _) hg2 (by simp; omega) hq1
      have HT2 := Lib.hid ((hb2.block _ hl1).trans HT.out)
      have HK2 := Lib.hid ((hb2.block _ hl2).trans HK.out)
      have HZ2 := Lib.hid ((hb2.block _ hl8).trans HZ.out)
      have hw2 : Below w.heap.size w w2 := hbr.trans (hb2.mono hbr.size)
      have Ho2 := Lib.hid ho2
      have hgw : wr.heap.size ≤ g := by
        rcases ha2 with h | h
        · exact hq1 g h
        · simp at h; omega
      clear x0 x1 x2 x3 x4 x5 xf ho1 ho2 hg1 hg2 ha1 ha2 hr1 hr2 HT HK HZ hq1 hK0 hb1 hb2
      obtain ⟨x0, x1, x2, x3, x4, x5, xf⟩ := row6 HT2.out
      obtain ⟨y0, y1, y2, y3, y4, y5, yf⟩ := row6 HK2.out
      have hl4 := row_lt HT2.out
      have hl5 := row_lt HK2.out
      have hl9 := row_lt HZ2.out
      have hcapK : ks.length + 1 ≤ cap := own_cap Ho2.out
      have hww : wr.heap.size ≤ w2.heap.size := by omega
      have hone : ∀ x ∈ [Value.int .i64 k, .bool f, .int .i64 m, .string t, .slice B4 n4 d4, .slice B5 n5 d5], x.oneCell' = true := by intro u hu; simp at hu; rcases hu with rfl | rfl | rfl | rfl | rfl | rfl <;> rfl
      go_region_law (first | (refine step_append_row rfl (.tmp 35) (.tmp 39) 38 rfl w2.heap.size 40 i0 (.agg #[.int .i64 0, .bool false, .int .i64 0, .string ⟨#[]⟩, .slice none 0 0, .slice none 0 0]) 6 88 Try.underlying38 hi hz0 hz1 hz2 rfl (by decide) (.slice (some ⟨_, 0, none⟩) 0 0) 0 [] rfl (by first | exact own_eq (own_empty (w := w2) rfl (Nat.le_refl _)) rfl | exact own_eq ((own_empty (w := w2) rfl (Nat.le_refl _)).alloc (.cells #[.int .i64 k, .bool f, .int .i64 m, .string t, .slice B4 n4 d4, .slice B5 n5 d5] 40)) rfl | exact own_eq (own_empty (w := w2.alloc (.cells #[.int .i64 k, .bool f, .int .i64 m, .string t, .slice B4 n4 d4, .slice B5 n5 d5] 40)) (by simp) (by simp)) rfl) base ks.length vs.flatten (.slice A5 ks.length c5) rfl (ownsRow_carry Hkids.out (fun q hq => Below.block ((by repeat (first | (with_reducible exact Below.refl _ _) | (with_reducible refine ext_alloc ?_) | ((with_reducible refine ext_setCell ?_ ?_); focus (simp; (try omega))) | (with_reducible refine below_drewN ?_ _) | (with_reducible refine Below.drew ?_) | (with_reducible (apply ext_step; assumption)))) : Below w.heap.size w _) q (Hkids.out.lt q hq).2)) H1.out (by unfold maxLen; omega) (by omega) (by simp <;> omega) ?_; intro v3 w3 ho3 hg3 ha3; rw [Nat.zero_add, List.nil_append] at ho3; obtain ⟨E5, e5, rfl⟩ := own_form ho3; have hb3 : Below w2.heap.size w2 w3 := Below.grown ((by repeat (first | (with_reducible exact Below.refl _ _) | (with_reducible refine ext_alloc ?_) | ((with_reducible refine ext_setCell ?_ ?_); focus (simp; (try omega))) | (with_reducible refine below_drewN ?_ _) | (with_reducible refine Below.drew ?_) | (with_reducible (apply ext_step; assumption)))) : Below w2.heap.size w2 _) hg3 (by simp <;> omega) (fun q hq => (by simp [Value.ownBlock] at hq; omega)); obtain ⟨z0, z1, z2, z3, z4, z5, zf⟩ := row6 ((hb3.block _ hl5).trans HK2.out); have hl6 : w.heap.size + 1 < w3.heap.size := Nat.lt_of_lt_of_le hl5 hb3.size) | (refine step_append_lies _ rfl (.tmp 40) (.tmp 42) 38 rfl w2.heap.size 40 i0 (.agg #[.int .i64 0, .bool false, .int .i64 0, .string ⟨#[]⟩, .slice none 0 0, .slice none 0 0]) 6 88 Try.underlying38 hi hz0 hz1 hz2 rfl (by decide) (.slice E5 ks.length e5) ks.length vs.flatten rfl (by first | exact ho3 | exact ho3.alloc _) _ 1 1 [.int .i64 k, .bool f, .int .i64 m, .string t, .slice B4 n4 d4, .slice B5 n5 d5] rfl rfl (by first | exact World.news_of_block (heap_alloc_new _ _) | exact World.news_of_block ((hg3.block _ (by simp <;> omega) (by simp [Value.ownBlock] <;> omega)).trans (heap_at (by simp))) | exact World.news_of_block ((hg3.block _ (by simp <;> omega) (by simp [Value.ownBlock] <;> omega)).trans ((Below.heap_alloc _ _ _ (by simp)).trans (heap_at (by simp))))) hone (by decide) (by unfold maxLen; omega) (by omega) (by have := hb3.size; simp; omega) _ rfl ?_; intro g5 cap5 w4 ho5 hg5 ha5 hl7))
      all_goals
        have hq5 : ∀ q, (Value.slice E5 ks.length e5).ownBlock = some q → w2.heap.size ≤ q := fun q hq => by
          rw [hq] at ha3
          simp [Value.ownBlock] at ha3
          omega
        have hb4 : Below w2.heap.size w2 w4 := Below.grown ((by repeat (first | (with_reducible exact Below.refl _ _) | (with_reducible refine ext_alloc ?_) | ((with_reducible refine ext_setCell ?_ ?_); focus (simp; (try omega))) | (with_reducible refine below_drewN ?_ _) | (with_reducible refine Below.drew ?_) | (with_reducible (apply ext_step; assumption)))) : Below w2.heap.size w2 _) hg5 (by have := hb3.size; first | omega | (simp; omega)) hq5
        have HT4 := Lib.hid ((hb4.block _ hl4).trans HT2.out)
        have HZ4 := Lib.hid ((hb4.block _ hl9).trans HZ2.out)
        have Ho4 := Lib.hid ho5
        have Hk4 := Lib.hid (ownsRow_carry Ho2.out (fun q hq => hb4.block q (Ho2.out.lt q hq).2))
        have hcapV : ks.length + 1 ≤ cap5 := own_cap ho5
        have hw4 : Below w.heap.size w w4 := hw2.trans (hb4.mono hw2.size)
        have hg5w : w2.heap.size ≤ g5 := by
          rcases ha5 with h | h
          · exact hq5 g5 h
          · have := hb3.size
            (try simp at h)
            omega
        clear x0 x1 x2 x3 x4 x5 xf y0 y1 y2 y3 y4 y5 yf z0 z1 z2 z3 z4 z5 zf ho3 ho5 hg3 hg5 ha3 ha5 hb3
        obtain ⟨x0, x1, x2, x3, x4, x5, xf⟩ := row6 HT4.out
        obtain ⟨y0, y1, y2, y3, y4, y5, yf⟩ := row6 HZ4.out
        have hl10 := row_lt HT4.out
        have hl11 := row_lt HZ4.out
        go_wp2_with (at_builtin; first | refine wpList_append_of rfl (.tmp 44) (.tmp 48) 37 rfl _ _ _ _ rfl rfl (run_append_zero _ _ _ 9 j0 Try.underlying37 gi ⟨g, 0, none⟩ (ks.length + 1) cap hcapK _ _) ?_ | refine wpList_append_of rfl (.tmp 51) (.tmp 55) 38 rfl _ _ _ _ rfl rfl (run_append_zero _ _ _ 40 i0 Try.underlying38 hi ⟨g5, 0, none⟩ (ks.length + 1) cap5 hcapV _ _) ?_)
        all_goals
          refine bodyPost_ret (v := .agg #[.int .i64 k0, .bool f0, .int .i64 m0, .string t0, .slice (some ⟨g, 0, none⟩) (ks.length + 1) cap, .slice (some ⟨g5, 0, none⟩) (ks.length + 1) cap5]) (by simp only [results, Try.results135]; go_simp) rfl (lay_fin (B := wr.heap.size) Hlen.out h6 H1.out rfl hone hw4 (by repeat (first | (with_reducible exact Aside.refl _ _) | ((with_reducible refine aside_set ?_ ?_); (focus (simp; done))) | (with_reducible refine aside_alloc ?_))) hl8 hgw Hk4.out (own_less Ho4.out hww))
end Go.Proofs.Ytipogknfbofbkaa
