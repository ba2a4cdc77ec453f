/- Copies of rows of requirements: each copied member with values of its own. slices.Clone at strings and at requirements, the program's copyNeeds, slices.ContainsFunc. No conditions. Written by wip/tools/genneedi.py. -/
import Derived.Test.YtmhlnbihppojmaaNeedV
import Derived.Test.YtmhlnbihppojmaaDraw
import Derived.Lib.LazyBuf
namespace Go.Proofs.Ytmhlnbihppojmaa
open Go.RowKit Go.Lib

/-- The block of a member's values. -/
def NeedV.blk (x : NeedV) : Option Nat := (Value.slice x.A x.d.values.length x.c).ownBlock
/-- No two members have their values in one block. -/
def ApartN (L : List NeedV) : Prop := L.Pairwise (fun x y => ∀ q, x.blk = some q → y.blk ≠ some q)
/-- Storing one cell of a member. -/
theorem RowE.poke {D : Type} {enc : D → List Value} {sz ty base g n c k j : Nat} {w : World} {l : List D} {x y : D} {u : Value} (hk : ∀ d, (enc d).length = sz) (hs : 0 < sz) (h : RowE enc sz ty base w l (.slice (some ⟨g, 0, none⟩) n c)) (hx : l[k]? = some x) (hj : j < sz) (hy : enc y = (enc x).set j u) :
    RowE enc sz ty base (w.setCell ⟨g, k * sz + j, none⟩ u) (l.set k y) (.slice (some ⟨g, 0, none⟩) n c) := by
  have hkl : k < l.length := (List.getElem?_eq_some_iff.1 hx).1
  obtain ⟨rfl, hb, h1, h2, cur, hg, hcs, hrow⟩ := h.at hk
  have hcell : (k + 1) * sz ≤ l.length * sz := Nat.mul_le_mul_right _ hkl
  have hlc : l.length * sz ≤ c * sz := Nat.mul_le_mul_right _ h1
  rw [Nat.succ_mul] at hcell
  have hput : (w.setCell ⟨g, k * sz + j, none⟩ u).heap[g]? = some (.cells (cur.setIfInBounds (k * sz + j) u) ty (0, 0)) := heap_setCell_same w g (k * sz + j) cur ty u hg
  refine ⟨by rw [flatE_len hk], .inr ⟨g, c, _, by rw [List.length_set], hb, hput, by rw [List.length_set]; exact h1, by unfold maxLen; omega, by simpa using hcs, ?_⟩⟩
  apply List.ext_getElem?
  intro i
  rw [List.length_set, List.getElem?_take]
  by_cases hi : i < l.length * sz
  · rw [if_pos hi, Array.getElem?_toList]
    have hi2 : i / sz < l.length := by rwa [Nat.div_lt_iff_lt_mul hs]
    have h3 : i / sz * sz + i % sz = i := by rw [Nat.mul_comm]; exact Nat.div_add_mod i sz
    have hm := Nat.mod_lt i hs
    rw [Array.getElem?_setIfInBounds]
    by_cases he : i / sz = k
    · have h4 := flatE_at hk (l := l.set k y) (i := k) (d := y) (by rw [List.getElem?_set_self hkl]) hm
      have h6 : k * sz + i % sz = i := by rw [← he]; exact h3
      rw [h6] at h4
      rw [h4, hy, List.getElem?_set]
      have h5 := hrow k x hx _ hm
      rw [h6] at h5
      by_cases hji : j = i % sz
      · rw [if_pos (by omega), if_pos (by omega), if_pos hji, if_pos (by rw [hk]; exact hj)]
      · rw [if_neg (by omega), if_neg hji, h5]
    · obtain ⟨d, hd⟩ := exists_at hi2
      have h4 := flatE_at hk (l := l.set k y) (i := i / sz) (d := d) (by rw [List.getElem?_set_ne (fun e => he e.symm)]; exact hd) hm
      rw [h3] at h4
      have h5 := hrow _ d hd _ hm
      rw [h3] at h5
      rw [h4, ← h5, if_neg ?_]
      intro e
      rcases Nat.lt_or_gt_of_ne he with hlt | hgt
      · have : (i / sz + 1) * sz ≤ k * sz := Nat.mul_le_mul_right _ hlt
        rw [Nat.succ_mul] at this
        omega
      · have : (k + 1) * sz ≤ i / sz * sz := Nat.mul_le_mul_right _ hgt
        rw [Nat.succ_mul] at this
        omega
  · rw [if_neg hi, List.getElem?_eq_none (by rw [flatE_len hk, List.length_set]; omega)]
set_option maxRecDepth 10000 in
theorem c_Clone_Str (l : List ByteArray) (v : Value) (w : World) (lo : Nat) (hs : SlOf C_Str 1 lo w.heap.size w l v) (hn : l.length ≤ 1048576) :
    Calls Try.prog 121 #[v] w fun e w' => ∃ A c, e = .returned (.slice A l.length c) ∧ RowE encS 1 9 w.heap.size w' l (.slice A l.length c) ∧ Below w.heap.size w w' := by
  obtain ⟨i0, hi, hz0, hz1, hz2⟩ := info_parts (show (Try.prog.info? 9).map (fun i => (i.zero, i.size, i.bytes)) = some (some (.string ⟨#[]⟩), 1, 16) from by kernel_rfl)
  have heq := fun (a : Option Addr) (n c : Nat) (w : World) => run_eql_slice_nil (P := Try.prog) w 94 9 a n c Try.underlying94
  have hs' := hs
  obtain ⟨A, c, rfl, hlc, hc, hA⟩ := hs
  rcases A with _ | ad
  · have hl0 : l = [] := by
      by_cases hp : 0 < l.length
      · obtain ⟨b, o, h, -⟩ := hA hp
        cases h
      · exact List.eq_nil_of_length_eq_zero (by omega)
    subst hl0
    clear hA
    go_enter Try.func121, Try.ntmps121
    go_wp2_with fail
    go_ret
    exact ⟨_, _, rfl, RowE.nil, (by repeat (first | (with_reducible exact Below.refl _ _) | (with_reducible refine ext_alloc ?_) | ((with_reducible refine ext_setCell ?_ ?_); focus (simp; (try omega))) | (with_reducible refine below_drewN ?_ _) | (with_reducible refine Below.drew ?_) | (with_reducible (apply ext_step; assumption))))⟩
  · clear hA
    have hb0 : Below w.heap.size w (w.alloc (.cells #[] 9)) := (by repeat (first | (with_reducible exact Below.refl _ _) | (with_reducible refine ext_alloc ?_) | ((with_reducible refine ext_setCell ?_ ?_); focus (simp; (try omega))) | (with_reducible refine below_drewN ?_ _) | (with_reducible refine Below.drew ?_) | (with_reducible (apply ext_step; assumption))))
    have Hs := Lib.hid (SlOf.now hs' hb0)
    have Hown : RowE encS 1 9 w.heap.size (w.alloc (.cells #[] 9)) [] (.slice (some ⟨w.heap.size, 0, none⟩) 0 0) := own_empty rfl (Nat.le_refl _)
    obtain ⟨v', w1, hr, hR, hgrow, hat⟩ := run_append_rows (P := Try.prog) (enc := encS) (C := C_Str) (w.alloc (.cells #[] 9)) 94 94 w.heap.size 9 i0 (.string ⟨#[]⟩) 1 16 Try.underlying94 hi hz0 hz1 hz2 rfl (by decide) encS_len encS_one encS_C _ 0 [] rfl Hown l (some ad) l.length c lo _ rfl Hs.out (by unfold maxLen; omega) (by omega) (by simp)
    rw [List.nil_append] at hR
    obtain ⟨A', c', rfl⟩ := hR.form
    have HR := Lib.hid hR
    have Bw := Below.grown hb0 hgrow (by simp) (fun k hk => by simp [Value.ownBlock] at hk; omega)
    clear hR hgrow hat Hown
    go_enter Try.func121, Try.ntmps121
    go_wp2_with (at_builtin; refine wpList_append_of rfl (.tmp 5) (.tmp 6) 94 rfl _ _ _ w1 rfl rfl hr ?_)
    go_ret
    exact ⟨A', c', rfl, HR.out, Bw⟩
set_option maxRecDepth 10000 in
theorem c_Clone_Need (l : List NeedV) (v : Value) (w : World) (lo : Nat) (hs : SlOf C_E 3 lo w.heap.size w l v) (hn : l.length ≤ 1048576) :
    Calls Try.prog 120 #[v] w fun e w' => ∃ A c, e = .returned (.slice A l.length c) ∧ RowE encN 3 98 w.heap.size w' l (.slice A l.length c) ∧ Below w.heap.size w w' := by
  obtain ⟨i0, hi, hz0, hz1, hz2⟩ := info_parts (show (Try.prog.info? 98).map (fun i => (i.zero, i.size, i.bytes)) = some (some (.agg #[.string ⟨#[]⟩, .int .i64 0, .slice none 0 0]), 3, 48) from by kernel_rfl)
  have heq := fun (a : Option Addr) (n c : Nat) (w : World) => run_eql_slice_nil (P := Try.prog) w 52 98 a n c Try.underlying52
  have hs' := hs
  obtain ⟨A, c, rfl, hlc, hc, hA⟩ := hs
  rcases A with _ | ad
  · have hl0 : l = [] := by
      by_cases hp : 0 < l.length
      · obtain ⟨b, o, h, -⟩ := hA hp
        cases h
      · exact List.eq_nil_of_length_eq_zero (by omega)
    subst hl0
    clear hA
    go_enter Try.func120, Try.ntmps120
    go_wp2_with fail
    go_ret
    exact ⟨_, _, rfl, RowE.nil, (by repeat (first | (with_reducible exact Below.refl _ _) | (with_reducible refine ext_alloc ?_) | ((with_reducible refine ext_setCell ?_ ?_); focus (simp; (try omega))) | (with_reducible refine below_drewN ?_ _) | (with_reducible refine Below.drew ?_) | (with_reducible (apply ext_step; assumption))))⟩
  · clear hA
    have hb0 : Below w.heap.size w (w.alloc (.cells #[] 98)) := (by repeat (first | (with_reducible exact Below.refl _ _) | (with_reducible refine ext_alloc ?_) | ((with_reducible refine ext_setCell ?_ ?_); focus (simp; (try omega))) | (with_reducible refine below_drewN ?_ _) | (with_reducible refine Below.drew ?_) | (with_reducible (apply ext_step; assumption))))
    have Hs := Lib.hid (SlOf.now hs' hb0)
    have Hown : RowE encN 3 98 w.heap.size (w.alloc (.cells #[] 98)) [] (.slice (some ⟨w.heap.size, 0, none⟩) 0 0) := own_empty rfl (Nat.le_refl _)
    obtain ⟨v', w1, hr, hR, hgrow, hat⟩ := run_append_rows (P := Try.prog) (enc := encN) (C := C_E) (w.alloc (.cells #[] 98)) 52 52 w.heap.size 98 i0 (.agg #[.string ⟨#[]⟩, .int .i64 0, .slice none 0 0]) 3 48 Try.underlying52 hi hz0 hz1 hz2 rfl (by decide) encN_len encN_one encN_C _ 0 [] rfl Hown l (some ad) l.length c lo _ rfl Hs.out (by unfold maxLen; omega) (by omega) (by simp)
    rw [List.nil_append] at hR
    obtain ⟨A', c', rfl⟩ := hR.form
    have HR := Lib.hid hR
    have Bw := Below.grown hb0 hgrow (by simp) (fun k hk => by simp [Value.ownBlock] at hk; omega)
    clear hR hgrow hat Hown
    go_enter Try.func120, Try.ntmps120
    go_wp2_with (at_builtin; refine wpList_append_of rfl (.tmp 5) (.tmp 6) 52 rfl _ _ _ w1 rfl rfl hr ?_)
    go_ret
    exact ⟨A', c', rfl, HR.out, Bw⟩
theorem apart_snoc {L : List NeedV} {x : NeedV} {B : Nat} (h : ApartN L) (hL : ∀ y ∈ L, ∀ q, y.blk = some q → q < B) (hx : ∀ q, x.blk = some q → B ≤ q) : ApartN (L ++ [x]) := by
  unfold ApartN
  rw [List.pairwise_append]
  refine ⟨h, List.pairwise_singleton _ _, fun a ha b hb q h1 h2 => ?_⟩
  rw [List.mem_singleton] at hb
  subst hb
  have := hL a ha q h1
  have := hx q h2
  omega
theorem take_drop_set {D : Type} {L : List D} {k : Nat} {P : List D} {y : D} (hP : P.length = k) : (P ++ L.drop k).set k y = P ++ [y] ++ L.drop (k + 1) ∨ L.length ≤ k := by
  by_cases h : k < L.length
  · left
    rw [List.drop_eq_getElem_cons h, List.set_append_right _ _ (by omega), hP, Nat.sub_self, List.set_cons_zero]
    simp
  · exact .inr (by omega)
set_option maxHeartbeats 2000000 in
set_option maxRecDepth 10000 in
theorem c_impl_copyNeeds (l : List Need) (v : Value) (w : World) (lo : Nat) (hs : Sl_Need lo w.heap.size w l v) (hn : l.length ≤ 1048576) (hv : ∀ d ∈ l, d.values.length ≤ 1048576) :
    Calls Try.prog 75 #[v] w fun e w' => ∃ (L : List NeedV) (A : Option Addr) (c : Nat), e = .returned (.slice A l.length c) ∧ L.map (·.d) = l ∧ RowE encN 3 98 w.heap.size w' L (.slice A l.length c) ∧ AllN w.heap.size w' L ∧ ApartN L ∧ Below w.heap.size w w' := by
  obtain ⟨L0, hL0, hS0, hG0⟩ := open_needs hs
  have HL0 := Lib.hid hL0
  have HG0 := Lib.hid hG0
  have Hv := Lib.hid hv
  have hl0 : L0.length = l.length := by rw [← hL0, List.length_map]
  have HS0 := Lib.hid hS0
  obtain ⟨A, c, rfl, hlc, hc, hA⟩ := hS0
  have HA := Lib.hid hA
  rw [hl0] at HS0 ⊢
  clear hL0 hG0 hs hA hv
  go_enter Try.func75, Try.ntmps75
  go_wp2_with fail
  refine (c_Clone_Need L0 _ _ _ HS0.out (by omega)).mono ?_
  rintro e w1 ⟨B, b, rfl, hR1, hb1⟩
  rw [hl0] at hR1 ⊢
  have HR1 := Lib.hid hR1
  have hs1 := hb1.size
  clear hR1
  go_wp2_with fail
  go_loopw [10] (fun s10 wr => ∃ (k : Nat) (L : List NeedV), k ≤ l.length ∧ s10 = .int .i64 k ∧ L.length = k ∧ L.map (·.d) = l.take k ∧ RowE encN 3 98 w.heap.size wr (L ++ L0.drop k) (.slice B l.length b) ∧ AllN w1.heap.size wr L ∧ ApartN L ∧ (∀ q, (Value.slice B l.length b).ownBlock = some q → q < w1.heap.size) ∧ Below w.heap.size w wr ∧ w1.heap.size ≤ wr.heap.size) (fun s10 _ => l.length - (intOf s10).toNat)
  case atStart => exact ⟨0, [], Nat.zero_le _, rfl, rfl, rfl, HR1.out, fun x hx => by simp at hx, List.Pairwise.nil, fun q hq => (World.ownsRow.lt HR1.out q hq).2, hb1, Nat.le_refl _⟩
  case round =>
    obtain ⟨k, L, hk, rfl, hLk, hLm, hR, hN, hAp, hq1, hbr, hw1⟩ := hrel
    have HLm := Lib.hid hLm
    have HR := Lib.hid hR
    have HN := Lib.hid hN
    have HAp := Lib.hid hAp
    have Hq1 := Lib.hid hq1
    clear hLm hR hN hAp hq1
    by_cases hlt : k < l.length
    · obtain ⟨g, o, rfl, -, hgl, hcell⟩ := HA.out (by omega)
      obtain ⟨x, hx⟩ := exists_at (l := L0) (k := k) (by omega)
      obtain ⟨es, -, hcs, hE⟩ := hcell k x hx
      obtain rfl := encN_C x es hE
      have hxm : l[k]? = some x.d := by rw [← HL0.out, List.getElem?_map, hx]; rfl
      obtain ⟨x1, x2, x3⟩ := HG0.out x (List.mem_of_getElem? hx)
      have hvx := Hv.out x.d (List.mem_of_getElem? hxm)
      have hc0 := (hbr.cell (p := ⟨g, o + k * 3 + 0, none⟩) (by simp; omega)).trans (hcs 0 (by omega))
      have hc1 := (hbr.cell (p := ⟨g, o + k * 3 + 1, none⟩) (by simp; omega)).trans (hcs 1 (by omega))
      have hc2 := (hbr.cell (p := ⟨g, o + k * 3 + 2, none⟩) (by simp; omega)).trans (hcs 2 (by omega))
      simp [encN] at hc0 hc1 hc2
      have hbl : g < wr.heap.size := Nat.lt_of_lt_of_le hgl hbr.size
      have hk0 : (0 : Int) ≤ k := by omega
      have hk1 : (k : Int) < l.length := by omega
      have Hxm := Lib.hid hxm
      have Hx := Lib.hid hx
      have hwr := hbr.size
      have HXG := Lib.hid x3
      have hbox : Below wr.heap.size wr (wr.alloc (.cells #[.string x.d.key, .int .i64 x.d.op, .slice x.A x.d.values.length x.c] 98)) := (by repeat (first | (with_reducible exact Below.refl _ _) | (with_reducible refine ext_alloc ?_) | ((with_reducible refine ext_setCell ?_ ?_); focus (simp; (try omega))) | (with_reducible refine below_drewN ?_ _) | (with_reducible refine Below.drew ?_) | (with_reducible (apply ext_step; assumption))))
      have HSx := Lib.hid (Sl_Str.keep x3 (same_below (hbr.trans (hbox.mono hwr))) (Nat.le_refl _) (Nat.le_trans hwr hbox.size))
      have hb3 := heap_alloc_new wr (.cells #[.string x.d.key, .int .i64 x.d.op, .slice x.A x.d.values.length x.c] 98)
      clear hcs hcell hx hxm x3
      go_wp2_with fail
      refine (c_Clone_Str x.d.values (.slice x.A x.d.values.length x.c) (wr.alloc (.cells #[.string x.d.key, .int .i64 x.d.op, .slice x.A x.d.values.length x.c] 98)) _ HSx.out hvx).mono ?_
      rintro e w2 ⟨A2, c2, rfl, hR2, hb2⟩
      have hs2 := hb2.size
      simp at hs2
      have hbw2 : Below wr.heap.size wr w2 := hbox.trans (hb2.mono hbox.size)
      have HR2 := Lib.hid hR2
      have hRo := HR.out.below hbw2
      have hNo := HN.out.below hbw2
      obtain ⟨gB, bB, curB, hvB, -, hgB, hB1, hB2, -, -⟩ := hRo.row encN_len (by rw [List.length_append, List.length_drop]; omega)
      simp only [Value.slice.injEq] at hvB
      obtain ⟨rfl, hLn, rfl⟩ := hvB
      have hq := Hq1.out gB rfl
      have hxL : (L ++ L0.drop k)[k]? = some x := by rw [List.getElem?_append_right (by omega), List.getElem?_drop, hLk, Nat.sub_self, Nat.add_zero]; exact Hx.out
      have hP := hRo.poke (j := 2) (u := .slice A2 x.d.values.length c2) (y := ⟨x.d, A2, c2⟩) encN_len (by decide) hxL (by decide) rfl
      have hset : (L ++ L0.drop k).set k ⟨x.d, A2, c2⟩ = L ++ [⟨x.d, A2, c2⟩] ++ L0.drop (k + 1) := by
        rcases take_drop_set (L := L0) (P := L) (y := (⟨x.d, A2, c2⟩ : NeedV)) hLk with h | h
        · exact h
        · omega
      rw [hset] at hP
      have HP := Lib.hid hP
      have hfz : ∀ o, w2.frozen? ⟨gB, o, none⟩ = false := fun o => frozen_row hgB o
      have hgl2 := row_lt hgB
      have hcB : ∃ u, w2.cell? ⟨gB, k * 3 + 2, none⟩ = some u := by
        obtain ⟨-, -, -, -, cur9, hg9, -, hrow9⟩ := hRo.at encN_len
        refine ⟨_, by rw [cell_of_row _ gB _ cur9 _ _ hg9]; exact hrow9 k x hxL 2 (by decide)⟩
      obtain ⟨u9, hu9⟩ := hcB
      have HNf := Lib.hid (show AllN w1.heap.size (w2.setCell ⟨gB, k * 3 + 2, none⟩ (.slice A2 x.d.values.length c2)) (L ++ [⟨x.d, A2, c2⟩]) from AllN.snoc (fun z hz => (hNo z hz).carry (fun q hq9 => Below.heap_setCell w2 ⟨gB, k * 3 + 2, none⟩ _ q (by have := (World.ownsRow.lt (hNo z hz).2.2.2 q hq9).1; simp; omega))) ⟨x1, x2, size_strs HXG.out, ((HR2.out.less (by simp; omega)).carry (fun q hq9 => Below.heap_setCell w2 ⟨gB, k * 3 + 2, none⟩ _ q (by have := (World.ownsRow.lt HR2.out q hq9).1; simp at this; simp; omega)))⟩)
      have HApf := Lib.hid (apart_snoc (x := (⟨x.d, A2, c2⟩ : NeedV)) (B := wr.heap.size) HAp.out (fun z hz q hq9 => (World.ownsRow.lt (HN.out z hz).2.2.2 q hq9).2) (fun q hq9 => by have := (World.ownsRow.lt HR2.out q hq9).1; simp at this; omega))
      have HLf := Lib.hid (show (L ++ [(⟨x.d, A2, c2⟩ : NeedV)]).map (·.d) = l.take (k + 1) by rw [List.map_append, HLm.out, List.take_add_one, Hxm.out]; rfl)
      have hbF : Below w.heap.size w (w2.setCell ⟨gB, k * 3 + 2, none⟩ (.slice A2 x.d.values.length c2)) := (hbr.trans (hbw2.mono hwr)).setCell (p := ⟨gB, k * 3 + 2, none⟩) (by have := (World.ownsRow.lt hRo gB rfl).1; exact this) _
      obtain ⟨y0, y1, y2, yf⟩ := row3 ((hb2.block wr.heap.size (by simp)).trans hb3)
      have hlen : (L ++ [(⟨x.d, A2, c2⟩ : NeedV)]).length = k + 1 := by simp [hLk]
      have HLn := Lib.hid hlen
      clear hRo hNo hP hset hgB hR2 hb2 hbw2 hxL hbox hb3 hlen hLn hB1 hB2
      go_wp2_with fail
      go_roundw
      case rel => exact ⟨k + 1, L ++ [⟨x.d, A2, c2⟩], by omega, by go_num, HLn.out, HLf.out, HP.out, HNf.out, HApf.out, Hq1.out, hbF, by simp [World.setCell]; omega⟩
      case measure => simp [intOf]; omega
    · obtain rfl : k = l.length := by omega
      have HLf := Lib.hid (show L.map (·.d) = l by have := HLm.out; rw [List.take_length] at this; exact this)
      have HRf := Lib.hid (show RowE encN 3 98 w.heap.size wr L (.slice B l.length b) by have := HR.out; rw [List.drop_eq_nil_of_le (by omega), List.append_nil] at this; exact this)
      go_wp2_with fail
      go_ret
      exact ⟨L, B, b, rfl, HLf.out, HRf.out, HN.out.less hs1, HAp.out, hbr⟩
end Go.Proofs.Ytmhlnbihppojmaa
