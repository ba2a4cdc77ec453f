/- Rows of requirements that the call has made: each with a row of values of its own. The reference's l15Copy. No conditions. -/
import Derived.Test.YtmhlnbihppojmaaValS
import Derived.Test.YtmhlnbihppojmaaCompE
import Derived.Test.YtmhlnbihppojmaaTypes
namespace Go.Proofs.Ytmhlnbihppojmaa
open Go.RowKit

structure NeedV where
  d : Need
  A : Option Addr
  c : Nat
def encN (x : NeedV) : List Value := [.string x.d.key, .int .i64 x.d.op, .slice x.A x.d.values.length x.c]
theorem encN_len (x : NeedV) : (encN x).length = 3 := rfl
theorem encN_one (x : NeedV) : ∀ v ∈ encN x, v.oneCell' = true := by intro u hu; simp [encN] at hu; rcases hu with rfl | rfl | rfl <;> rfl
def C_E (x : NeedV) (es : List Value) : Prop := es = encN x
theorem encN_C (x : NeedV) (es : List Value) (h : C_E x es) : es = encN x := h
def GoodN (lo hi : Nat) (w : World) (x : NeedV) : Prop := x.d.key.size ≤ 9223372036854775807 ∧ I64 x.d.op ∧ Sl_Str lo hi w x.d.values (.slice x.A x.d.values.length x.c)
def OwnN (base : Nat) (w : World) (x : NeedV) : Prop :=
  x.d.key.size ≤ 9223372036854775807 ∧ I64 x.d.op ∧ (∀ s ∈ x.d.values, s.size ≤ 9223372036854775807) ∧ RowE encS 1 9 base w x.d.values (.slice x.A x.d.values.length x.c)
def AllN (base : Nat) (w : World) (L : List NeedV) : Prop := ∀ x ∈ L, OwnN base w x
theorem OwnN.good {base : Nat} {w : World} {x : NeedV} (h : OwnN base w x) : GoodN base w.heap.size w x :=
  ⟨h.1, h.2.1, RowE.sl encS_len h.2.2.2 (fun d hd => ⟨rfl, h.2.2.1 d hd⟩)⟩
theorem OwnN.carry {base : Nat} {w w' : World} {x : NeedV} (h : OwnN base w x) (hs : ∀ q, (Value.slice x.A x.d.values.length x.c).ownBlock = some q → w'.heap[q]? = w.heap[q]?) : OwnN base w' x :=
  ⟨h.1, h.2.1, h.2.2.1, h.2.2.2.carry hs⟩
theorem OwnN.below {base : Nat} {w w' : World} {x : NeedV} (h : OwnN base w x) (hb : Below w.heap.size w w') : OwnN base w' x := ⟨h.1, h.2.1, h.2.2.1, h.2.2.2.below hb⟩
theorem OwnN.less {base base' : Nat} {w : World} {x : NeedV} (h : OwnN base w x) (hb : base' ≤ base) : OwnN base' w x := ⟨h.1, h.2.1, h.2.2.1, h.2.2.2.less hb⟩
theorem AllN.below {base : Nat} {w w' : World} {L : List NeedV} (h : AllN base w L) (hb : Below w.heap.size w w') : AllN base w' L := fun x hx => (h x hx).below hb
theorem AllN.less {base base' : Nat} {w : World} {L : List NeedV} (h : AllN base w L) (hb : base' ≤ base) : AllN base' w L := fun x hx => (h x hx).less hb
/-- An append to the row itself leaves the members' own rows as they are. -/
theorem AllN.grown {base base' : Nat} {w w' : World} {L L' : List NeedV} {v : Value} (h : AllN base w L) (hr : RowE encN 3 98 base' w L' v) (hg : w.grownBy w' v.ownBlock) (ht : 9 ≠ 98) : AllN base w' L := fun x hx =>
  (h x hx).carry (fun q hq => hg.block q (World.ownsRow.lt (h x hx).2.2.2 q hq).2 (fun e => own_apart (h x hx).2.2.2 hr ht q hq e.symm))
theorem AllN.snoc {base : Nat} {w : World} {L : List NeedV} {x : NeedV} (h : AllN base w L) (hx : OwnN base w x) : AllN base w (L ++ [x]) := by
  intro y hy
  rcases List.mem_append.1 hy with h1 | h1
  · exact h y h1
  · rw [List.mem_singleton] at h1
    subst h1
    exact hx
theorem slOf_map {D E : Type} {C : D → List Value → Prop} {C' : E → List Value → Prop} {sz lo hi : Nat} {w : World} {l : List D} {v : Value} (f : D → E) (h : SlOf C sz lo hi w l v) (hC : ∀ x es, x ∈ l → C x es → C' (f x) es) : SlOf C' sz lo hi w (l.map f) v := by
  obtain ⟨A, c, rfl, h1, h2, h3⟩ := h
  refine ⟨A, c, by rw [List.length_map], by rw [List.length_map]; exact h1, h2, fun hp => ?_⟩
  rw [List.length_map] at hp
  obtain ⟨b, o, rfl, h4, h5, h6⟩ := h3 hp
  refine ⟨b, o, rfl, h4, h5, fun i d hd => ?_⟩
  rw [List.getElem?_map] at hd
  obtain ⟨x, hx, rfl⟩ := Option.map_eq_some_iff.1 hd
  obtain ⟨cs, e1, e2, e3⟩ := h6 i x hx
  exact ⟨cs, e1, e2, hC x cs (List.mem_of_getElem? hx) e3⟩
theorem sl_needs {lo hi : Nat} {w : World} {L : List NeedV} {v : Value} (h : SlOf C_E 3 lo hi w L v) (hg : ∀ x ∈ L, GoodN lo hi w x) : Sl_Need lo hi w (L.map (·.d)) v :=
  slOf_map (·.d) h (fun x es hx he => by
    obtain ⟨g1, g2, g3⟩ := hg x hx
    exact ⟨_, he, g1, g2, g3⟩)
theorem row_needs {base : Nat} {w : World} {L : List NeedV} {v : Value} (h : RowE encN 3 98 base w L v) (ha : AllN base w L) : Sl_Need base w.heap.size w (L.map (·.d)) v :=
  sl_needs (RowE.sl encN_len h (fun _ _ => rfl)) (fun x hx => (ha x hx).good)
theorem open_needs {lo hi : Nat} {w : World} {l : List Need} {v : Value} (h : Sl_Need lo hi w l v) : ∃ L : List NeedV, L.map (·.d) = l ∧ SlOf C_E 3 lo hi w L v ∧ ∀ x ∈ L, GoodN lo hi w x := by
  obtain ⟨A, c, rfl, h1, h2, h3⟩ := h
  by_cases hp : 0 < l.length
  · obtain ⟨b, o, rfl, h4, h5, h6⟩ := h3 hp
    obtain ⟨L, hL, hP⟩ := choose_list l.length (fun i (x : NeedV) => l[i]? = some x.d ∧ (∀ j, j < 3 → w.cell? ⟨b, o + i * 3 + j, none⟩ = (encN x)[j]?) ∧ GoodN lo hi w x) (fun i hi => by
      obtain ⟨d, hd⟩ := exists_at hi
      obtain ⟨cs, -, e2, v2, rfl, a0, a1, a2⟩ := h6 i d hd
      obtain ⟨A2, c2, rfl⟩ := a2.form
      exact ⟨⟨d, A2, c2⟩, hd, e2, a0, a1, a2⟩)
    have hm : L.map (·.d) = l := by
      apply List.ext_getElem?
      intro i
      rw [List.getElem?_map]
      by_cases hi : i < l.length
      · obtain ⟨x, hx⟩ := exists_at (l := L) (k := i) (by omega)
        rw [hx, (hP i x hx).1]
        rfl
      · rw [List.getElem?_eq_none (by omega), List.getElem?_eq_none (by omega)]
        rfl
    refine ⟨L, hm, ⟨_, c, by rw [hL], by omega, h2, fun _ => ⟨b, o, rfl, h4, h5, fun i x hx => ⟨encN x, rfl, (hP i x hx).2.1, rfl⟩⟩⟩, fun x hx => ?_⟩
    obtain ⟨i, hi⟩ := List.getElem?_of_mem hx
    exact (hP i x hi).2.2
  · obtain rfl : l = [] := List.eq_nil_of_length_eq_zero (by omega)
    exact ⟨[], rfl, ⟨A, c, rfl, h1, h2, fun h => absurd h hp⟩, fun x hx => by simp at hx⟩
theorem GoodN.now {lo : Nat} {w w' : World} {x : NeedV} (h : GoodN lo w.heap.size w x) (hb : Below w.heap.size w w') : GoodN lo w'.heap.size w' x := ⟨h.1, h.2.1, Sl_Str.now h.2.2 hb⟩
theorem sl_oneB {D : Type} {C : D → List Value → Prop} {enc : D → List Value} {sz : Nat} (hk : ∀ d, (enc d).length = sz) (w : World) (d : D) (hC : C d (enc d)) (ty : TypeId) (cs : Array Value) (hc : cs = (enc d).toArray) {B : Nat} (hB : B = w.heap.size) :
    SlOf C sz w.heap.size (w.alloc (.cells cs ty)).heap.size (w.alloc (.cells cs ty)) [d] (.slice (some ⟨B, 0, none⟩) 1 1) := by
  subst hB
  exact sl_one hk w d hC ty cs hc
set_option maxHeartbeats 2000000 in
set_option maxRecDepth 10000 in
theorem c_l15Copy (l : List Need) (v : Value) (w : World) (lo : Nat) (hs : Sl_Need lo w.heap.size w l v) (hn : l.length ≤ 1048576) (hv : ∀ d ∈ l, d.values.length ≤ 1048576) :
    Calls Try.prog 68 #[v] w fun e w' => ∃ (L : List NeedV) (A : Option Addr) (c : Nat), e = .returned (.slice A l.length c) ∧ L.map (·.d) = l ∧ RowE encN 3 98 w.heap.size w' L (.slice A l.length c) ∧ AllN w.heap.size w' L ∧ Below w.heap.size w w' := by
  obtain ⟨i0, hi, hz0, hz1, hz2⟩ := info_parts (show (Try.prog.info? 98).map (fun i => (i.zero, i.size, i.bytes)) = some (some (.agg #[.string ⟨#[]⟩, .int .i64 0, .slice none 0 0]), 3, 48) from by kernel_rfl)
  obtain ⟨j0, hj, jz0, jz1, jz2⟩ := info_parts (show (Try.prog.info? 9).map (fun i => (i.zero, i.size, i.bytes)) = some (some (.string ⟨#[]⟩), 1, 16) from by kernel_rfl)
  obtain ⟨L0, hL0, hS0, hG0⟩ := open_needs hs
  have HL0 := Lib.hid hL0
  have HG0 := Lib.hid hG0
  have Hv := Lib.hid hv
  have hl0 : L0.length = l.length := by rw [← hL0, List.length_map]
  obtain ⟨A, c, rfl, hlc, hc, hA⟩ := hS0
  have HA := Lib.hid hA
  rw [hl0]
  clear hL0 hG0 hs hA hv
  go_enter Try.func68, Try.ntmps68
  go_wp2_with fail
  go_loopw [3, 4] (fun s3 s4 wr => ∃ (k : Nat) (L : List NeedV) (B : Option Addr) (b : Nat), k ≤ l.length ∧ s4 = .int .i64 k ∧ s3 = .slice B k b ∧ L.map (·.d) = l.take k ∧ RowE encN 3 98 w.heap.size wr L (.slice B k b) ∧ AllN w.heap.size wr L ∧ Below w.heap.size w wr) (fun _ s4 _ => l.length - (intOf s4).toNat)
  case atStart => exact ⟨0, [], _, _, Nat.zero_le _, rfl, rfl, rfl, own_empty rfl (Nat.le_refl _), fun x hx => by simp at hx, (by repeat (first | (with_reducible exact Below.refl _ _) | (with_reducible refine ext_alloc ?_) | ((with_reducible refine ext_setCell ?_ ?_); focus (simp; (try omega))) | (with_reducible refine below_drewN ?_ _) | (with_reducible refine Below.drew ?_) | (with_reducible (apply ext_step; assumption))))⟩
  case round =>
    obtain ⟨k, L, B, b, hk, rfl, rfl, hLm, hR, hN, hbr⟩ := hrel
    have HLm := Lib.hid hLm
    have HR := Lib.hid hR
    have HN := Lib.hid hN
    have hLk : L.length = k := by have := congrArg List.length hLm; rw [List.length_map, List.length_take] at this; omega
    clear hLm hR hN
    by_cases hlt : k < l.length
    · obtain ⟨g, o, rfl, -, hgl, hcell⟩ := HA.out (by omega)
      obtain ⟨x, hx⟩ := exists_at (l := L0) (k := k) (by omega)
      obtain ⟨es, -, hcs, hE⟩ := hcell k x hx
      obtain rfl := encN_C x es hE
      have hxm : l[k]? = some x.d := by rw [← HL0.out, List.getElem?_map, hx]; rfl
      obtain ⟨x1, x2, x3⟩ := HG0.out x (List.mem_of_getElem? hx)
      have hvx := Hv.out x.d (List.mem_of_getElem? hxm)
      have hc0 := (hbr.cell (p := ⟨g, o + k * 3 + 0, none⟩) (by simp; omega)).trans (hcs 0 (by omega))
      have hc1 := (hbr.cell (p := ⟨g, o + k * 3 + 1, none⟩) (by simp; omega)).trans (hcs 1 (by omega))
      have hc2 := (hbr.cell (p := ⟨g, o + k * 3 + 2, none⟩) (by simp; omega)).trans (hcs 2 (by omega))
      simp [encN] at hc0 hc1 hc2
      have hbl : g < wr.heap.size := Nat.lt_of_lt_of_le hgl hbr.size
      have hk0 : (0 : Int) ≤ k := by omega
      have hk1 : (k : Int) < l.length := by omega
      have Hxm := Lib.hid hxm
      have hwr := hbr.size
      -- the values copied
      have hbW : Below w.heap.size w (wr.alloc (.cells #[.string x.d.key, .int .i64 x.d.op, .slice x.A x.d.values.length x.c] 98)) := hbr.alloc hwr _
      have hb0 : Below (wr.alloc (.cells #[.string x.d.key, .int .i64 x.d.op, .slice x.A x.d.values.length x.c] 98)).heap.size (wr.alloc (.cells #[.string x.d.key, .int .i64 x.d.op, .slice x.A x.d.values.length x.c] 98)) ((wr.alloc (.cells #[.string x.d.key, .int .i64 x.d.op, .slice x.A x.d.values.length x.c] 98)).alloc (.cells #[] 9)) := (by repeat (first | (with_reducible exact Below.refl _ _) | (with_reducible refine ext_alloc ?_) | ((with_reducible refine ext_setCell ?_ ?_); focus (simp; (try omega))) | (with_reducible refine below_drewN ?_ _) | (with_reducible refine Below.drew ?_) | (with_reducible (apply ext_step; assumption))))
      have hown : RowE encS 1 9 (wr.alloc (.cells #[.string x.d.key, .int .i64 x.d.op, .slice x.A x.d.values.length x.c] 98)).heap.size ((wr.alloc (.cells #[.string x.d.key, .int .i64 x.d.op, .slice x.A x.d.values.length x.c] 98)).alloc (.cells #[] 9)) [] (.slice (some ⟨wr.heap.size + 1, 0, none⟩) 0 0) := own_empty (by simp) (Nat.le_refl _)
      obtain ⟨v2, w2, hr2, hR2, hg2, -⟩ := run_append_rows (P := Try.prog) (enc := encS) (C := C_Str) ((wr.alloc (.cells #[.string x.d.key, .int .i64 x.d.op, .slice x.A x.d.values.length x.c] 98)).alloc (.cells #[] 9)) 94 94 (wr.alloc (.cells #[.string x.d.key, .int .i64 x.d.op, .slice x.A x.d.values.length x.c] 98)).heap.size 9 j0 (.string ⟨#[]⟩) 1 16 Try.underlying94 hj jz0 jz1 jz2 rfl (by decide) encS_len encS_one encS_C _ 0 [] rfl hown x.d.values x.A x.d.values.length x.c _ _ rfl (Sl_Str.now (Sl_Str.now x3 hbW) hb0) (by unfold maxLen; omega) (by omega) (by simp)
      rw [List.nil_append] at hR2
      obtain ⟨A2, c2, rfl⟩ := hR2.form
      have hb2 := Below.grown hb0 hg2 (by simp) (fun q hq => by simp [Value.ownBlock] at hq; simp; omega)
      have hbox := (hb2.block wr.heap.size (by simp)).trans (heap_alloc_new wr _)
      obtain ⟨y0, y1, y2, yf⟩ := row3 hbox
      have hs2 := hb2.size
      simp at hs2
      have hyl := row_lt hbox
      have hb3 : Below wr.heap.size wr w2 := (ext_alloc (Below.refl _ _)).trans (hb2.mono (by simp))
      -- the new member
      have hbF : Below wr.heap.size wr (w2.setCell ⟨wr.heap.size, 2, none⟩ (.slice A2 x.d.values.length c2)) := hb3.setCell (Nat.le_refl _) _
      have hR3 : RowE encS 1 9 wr.heap.size (w2.setCell ⟨wr.heap.size, 2, none⟩ (.slice A2 x.d.values.length c2)) x.d.values (.slice A2 x.d.values.length c2) := (hR2.less (by simp)).carry (fun q hq => Below.heap_setCell w2 ⟨wr.heap.size, 2, none⟩ _ q (by have := (World.ownsRow.lt hR2 q hq).1; simp at this; simp; omega))
      have hX : OwnN wr.heap.size (w2.setCell ⟨wr.heap.size, 2, none⟩ (.slice A2 x.d.values.length c2)) ⟨x.d, A2, c2⟩ := ⟨x1, x2, size_strs x3, hR3⟩
      have hRo := HR.out.below hbF
      have hNo := HN.out.below hbF
      have hbG : Below (w2.setCell ⟨wr.heap.size, 2, none⟩ (.slice A2 x.d.values.length c2)).heap.size (w2.setCell ⟨wr.heap.size, 2, none⟩ (.slice A2 x.d.values.length c2)) ((w2.setCell ⟨wr.heap.size, 2, none⟩ (.slice A2 x.d.values.length c2)).alloc (.cells #[.string x.d.key, .int .i64 x.d.op, .slice A2 x.d.values.length c2] 98)) := (by repeat (first | (with_reducible exact Below.refl _ _) | (with_reducible refine ext_alloc ?_) | ((with_reducible refine ext_setCell ?_ ?_); focus (simp; (try omega))) | (with_reducible refine below_drewN ?_ _) | (with_reducible refine Below.drew ?_) | (with_reducible (apply ext_step; assumption))))
      have hszF := hbF.size
      obtain ⟨v4, w4, hr4, hR4, hg4, -⟩ := run_append_rows (P := Try.prog) (enc := encN) (C := C_E) ((w2.setCell ⟨wr.heap.size, 2, none⟩ (.slice A2 x.d.values.length c2)).alloc (.cells #[.string x.d.key, .int .i64 x.d.op, .slice A2 x.d.values.length c2] 98)) 52 52 w.heap.size 98 i0 (.agg #[.string ⟨#[]⟩, .int .i64 0, .slice none 0 0]) 3 48 Try.underlying52 hi hz0 hz1 hz2 rfl (by decide) encN_len encN_one encN_C _ k L hLk (hRo.below hbG) [⟨x.d, A2, c2⟩] (some ⟨w2.heap.size, 0, none⟩) 1 1 _ _ rfl (sl_oneB (C := C_E) encN_len _ ⟨x.d, A2, c2⟩ rfl 98 _ rfl (by simp)) (by unfold maxLen; omega) (by omega) (by have := hbG.size; simp at this ⊢; simp at hszF; omega)
      have hN4 := Lib.hid (((hNo.below hbG).snoc ((hX.less hwr).below hbG)).grown (hRo.below hbG) hg4 (by decide))
      obtain ⟨A4, c4, rfl⟩ := hR4.form
      have hlen : (L ++ [(⟨x.d, A2, c2⟩ : NeedV)]).length = k + 1 := by simp [hLk]
      rw [hlen] at hR4 hr4
      have HR4 := Lib.hid hR4
      have hLm4 := Lib.hid (show (L ++ [(⟨x.d, A2, c2⟩ : NeedV)]).map (·.d) = l.take (k + 1) by rw [List.map_append, HLm.out, List.take_add_one, Hxm.out]; rfl)
      have Bw4 := Lib.hid (hbr.trans (Below.grown ((hbF.mono hwr).trans (hbG.mono (by omega))) hg4 (by have := hbG.size; omega) (fun q hq => (World.ownsRow.lt hRo q hq).1)))
      clear hR4 hg4 hRo hNo hbG hX hR3 hbF hb3 hb2 hg2 hR2 hown hb0 hbW hlen x3 hcs hcell hx hxm hvx hLk
      go_wp2_with (first | (at_builtin; refine wpList_append_of rfl (.tmp 17) (.tmp 19) 94 rfl _ _ _ w2 rfl rfl hr2 ?_) | (at_builtin; refine wpList_append_of rfl (.tmp 22) (.tmp 24) 52 rfl _ _ _ w4 rfl rfl hr4 ?_))
      clear hr2 hr4
      go_roundw
      case rel => exact ⟨k + 1, _, A4, c4, by omega, by go_num, rfl, hLm4.out, HR4.out, hN4.out, Bw4.out⟩
      case measure => simp [intOf]; omega
    · obtain rfl : k = l.length := by omega
      have HLf := Lib.hid (show L.map (·.d) = l by have := HLm.out; rw [List.take_length] at this; exact this)
      go_wp2_with fail
      go_ret
      exact ⟨L, B, b, rfl, HLf.out, HR.out, HN.out, hbr⟩
end Go.Proofs.Ytmhlnbihppojmaa
