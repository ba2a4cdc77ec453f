/- Small contracts of the telling of trees (TextTree, effectWord, l19Effects, l20Put, addKid of a text), and maps of texts that the call owns. No conditions. -/
import Derived.Test.YtipogknfbofbkaaLay
namespace Go.Proofs.Ytipogknfbofbkaa
open Go.RowKit

def leafD (t : ByteArray) : TreeD := ⟨4, false, 0, t, [], []⟩
def effW (x : Int) : ByteArray := if x = 1 then ⟨#[110, 101, 118, 101, 114]⟩ else ⟨#[115, 111, 102, 116]⟩
def wEffect : ByteArray := ⟨#[101, 102, 102, 101, 99, 116]⟩
def wKey : ByteArray := ⟨#[107, 101, 121]⟩
def wValue : ByteArray := ⟨#[118, 97, 108, 117, 101]⟩
theorem own_S {w : World} {base : Nat} {ks : List ByteArray} {v : Value} (h : w.ownsRow base 9 1 v ks.length (ks.map Value.string)) (hs : ∀ k ∈ ks, k.size ≤ 9223372036854775807) : OwnS (fun b => v.ownBlock = some b) w ks v := by
  obtain ⟨hl, h1⟩ := h
  rcases h1 with ⟨rfl, h0⟩ | ⟨g, cap, cur, rfl, hb, hg, hnc, hcm, hcs, ht⟩
  · exact ⟨none, 0, by rw [h0], by omega, by omega, fun hp => by omega⟩
  · refine ⟨_, cap, rfl, hnc, by unfold maxLen at hcm; omega, fun _ => ⟨g, cur, rfl, rfl, hg, fun i s hs' => ?_⟩⟩
    refine ⟨?_, hs s (List.mem_of_getElem? hs')⟩
    have hi : i < ks.length := (List.getElem?_eq_some_iff.1 hs').1
    have : (cur.toList.take (ks.length * 1))[i]? = some (.string s) := by rw [ht, List.getElem?_map, hs']; rfl
    rw [List.getElem?_take, if_pos (by omega), Array.getElem?_toList] at this
    exact this
theorem own_K {n base : Nat} {w : World} {ds : List TreeD} {css : List (List Value)} {v : Value} (F : Nat → Nat → Prop) (hlen : css.length = ds.length) (h6 : ∀ es ∈ css, es.length = 6) (h : w.ownsRow base 40 6 v css.length css.flatten)
    (hF : ∀ i b, F i b → v.ownBlock ≠ some b) (hF2 : ∀ i j b, F i b → F j b → i = j) (hO : ∀ i d es, ds[i]? = some d → css[i]? = some es → OwnT n (F i) w d es) : OwnK (OwnT n) (fun b => v.ownBlock = some b ∨ ∃ i, F i b) w ds v := by
  obtain ⟨hl, h1⟩ := h
  rcases h1 with ⟨rfl, h0⟩ | ⟨g, cap, cur, rfl, hb, hg, hnc, hcm, hcs, ht⟩
  · exact ⟨none, 0, by rw [← hlen, h0], by omega, by omega, fun hp => by omega⟩
  · refine ⟨some ⟨g, 0, none⟩, cap, by rw [hlen], by omega, by unfold maxLen at hcm; omega, fun _ => ⟨g, F, rfl, .inl rfl, fun i b hf => ⟨.inr ⟨i, hf⟩, fun e => hF i b hf (by rw [e]; rfl)⟩, hF2, cur, hg, fun i d hd => ?_⟩⟩
    have hi : i < ds.length := (List.getElem?_eq_some_iff.1 hd).1
    obtain ⟨es, hes⟩ := exists_at (l := css) (k := i) (by omega)
    refine ⟨es, h6 es (List.mem_of_getElem? hes), fun j hj => ?_, hO i d es hd hes⟩
    have : (cur.toList.take (css.length * 6))[i * 6 + j]? = es[j]? := by rw [ht]; exact flat_get css i es j h6 hes hj
    rw [List.getElem?_take, if_pos (by omega), Array.getElem?_toList] at this
    exact this
/-- A map whose rows the call owns, and whose kids lie in blocks of their own. -/
theorem own_map {n base : Nat} {w : World} {S : Nat → Prop} {ks : List ByteArray} {ds : List TreeD} {css : List (List Value)} {vk vl : Value} (F : Nat → Nat → Prop) (hlen : css.length = ds.length) (h6 : ∀ es ∈ css, es.length = 6) (hk : w.ownsRow base 9 1 vk ks.length (ks.map Value.string)) (h : w.ownsRow base 40 6 vl css.length css.flatten)
    (hs : ∀ k ∈ ks, k.size ≤ 9223372036854775807) (hF : ∀ i b, F i b → S b ∧ vk.ownBlock ≠ some b ∧ vl.ownBlock ≠ some b) (hF2 : ∀ i j b, F i b → F j b → i = j) (hO : ∀ i d es, ds[i]? = some d → css[i]? = some es → OwnT n (F i) w d es) (hS : ∀ b, base ≤ b → b < w.heap.size → S b) :
    OwnT (n + 1) S w ⟨6, false, 0, ⟨#[]⟩, ks, ds⟩ [.int .i64 6, .bool false, .int .i64 0, .string ⟨#[]⟩, vk, vl] := by
  refine OwnT.into ⟨vk, vl, _, _, rfl, (show I64 6 from by unfold I64; decide), (show I64 0 from by unfold I64; decide), (show ByteArray.size ⟨#[]⟩ ≤ 9223372036854775807 from by decide), ?_, ?_, own_S hk hs, own_K F hlen h6 h (fun i b hf => (hF i b hf).2.2) hF2 hO⟩
  · intro b hb
    refine ⟨hS b (hk.lt b hb).1 (hk.lt b hb).2, ?_⟩
    rintro (h1 | ⟨i, h1⟩)
    · exact own_apart hk h (by decide) b hb h1
    · exact (hF i b h1).2.1 hb
  · rintro b (h1 | ⟨i, h1⟩)
    · exact hS b (h.lt b h1).1 (h.lt b h1).2
    · exact (hF i b h1).1
theorem own_leafT {n : Nat} {S : Nat → Prop} {w : World} {t : ByteArray} (ht : t.size ≤ 9223372036854775807) : OwnT (n + 1) S w (leafD t) (leafC t) :=
  OwnT.into ⟨.slice none 0 0, .slice none 0 0, fun _ => False, fun _ => False, rfl, (show I64 4 from by unfold I64; decide), (show I64 0 from by unfold I64; decide), ht, fun _ h => h.elim, fun _ h => h.elim, ⟨none, 0, rfl, Nat.le_refl _, by decide, fun h => by simp [leafD] at h⟩, ⟨none, 0, rfl, Nat.le_refl _, by decide, fun h => by simp [leafD] at h⟩⟩
theorem own_none {n : Nat} {S : Nat → Prop} {w : World} : OwnT (n + 1) S w ⟨0, false, 0, ⟨#[]⟩, [], []⟩ [.int .i64 0, .bool false, .int .i64 0, .string ⟨#[]⟩, .slice none 0 0, .slice none 0 0] :=
  OwnT.into ⟨.slice none 0 0, .slice none 0 0, fun _ => False, fun _ => False, rfl, (show I64 0 from by unfold I64; decide), (show I64 0 from by unfold I64; decide), (show ByteArray.size ⟨#[]⟩ ≤ 9223372036854775807 from by decide), fun _ h => h.elim, fun _ h => h.elim, ⟨none, 0, rfl, Nat.le_refl _, by decide, fun h => by simp at h⟩, ⟨none, 0, rfl, Nat.le_refl _, by decide, fun h => by simp at h⟩⟩
theorem leaf_six (ts : List ByteArray) : ∀ es ∈ ts.map leafC, es.length = 6 := by
  intro es h
  obtain ⟨t, -, rfl⟩ := List.mem_map.1 h
  rfl
/-- A map of texts. -/
theorem own_texts {n base : Nat} {w : World} {S : Nat → Prop} {ks ts : List ByteArray} {vk vl : Value} (hk : w.ownsRow base 9 1 vk ks.length (ks.map Value.string)) (h : w.ownsRow base 40 6 vl (ts.map leafC).length (ts.map leafC).flatten)
    (hs : ∀ k ∈ ks, k.size ≤ 9223372036854775807) (ht : ∀ t ∈ ts, t.size ≤ 9223372036854775807) (hS : ∀ b, base ≤ b → b < w.heap.size → S b) :
    OwnT (n + 2) S w ⟨6, false, 0, ⟨#[]⟩, ks, ts.map leafD⟩ [.int .i64 6, .bool false, .int .i64 0, .string ⟨#[]⟩, vk, vl] := by
  refine own_map (n := n + 1) (css := ts.map leafC) (fun _ _ => False) (by simp) (leaf_six ts) hk h hs (fun _ _ h => h.elim) (fun _ _ _ h => h.elim) ?_ hS
  intro i d es h1 h2
  rw [List.getElem?_map] at h1 h2
  rcases hi : ts[i]? with _ | t
  · rw [hi] at h1; cases h1
  · rw [hi] at h1 h2
    simp at h1 h2
    subst h1 h2
    exact own_leafT (ht t (List.mem_of_getElem? hi))
theorem LeafMap.carry {base tb : Nat} {w w' : World} {ks : List ByteArray} {css : List (List Value)} {vk vl : Value} (h : LeafMap base tb w ks css vk vl) (hb : Below w.heap.size w w') : LeafMap base tb w' ks css vk vl :=
  ⟨(hb.block tb (row_lt h.row)).trans h.row, ownsRow_carry h.keys (fun q hq => hb.block q (h.keys.lt q hq).2), ownsRow_carry h.kids (fun q hq => hb.block q (h.kids.lt q hq).2), h.six, h.lt⟩
theorem MapRows.carry {base : Nat} {w w' : World} {ks : List ByteArray} {css : List (List Value)} {vk vl : Value} (h : MapRows base w ks css vk vl) (hb : Below w.heap.size w w') : MapRows base w' ks css vk vl :=
  ⟨ownsRow_carry h.keys (fun q hq => hb.block q (h.keys.lt q hq).2), ownsRow_carry h.kids (fun q hq => hb.block q (h.kids.lt q hq).2), h.six, h.one⟩
theorem MapRows.less {base B : Nat} {w : World} {ks : List ByteArray} {css : List (List Value)} {vk vl : Value} (h : MapRows B w ks css vk vl) (hb : base ≤ B) : MapRows base w ks css vk vl := ⟨own_less h.keys hb, own_less h.kids hb, h.six, h.one⟩
theorem c_addLeaf (ks : List ByteArray) (css : List (List Value)) (key t : ByteArray) (vk vl : Value) (tb base : Nat) (w : World) (h : LeafMap base tb w ks css vk vl) (hb : base ≤ w.heap.size) (hk : ks.length ≤ 1048576) (hv : css.length ≤ 1048576) :
    Calls Try.prog 84 #[.pointer (some ⟨tb, 0, none⟩), .string key, .agg (leafC t).toArray] w fun e w' => ∃ vk' vl', e = .returned (.tuple #[]) ∧ LeafMap base tb w' (ks ++ [key]) (css ++ [leafC t]) vk' vl' ∧ Below tb w w' ∧ w.heap.size ≤ w'.heap.size := by
  refine (c_addKid ks css key t 4 0 false none none 0 0 0 0 vk vl tb base w h hb hk hv).mono ?_
  rintro e w' ⟨vk', vl', rfl, h1, h2⟩
  refine ⟨vk', vl', rfl, h1, h2.below (Nat.le_of_lt (row_lt h.row)) ?_, h2.size⟩
  rintro i (rfl | hi | hi)
  · exact Nat.le_refl _
  · have := (h.keys.lt i hi).1; have := h.lt; omega
  · have := (h.kids.lt i hi).1; have := h.lt; omega
theorem c_impl_TextTree (t : ByteArray) (w : World) : Calls Try.prog 85 #[.string t] w fun e w' => e = .returned (.agg (leafC t).toArray) ∧ Below w.heap.size w w' := by
  go_enter Try.func85, Try.ntmps85
  go_wp2_with fail
  exact bodyPost_ret (v := .agg #[.int .i64 4, .bool false, .int .i64 0, .string t, .slice none 0 0, .slice none 0 0]) (by simp only [results, Try.results85]; go_simp) rfl ⟨rfl, (by repeat (first | (with_reducible exact Below.refl _ _) | (with_reducible refine ext_alloc ?_) | ((with_reducible refine ext_setCell ?_ ?_); focus (simp; (try omega))) | (with_reducible refine below_drewN ?_ _) | (with_reducible refine Below.drew ?_) | (with_reducible (apply ext_step; assumption))))⟩
theorem c_spec_TextTree (t : ByteArray) (w : World) : Calls Try.prog 81 #[.string t] w fun e w' => e = .returned (.agg (leafC t).toArray) ∧ Below w.heap.size w w' := by
  go_enter Try.func81, Try.ntmps81
  go_wp2_with fail
  exact bodyPost_ret (v := .agg #[.int .i64 4, .bool false, .int .i64 0, .string t, .slice none 0 0, .slice none 0 0]) (by simp only [results, Try.results81]; go_simp) rfl ⟨rfl, (by repeat (first | (with_reducible exact Below.refl _ _) | (with_reducible refine ext_alloc ?_) | ((with_reducible refine ext_setCell ?_ ?_); focus (simp; (try omega))) | (with_reducible refine below_drewN ?_ _) | (with_reducible refine Below.drew ?_) | (with_reducible (apply ext_step; assumption))))⟩
theorem c_effectWord (x : Int) (w : World) : Calls Try.prog 86 #[.int .i64 x] w fun e w' => e = .returned (.string (effW x)) ∧ Below w.heap.size w w' := by
  by_cases hx : x = 1
  · subst hx
    go_enter Try.func86, Try.ntmps86
    go_wp2_with fail
    go_ret
    exact ⟨rfl, (by repeat (first | (with_reducible exact Below.refl _ _) | (with_reducible refine ext_alloc ?_) | ((with_reducible refine ext_setCell ?_ ?_); focus (simp; (try omega))) | (with_reducible refine below_drewN ?_ _) | (with_reducible refine Below.drew ?_) | (with_reducible (apply ext_step; assumption))))⟩
  · have hx2 : (x == 1) = false := beq_eq_false_iff_ne.2 hx
    go_enter Try.func86, Try.ntmps86
    go_wp2_with fail
    go_ret
    exact ⟨by rw [show effW x = ⟨#[115, 111, 102, 116]⟩ from if_neg hx]; rfl, (by repeat (first | (with_reducible exact Below.refl _ _) | (with_reducible refine ext_alloc ?_) | ((with_reducible refine ext_setCell ?_ ?_); focus (simp; (try omega))) | (with_reducible refine below_drewN ?_ _) | (with_reducible refine Below.drew ?_) | (with_reducible (apply ext_step; assumption))))⟩
theorem c_l19Effects (w : World) : Calls Try.prog 82 #[] w fun e w' => e = .returned (.slice (some ⟨w.heap.size, 0, none⟩) 3 3) ∧ w'.heap[w.heap.size]? = some (.cells #[.string ⟨#[]⟩, .string ⟨#[110, 101, 118, 101, 114]⟩, .string ⟨#[115, 111, 102, 116]⟩] 9 (0, 0)) ∧ Below w.heap.size w w' := by
  go_enter Try.func82, Try.ntmps82
  go_wp2_with fail
  go_ret
  exact ⟨rfl, heap_at (by simp), (by repeat (first | (with_reducible exact Below.refl _ _) | (with_reducible refine ext_alloc ?_) | ((with_reducible refine ext_setCell ?_ ?_); focus (simp; (try omega))) | (with_reducible refine below_drewN ?_ _) | (with_reducible refine Below.drew ?_) | (with_reducible (apply ext_step; assumption))))⟩
theorem put_fin {base b B : Nat} {w w1 wF : World} {ks : List ByteArray} {css : List (List Value)} {vk vl : Value} {k0 m0 : Int} {f0 : Bool} {t0 : ByteArray} (hm : MapRows B w1 ks css vk vl) (hbB : base ≤ B) (hB : b < B) (hF : Aside (fun i => i = b) w1 wF) (hw : Below w.heap.size w w1) (hbase : base = w.heap.size) (hb : base ≤ b) :
    ∃ vk' vl', Ending.returned (.agg #[.int .i64 k0, .bool f0, .int .i64 m0, .string t0, vk, vl]) = Ending.returned (.agg #[.int .i64 k0, .bool f0, .int .i64 m0, .string t0, vk', vl']) ∧ MapRows base wF ks css vk' vl' ∧ Below w.heap.size w wF :=
  ⟨vk, vl, rfl, ⟨ownsRow_carry (own_less hm.keys hbB) (fun q hq => hF.block q (hm.keys.lt q hq).2 (by have := (hm.keys.lt q hq).1; omega)), ownsRow_carry (own_less hm.kids hbB) (fun q hq => hF.block q (hm.kids.lt q hq).2 (by have := (hm.kids.lt q hq).1; omega)), hm.six, hm.one⟩,
    hw.trans (hF.below hw.size (fun i hi => by omega))⟩
set_option maxHeartbeats 2000000 in
set_option maxRecDepth 10000 in
theorem c_l20Put (ks : List ByteArray) (vs : List (List Value)) (key t : ByteArray) (k0 m0 k m : Int) (f0 f : Bool) (t0 : ByteArray) (B4 B5 : Option Addr) (n4 d4 n5 d5 : Nat) (vk vl : Value) (base : Nat) (w : World) (h : MapRows base w ks vs vk vl) (hlen : vs.length = ks.length) (hks : ∀ x ∈ ks, x.size ≤ 9223372036854775807) (hlt : ∀ x ∈ ks, lessS x key = true) (hk : ks.length ≤ 1048576) :
    Calls Try.prog 80 #[.agg #[.int .i64 k0, .bool f0, .int .i64 m0, .string t0, vk, vl], .string key, .agg #[.int .i64 k, .bool f, .int .i64 m, .string t, .slice B4 n4 d4, .slice B5 n5 d5]] w fun e w' => ∃ vk' vl', e = .returned (.agg #[.int .i64 k0, .bool f0, .int .i64 m0, .string t0, vk', vl']) ∧ MapRows w.heap.size w' (ks ++ [key]) (vs ++ [[.int .i64 k, .bool f, .int .i64 m, .string t, .slice B4 n4 d4, .slice B5 n5 d5]]) vk' vl' ∧ Below w.heap.size w w' := by
  obtain ⟨A4, c4, rfl⟩ := own_form h.keys
  obtain ⟨A5, c5, rfl⟩ := own_form h.kids
  have Hlen := Lib.hid hlen
  clear hlen
  go_enter Try.func80, Try.ntmps80
  go_wp2_with fail
  refine (c_lay ks vs key t k0 m0 k m f0 f t0 B4 B5 n4 d4 n5 d5 _ _ base _ (h.carry (by repeat (first | (with_reducible exact Below.refl _ _) | (with_reducible refine ext_alloc ?_) | ((with_reducible refine ext_setCell ?_ ?_); focus (simp; (try omega))) | (with_reducible refine below_drewN ?_ _) | (with_reducible refine Below.drew ?_) | (with_reducible (apply ext_step; assumption))))) Hlen.out hks hlt hk).mono ?_
  rintro e w1 ⟨vk', vl', rfl, hm, hb⟩
  have Bw : Below w.heap.size w w1 := Below.trans (by repeat (first | (with_reducible exact Below.refl _ _) | (with_reducible refine ext_alloc ?_) | ((with_reducible refine ext_setCell ?_ ?_); focus (simp; (try omega))) | (with_reducible refine below_drewN ?_ _) | (with_reducible refine Below.drew ?_) | (with_reducible (apply ext_step; assumption)))) (hb.mono (by simp; omega))
  have hz := hb.size
  simp at hz
  have R := (hb.block (w.heap.size + 1 + 1) (by simp)).trans (heap_at (by simp))
  obtain ⟨A6, c6, rfl⟩ := own_form hm.keys
  obtain ⟨A7, c7, rfl⟩ := own_form hm.kids
  have HM2 := Lib.hid (hm.less (show w.heap.size + 1 + 1 + 1 ≤ _ by simp))
  simp only [List.length_append, List.length_cons, List.length_nil, Nat.zero_add] at HM2
  clear hm hb
  obtain ⟨x0, x1, x2, x3, x4, x5, xf⟩ := row6 R
  have hl := row_lt R
  clear R
  go_wp2_with fail
  refine bodyPost_ret (v := .agg #[.int .i64 k0, .bool f0, .int .i64 m0, .string t0, .slice A6 (ks.length + 1) c6, .slice A7 (vs.length + 1) c7]) (by simp only [results, Try.results80]; go_simp) rfl (put_fin (b := w.heap.size + 1 + 1) (B := w.heap.size + 1 + 1 + 1) HM2.out (by omega) (by omega) ((by repeat (first | (with_reducible exact Aside.refl _ _) | ((with_reducible refine aside_set ?_ ?_); (focus (simp; done))) | (with_reducible refine aside_alloc ?_))) : Aside (fun b => b = w.heap.size + 1 + 1) w1 _) Bw rfl (by omega))
end Go.Proofs.Ytipogknfbofbkaa
