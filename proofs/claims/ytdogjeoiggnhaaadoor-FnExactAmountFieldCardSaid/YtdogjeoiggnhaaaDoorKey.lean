/- Contracts of KeyAt, and of slices.Clone of strings. No conditions. -/
import Derived.Test.YtdogjeoiggnhaaaDoorGrow
import Derived.Test.YtdogjeoiggnhaaaDoorLab
import Derived.Lib.LazyBuf
namespace Go.Proofs.YtdogjeoiggnhaaaDoor
open Go.RowKit Go.Lib

theorem idx_hit {D : Type} (p : D → Bool) : ∀ (l : List D) (k : Nat) (d : D), l[k]? = some d → (l.take k).any p = false → p d = true → l.findIdx? p = some k
  | [], k, d, h, _, _ => by simp at h
  | x :: l, 0, d, h, _, hp => by simp at h; subst h; simp [List.findIdx?_cons, hp]
  | x :: l, k + 1, d, h, ha, hp => by
    simp only [List.take_succ_cons, List.any_cons, Bool.or_eq_false_iff] at ha
    simp only [List.getElem?_cons_succ] at h
    rw [List.findIdx?_cons, ha.1, idx_hit p l k d h ha.2 hp]
    rfl
theorem idx_end {D : Type} (p : D → Bool) (l : List D) (ha : (l.take l.length).any p = false) : l.findIdx? p = none := by
  rw [List.take_length] at ha
  rw [List.findIdx?_eq_none_iff]
  intro x hx
  rw [List.any_eq_false] at ha
  simpa using ha x hx
/-- The place of s among l, or -1. -/
def idxI (l : List ByteArray) (s : ByteArray) : Int := match l.findIdx? (isS s) with | some k => (k : Int) | none => -1
theorem idxI_hit (l : List ByteArray) (s : ByteArray) (k : Nat) (d : ByteArray) (h : l[k]? = some d) (ha : (l.take k).any (isS s) = false) (hp : isS s d = true) : idxI l s = k := by
  unfold idxI; rw [idx_hit _ l k d h ha hp]
theorem idxI_end (l : List ByteArray) (s : ByteArray) (ha : (l.take l.length).any (isS s) = false) : idxI l s = -1 := by
  unfold idxI; rw [idx_end _ l ha]
theorem idxI_cases (l : List ByteArray) (s : ByteArray) : idxI l s = -1 ∨ ∃ k, k < l.length ∧ idxI l s = (k : Int) := by
  unfold idxI
  rcases h : l.findIdx? (isS s) with _ | k
  · exact .inl rfl
  · exact .inr ⟨k, (List.findIdx?_eq_some_iff_findIdx_eq.1 h).1, rfl⟩
def keyI (d : TreeD) (key : ByteArray) : Int := if d.kind = 6 then idxI d.keys key else -1
theorem c_IndexX_Str (l : List ByteArray) (s : ByteArray) (v : Value) (w : World) (lo : Nat) (hs : Sl_Str lo w.heap.size w l v) :
    Calls Tryd.prog 37 #[v, .string s] w fun e w' => e = .returned (.int .i64 (idxI l s)) ∧ Below w.heap.size w w' := by
  obtain ⟨A, c, rfl, hlc, hc, hA⟩ := hs
  go_enter Tryd.func37, Tryd.ntmps37
  go_wp2_with fail
  go_loopw [8] (fun i wr => ∃ k : Nat, k ≤ l.length ∧ i = .int .i64 k ∧ (l.take k).any (isS s) = false ∧ Below w.heap.size w wr) (fun i _ => l.length - (intOf i).toNat)
  case atStart => exact ⟨0, Nat.zero_le _, rfl, rfl, (by repeat (first | (with_reducible exact Below.refl _ _) | (with_reducible refine ext_alloc ?_) | ((with_reducible refine ext_setCell ?_ ?_); focus (simp; (try omega))) | (with_reducible refine below_drewN ?_ _) | (with_reducible refine Below.drew ?_) | (with_reducible (apply ext_step; assumption))))⟩
  case round =>
    obtain ⟨k, hk, rfl, hall, hbr⟩ := hrel
    have Hall := Lib.hid hall
    clear hall
    by_cases hlt : k < l.length
    · obtain ⟨b, o, rfl, -, hb2, hcell⟩ := hA (by omega)
      obtain ⟨d, hd⟩ := exists_at hlt
      obtain ⟨es, -, hcs, hC⟩ := hcell k d hd
      obtain ⟨rfl, ea0⟩ := hC
      have hc0 := (hbr.cell (p := ⟨b, o + k * 1 + 0, none⟩) (by simp; omega)).trans (hcs 0 (by omega))
      simp at hc0
      have hbl : b < wr.heap.size := Nat.lt_of_lt_of_le hb2 hbr.size
      have hk0 : (0 : Int) ≤ k := by omega
      have hk1 : (k : Int) < l.length := by omega
      have hq2 : (s.toList == d.toList) = (d.toList == s.toList) := by rw [Bool.eq_iff_iff, beq_iff_eq, beq_iff_eq]; exact eq_comm
      rcases hq : (d.toList == s.toList) with _ | _
      · have Hn := Lib.hid (takeAny_no (isS s) l k d hd Hall.out hq)
        rw [hq] at hq2
        clear hcs hcell hA hd
        go_wp2_with fail
        go_roundw
        case rel => exact ⟨k + 1, by omega, by go_num, Hn.out, (by repeat (first | (with_reducible exact Below.refl _ _) | (with_reducible refine ext_alloc ?_) | ((with_reducible refine ext_setCell ?_ ?_); focus (simp; (try omega))) | (with_reducible refine below_drewN ?_ _) | (with_reducible refine Below.drew ?_) | (with_reducible (apply ext_step; assumption))))⟩
        case measure => simp [intOf]; omega
      · have Hh := Lib.hid (idxI_hit l s k d hd Hall.out hq)
        rw [hq] at hq2
        clear hcs hcell hA hd
        go_wp2_with fail
        go_ret
        exact ⟨ret_int Hh.out.symm, (by repeat (first | (with_reducible exact Below.refl _ _) | (with_reducible refine ext_alloc ?_) | ((with_reducible refine ext_setCell ?_ ?_); focus (simp; (try omega))) | (with_reducible refine below_drewN ?_ _) | (with_reducible refine Below.drew ?_) | (with_reducible (apply ext_step; assumption))))⟩
    · obtain rfl : k = l.length := by omega
      have Hh := Lib.hid (idxI_end l s Hall.out)
      clear hA
      go_wp2_with fail
      go_ret
      exact ⟨ret_int Hh.out.symm, (by repeat (first | (with_reducible exact Below.refl _ _) | (with_reducible refine ext_alloc ?_) | ((with_reducible refine ext_setCell ?_ ?_); focus (simp; (try omega))) | (with_reducible refine below_drewN ?_ _) | (with_reducible refine Below.drew ?_) | (with_reducible (apply ext_step; assumption))))⟩
theorem c_impl_KeyAt (n : Nat) (d : TreeD) (cs : List Value) (key : ByteArray) (w : World) (lo : Nat) (h : C_Tree n lo w.heap.size w d cs) :
    Calls Tryd.prog 30 #[.agg cs.toArray, .string key] w fun e w' => e = .returned (.int .i64 (keyI d key)) ∧ Below w.heap.size w w' := by
  obtain ⟨m, rfl⟩ := h.any
  obtain ⟨v4, v5, rfl, a0, a2, a3, a4, a5⟩ := h.out
  obtain ⟨A4, c4, rfl⟩ := a4.form
  obtain ⟨A5, c5, rfl⟩ := a5.form
  by_cases hq : d.kind = 6
  · have Hf := Lib.hid (show keyI d key = idxI d.keys key by unfold keyI; rw [if_pos hq])
    have hx : (d.kind != 6) = false := by simp [hq]
    clear hq
    go_enter Tryd.func30, Tryd.ntmps30
    go_wp2_with (go_at_call 37; refine (c_IndexX_Str d.keys _ _ _ _ (a4.now (by repeat (first | (with_reducible exact Below.refl _ _) | (with_reducible refine ext_alloc ?_) | ((with_reducible refine ext_setCell ?_ ?_); focus (simp; (try omega))) | (with_reducible refine below_drewN ?_ _) | (with_reducible refine Below.drew ?_) | (with_reducible (apply ext_step; assumption)))))).mono ?_; rintro e w1 ⟨rfl, hb⟩; (first | (have hcu2 := Cum.join hcu hb; (try clear hcu); (try clear hc); (try clear hfz); (try clear hsz); (try clear hs0); (try clear hs1); (try clear hs2); (try clear hs3); (try clear hs4); ) | have hcu2 := Cum.mk hb); have hcu := hcu2; clear hcu2; obtain ⟨hc, hfz⟩ := bcell hcu.h; have hsz := hcu.h.size; (try simp at hsz); (try have hs0 := lt_of_succ_le hsz); (try (have hs1 := lt_pred hsz; (try (have hs2 := lt_pred hs1; (try (have hs3 := lt_pred hs2; (try have hs4 := lt_pred hs3))))))))
    go_ret
    exact ⟨ret_int Hf.out.symm, (by repeat (first | (with_reducible exact Below.refl _ _) | (with_reducible refine ext_alloc ?_) | ((with_reducible refine ext_setCell ?_ ?_); focus (simp; (try omega))) | (with_reducible refine below_drewN ?_ _) | (with_reducible refine Below.drew ?_) | (with_reducible (apply ext_step; assumption))))⟩
  · have Hf := Lib.hid (show keyI d key = -1 by unfold keyI; rw [if_neg hq])
    have hx : (d.kind != 6) = true := by simp [hq]
    go_enter Tryd.func30, Tryd.ntmps30
    go_wp2_with fail
    go_ret
    exact ⟨ret_int Hf.out.symm, (by repeat (first | (with_reducible exact Below.refl _ _) | (with_reducible refine ext_alloc ?_) | ((with_reducible refine ext_setCell ?_ ?_); focus (simp; (try omega))) | (with_reducible refine below_drewN ?_ _) | (with_reducible refine Below.drew ?_) | (with_reducible (apply ext_step; assumption))))⟩
theorem c_spec_KeyAt (n : Nat) (d : TreeD) (cs : List Value) (key : ByteArray) (w : World) (lo : Nat) (h : C_Tree n lo w.heap.size w d cs) :
    Calls Tryd.prog 25 #[.agg cs.toArray, .string key] w fun e w' => e = .returned (.int .i64 (keyI d key)) ∧ Below w.heap.size w w' := by
  obtain ⟨m, rfl⟩ := h.any
  obtain ⟨v4, v5, rfl, a0, a2, a3, a4, a5⟩ := h.out
  obtain ⟨A4, c4, rfl, hlc, hcc, hA⟩ := a4
  obtain ⟨A5, c5, rfl⟩ := a5.form
  by_cases hq : d.kind = 6
  · have Hf := Lib.hid (show keyI d key = idxI d.keys key by unfold keyI; rw [if_pos hq])
    have hx : (d.kind == 6) = true := by simp [hq]
    clear hq
    go_enter Tryd.func25, Tryd.ntmps25
    go_wp2_with fail
    go_loopw [5] (fun i wr => ∃ k : Nat, k ≤ d.keys.length ∧ i = .int .i64 k ∧ (d.keys.take k).any (isS key) = false ∧ ∃ n, wr = (w.alloc (.cells #[.int .i64 d.kind, .bool d.flag, .int .i64 d.num, .string d.text, .slice A4 d.keys.length c4, .slice A5 d.kids.length c5] 33)).drewN n) (fun i _ => d.keys.length - (intOf i).toNat)
    case atStart => exact ⟨0, Nat.zero_le _, rfl, rfl, 0, rfl⟩
    case round =>
      obtain ⟨k, hk, rfl, hall, n, rfl⟩ := hrel
      have Hall := Lib.hid hall
      clear hall
      by_cases hlt : k < d.keys.length
      · obtain ⟨b, o, rfl, -, hb2, hcell⟩ := hA (by omega)
        obtain ⟨s, hd⟩ := exists_at hlt
        obtain ⟨es, -, hcs, hC⟩ := hcell k s hd
        obtain ⟨rfl, ea0⟩ := hC
        have hc0 := hcs 0 (by omega)
        simp at hc0
        have hk0 : (0 : Int) ≤ k := by omega
        have hk1 : (k : Int) < d.keys.length := by omega
        rcases hq : (s.toList == key.toList) with _ | _
        · have Hn := Lib.hid (takeAny_no (isS key) d.keys k s hd Hall.out hq)
          clear hcs hcell hA hd
          go_wp2_with fail
          go_roundw
          case rel => exact ⟨k + 1, by omega, by go_num, Hn.out, _, rfl⟩
          case measure => simp [intOf]; omega
        · have Hh := Lib.hid (idxI_hit d.keys key k s hd Hall.out hq)
          clear hcs hcell hA hd
          go_wp2_with fail
          go_ret
          exact ⟨ret_int (by rw [Hf.out, Hh.out]), (by repeat (first | (with_reducible exact Below.refl _ _) | (with_reducible refine ext_alloc ?_) | ((with_reducible refine ext_setCell ?_ ?_); focus (simp; (try omega))) | (with_reducible refine below_drewN ?_ _) | (with_reducible refine Below.drew ?_) | (with_reducible (apply ext_step; assumption))))⟩
      · obtain rfl : k = d.keys.length := by omega
        have Hh := Lib.hid (idxI_end d.keys key Hall.out)
        clear hA
        go_wp2_with fail
        go_ret
        exact ⟨ret_int (by rw [Hf.out, Hh.out]), (by repeat (first | (with_reducible exact Below.refl _ _) | (with_reducible refine ext_alloc ?_) | ((with_reducible refine ext_setCell ?_ ?_); focus (simp; (try omega))) | (with_reducible refine below_drewN ?_ _) | (with_reducible refine Below.drew ?_) | (with_reducible (apply ext_step; assumption))))⟩
  · have Hf := Lib.hid (show keyI d key = -1 by unfold keyI; rw [if_neg hq])
    have hx : (d.kind == 6) = false := by simp [hq]
    clear hA
    go_enter Tryd.func25, Tryd.ntmps25
    go_wp2_with fail
    go_loopw [5] (fun i wr => i = .int .i64 0 ∧ wr = w.alloc (.cells #[.int .i64 d.kind, .bool d.flag, .int .i64 d.num, .string d.text, .slice A4 d.keys.length c4, .slice A5 d.kids.length c5] 33)) (fun _ _ => 0)
    case atStart => exact ⟨rfl, rfl⟩
    case round =>
      obtain ⟨rfl, rfl⟩ := hrel
      by_cases hl : (0 : Int) < d.keys.length
      · go_wp2_with fail
        go_ret
        exact ⟨ret_int Hf.out.symm, (by repeat (first | (with_reducible exact Below.refl _ _) | (with_reducible refine ext_alloc ?_) | ((with_reducible refine ext_setCell ?_ ?_); focus (simp; (try omega))) | (with_reducible refine below_drewN ?_ _) | (with_reducible refine Below.drew ?_) | (with_reducible (apply ext_step; assumption))))⟩
      · go_wp2_with fail
        go_ret
        exact ⟨ret_int Hf.out.symm, (by repeat (first | (with_reducible exact Below.refl _ _) | (with_reducible refine ext_alloc ?_) | ((with_reducible refine ext_setCell ?_ ?_); focus (simp; (try omega))) | (with_reducible refine below_drewN ?_ _) | (with_reducible refine Below.drew ?_) | (with_reducible (apply ext_step; assumption))))⟩
set_option maxRecDepth 10000 in
theorem c_Clone_Str (l : List ByteArray) (v : Value) (w : World) (lo : Nat) (hs : Sl_Str lo w.heap.size w l v) (hn : l.length ≤ 1048576) :
    Calls Tryd.prog 38 #[v] w fun e w' => ∃ A c, e = .returned (.slice A l.length c) ∧ OwnS (fun b => w.heap.size ≤ b ∧ b < w'.heap.size) w' l (.slice A l.length c) ∧ Below w.heap.size w w' := by
  obtain ⟨i0, hi, hz0, hz1, hz2⟩ := info_parts (show (Tryd.prog.info? 9).map (fun i => (i.zero, i.size, i.bytes)) = some (some (.string ⟨#[]⟩), 1, 16) from by kernel_rfl)
  have heq := fun (a : Option Addr) (n c : Nat) (w : World) => run_eql_slice_nil (P := Tryd.prog) w 22 9 a n c Tryd.underlying22
  have hs' := hs
  obtain ⟨A, c, rfl, hlc, hc, hA⟩ := hs
  by_cases hp : 0 < l.length
  · obtain ⟨b, o, rfl, -⟩ := hA hp
    clear hA
    have hb0 : Below w.heap.size w (w.alloc (.cells #[] 9)) := (by repeat (first | (with_reducible exact Below.refl _ _) | (with_reducible refine ext_alloc ?_) | ((with_reducible refine ext_setCell ?_ ?_); focus (simp; (try omega))) | (with_reducible refine below_drewN ?_ _) | (with_reducible refine Below.drew ?_) | (with_reducible (apply ext_step; assumption))))
    have Hnews := Lib.hid (news_strs (Sl_Str.now hs' hb0) hp)
    have Hown := Lib.hid (World.ownsRow_made (base := w.heap.size) (e := 9) (size := 1) w #[] 0 (Nat.le_refl _) (by decide) rfl)
    go_enter Tryd.func38, Tryd.ntmps38
    go_wp2_with (at_builtin; refine wpList_append_lies _ rfl _ _ 22 rfl w.heap.size 9 i0 (.string ⟨#[]⟩) 1 16 Tryd.underlying22 hi hz0 hz1 hz2 rfl (by decide) _ 0 [] rfl Hown.out ⟨b, o, none⟩ l.length c (l.map Value.string) rfl (by simp) Hnews.out (one_strs l) hp (by unfold maxLen; omega) (by omega) (by simp) _ rfl ?_)
    intro g cap w1 hown hgrow hat hlt
    go_wp2_with fail
    go_ret
    refine ⟨some ⟨g, 0, none⟩, cap, rfl, ?_, Below.grown hb0 hgrow (by simp) (fun k hk => ?_)⟩
    · have hgs : GrowS w.heap.size w1.heap.size w1 l (.slice (some ⟨g, 0, none⟩) l.length cap) := ⟨hown, fun g' hg' => (hown.lt g' hg').2, size_strs hs'⟩
      exact hgs.own
    · simp [Value.ownBlock] at hk; omega
  · obtain rfl : l = [] := List.eq_nil_of_length_eq_zero (by omega)
    clear hA
    rcases A with _ | ⟨b, o, sp⟩
    · go_enter Tryd.func38, Tryd.ntmps38
      go_wp2_with fail
      go_ret
      exact ⟨_, _, rfl, ⟨_, _, rfl, by simp, by omega, fun h => by simp at h⟩, (by repeat (first | (with_reducible exact Below.refl _ _) | (with_reducible refine ext_alloc ?_) | ((with_reducible refine ext_setCell ?_ ?_); focus (simp; (try omega))) | (with_reducible refine below_drewN ?_ _) | (with_reducible refine Below.drew ?_) | (with_reducible (apply ext_step; assumption))))⟩
    · have Hown := Lib.hid (World.ownsRow_made (base := w.heap.size) (e := 9) (size := 1) w #[] 0 (Nat.le_refl _) (by decide) rfl)
      go_enter Tryd.func38, Tryd.ntmps38
      go_wp2_with (at_builtin; refine wpList_append_own_at _ rfl _ _ 22 rfl w.heap.size 9 i0 (.string ⟨#[]⟩) 1 16 Tryd.underlying22 hi hz0 hz1 hz2 rfl (by decide) _ 0 [] rfl Hown.out ⟨b, o, sp⟩ 0 c [] rfl (by simp) (fun j u h => by simp at h) (fun u h => by simp at h) (by decide) (by decide) (by simp) ?_)
      intro v' w1 hown hgrow _ hat
      obtain ⟨A', c', hv, -⟩ := (GrowS.own (hi := w1.heap.size) (l := []) (v := v') ⟨hown, fun g' hg' => (hown.lt g' hg').2, fun s h => by simp at h⟩)
      subst hv
      go_wp2_with fail
      go_ret
      refine ⟨A', c', rfl, GrowS.own ⟨hown, fun g' hg' => (hown.lt g' hg').2, fun s h => by simp at h⟩, Below.grown ((by repeat (first | (with_reducible exact Below.refl _ _) | (with_reducible refine ext_alloc ?_) | ((with_reducible refine ext_setCell ?_ ?_); focus (simp; (try omega))) | (with_reducible refine below_drewN ?_ _) | (with_reducible refine Below.drew ?_) | (with_reducible (apply ext_step; assumption)))) : Below w.heap.size w _) hgrow (by simp) (fun k hk => ?_)⟩
      simp [Value.ownBlock] at hk; omega
end Go.Proofs.YtdogjeoiggnhaaaDoor
