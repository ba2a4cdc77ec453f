/- Contracts of the laws' own functions on trees: sizes, copies, comparisons. No conditions. Written by wip/tools/gentree.py. -/
import Derived.Test.YtdogjeoiggnhaaaDoorTree
namespace Go.Proofs.YtdogjeoiggnhaaaDoor
open Go.RowKit

def T_szTree (n : Nat) : Prop := ∀ (d : TreeD) (cs : List Value) (left : Int) (w : World) (lo : Nat) (_ : C_Tree n lo w.heap.size w d cs) (_ : 0 ≤ left) (_ : left ≤ 1048576),
    Calls Tryd.prog 4 #[.agg cs.toArray, .int .i64 left] w fun e w' => e = .returned (.int .i64 (szI left (nTree n d))) ∧ Below w.heap.size w w'
def T_szTreeS (n : Nat) : Prop := ∀ (l : List TreeD) (v : Value) (left : Int) (w : World) (lo : Nat) (_ : Sl_Tree n lo w.heap.size w l v) (_ : 0 ≤ left) (_ : left ≤ 1048576),
    Calls Tryd.prog 11 #[v, .int .i64 left] w fun e w' => e = .returned (.int .i64 (szI left (nL (nTree n) l))) ∧ Below w.heap.size w w'
set_option maxHeartbeats 2000000 in
theorem of_szTreeS (n : Nat) (ih : T_szTree n) : T_szTreeS n := by
  intro l v left w lo hs h3 h4
  obtain ⟨A, c, rfl, hlc, hc, hA⟩ := hs
  by_cases hlt : left - l.length < 0
  · have Hf := Lib.hid (show szI left (nL (nTree n) l) = -1 by rw [nL_def]; unfold szI; rw [if_neg (by omega)])
    go_enter Tryd.func11, Tryd.ntmps11
    go_wp2_with fail
    go_ret
    exact ⟨ret_int Hf.out.symm, (by repeat (first | (with_reducible exact Below.refl _ _) | (with_reducible refine ext_alloc ?_) | ((with_reducible refine ext_setCell ?_ ?_); focus (simp; (try omega))) | (with_reducible refine below_drewN ?_ _) | (with_reducible refine Below.drew ?_) | (with_reducible (apply ext_step; assumption))))⟩
  · go_enter Tryd.func11, Tryd.ntmps11
    go_wp2_with fail
    go_loopw [1, 5] (fun x i wr => ∃ k : Nat, k ≤ l.length ∧ i = .int .i64 k ∧ x = .int .i64 (left - l.length - szL (nTree n) (l.take k)) ∧ 0 ≤ left - l.length - szL (nTree n) (l.take k) ∧ Below w.heap.size w wr) (fun _ i _ => l.length - (intOf i).toNat)
    case atStart => exact ⟨0, Nat.zero_le _, rfl, by simp [szL], by simp [szL]; omega, (by repeat (first | (with_reducible exact Below.refl _ _) | (with_reducible refine ext_alloc ?_) | ((with_reducible refine ext_setCell ?_ ?_); focus (simp; (try omega))) | (with_reducible refine below_drewN ?_ _) | (with_reducible refine Below.drew ?_) | (with_reducible (apply ext_step; assumption))))⟩
    case round =>
      obtain ⟨k, hk, rfl, rfl, hge, hbr⟩ := hrel
      by_cases hlt : k < l.length
      · obtain ⟨b, o, rfl, -, hb2, hcell⟩ := hA (by omega)
        obtain ⟨d, hd⟩ := exists_at hlt
        obtain ⟨cs, -, hcs, hC⟩ := hcell k d hd
        have hC' := hC
        obtain ⟨eA4, ec4, eA5, ec5, rfl, ea0, ea2, ea3⟩ := hC'.flat
        have hc0 := (hbr.cell (p := ⟨b, o + k * 6 + 0, none⟩) (by simp; omega)).trans (hcs 0 (by omega))
        simp at hc0
        have hc1 := (hbr.cell (p := ⟨b, o + k * 6 + 1, none⟩) (by simp; omega)).trans (hcs 1 (by omega))
        simp at hc1
        have hc2 := (hbr.cell (p := ⟨b, o + k * 6 + 2, none⟩) (by simp; omega)).trans (hcs 2 (by omega))
        simp at hc2
        have hc3 := (hbr.cell (p := ⟨b, o + k * 6 + 3, none⟩) (by simp; omega)).trans (hcs 3 (by omega))
        simp at hc3
        have hc4 := (hbr.cell (p := ⟨b, o + k * 6 + 4, none⟩) (by simp; omega)).trans (hcs 4 (by omega))
        simp at hc4
        have hc5 := (hbr.cell (p := ⟨b, o + k * 6 + 5, none⟩) (by simp; omega)).trans (hcs 5 (by omega))
        simp at hc5
        clear hcs hcell hA
        have Hs := Lib.hid (szL_take_succ (nTree n) l k d hd)
        have hle := szL_take_le (nTree n) l (k+1)
        by_cases hneg : left - l.length - szL (nTree n) (l.take k) - nTree n d < 0
        · have hz : szI (left - l.length - szL (nTree n) (l.take k)) (nTree n d) = -1 := szI_neg (by omega)
          have Hf := Lib.hid (show szI left (nL (nTree n) l) = -1 by rw [nL_def]; unfold szI; have := Hs.out; rw [if_neg (by omega)])
          go_wp2_with (go_at_call 4; refine (ih d _ _ _ _ (hC.now (by repeat (first | (with_reducible exact Below.refl _ _) | (with_reducible refine ext_alloc ?_) | ((with_reducible refine ext_setCell ?_ ?_); focus (simp; (try omega))) | (with_reducible refine below_drewN ?_ _) | (with_reducible refine Below.drew ?_) | (with_reducible (apply ext_step; assumption))))) (by omega) (by omega)).mono ?_; rintro e w1 ⟨rfl, hb⟩; (first | (have hcu2 := Cum.join hcu hb; (try clear hcu); (try clear hc); (try clear hfz); (try clear hsz); (try clear hs0); (try clear hs1); (try clear hs2); (try clear hs3); (try clear hs4); ) | have hcu2 := Cum.mk hb); have hcu := hcu2; clear hcu2; obtain ⟨hc, hfz⟩ := bcell hcu.h; have hsz := hcu.h.size; (try simp at hsz); (try have hs0 := lt_of_succ_le hsz); (try (have hs1 := lt_pred hsz; (try (have hs2 := lt_pred hs1; (try (have hs3 := lt_pred hs2; (try have hs4 := lt_pred hs3))))))))
          go_ret
          exact ⟨ret_int Hf.out.symm, (by repeat (first | (with_reducible exact Below.refl _ _) | (with_reducible refine ext_alloc ?_) | ((with_reducible refine ext_setCell ?_ ?_); focus (simp; (try omega))) | (with_reducible refine below_drewN ?_ _) | (with_reducible refine Below.drew ?_) | (with_reducible (apply ext_step; assumption))))⟩
        · have hz : szI (left - l.length - szL (nTree n) (l.take k)) (nTree n d) = left - l.length - szL (nTree n) (l.take k) - nTree n d := szI_pos (by omega)
          go_wp2_with (go_at_call 4; refine (ih d _ _ _ _ (hC.now (by repeat (first | (with_reducible exact Below.refl _ _) | (with_reducible refine ext_alloc ?_) | ((with_reducible refine ext_setCell ?_ ?_); focus (simp; (try omega))) | (with_reducible refine below_drewN ?_ _) | (with_reducible refine Below.drew ?_) | (with_reducible (apply ext_step; assumption))))) (by omega) (by omega)).mono ?_; rintro e w1 ⟨rfl, hb⟩; (first | (have hcu2 := Cum.join hcu hb; (try clear hcu); (try clear hc); (try clear hfz); (try clear hsz); (try clear hs0); (try clear hs1); (try clear hs2); (try clear hs3); (try clear hs4); ) | have hcu2 := Cum.mk hb); have hcu := hcu2; clear hcu2; obtain ⟨hc, hfz⟩ := bcell hcu.h; have hsz := hcu.h.size; (try simp at hsz); (try have hs0 := lt_of_succ_le hsz); (try (have hs1 := lt_pred hsz; (try (have hs2 := lt_pred hs1; (try (have hs3 := lt_pred hs2; (try have hs4 := lt_pred hs3))))))))
          go_roundw
          case rel => exact ⟨k + 1, by omega, by go_num, by rw [Hs.out]; go_num, by rw [Hs.out]; omega, (by repeat (first | (with_reducible exact Below.refl _ _) | (with_reducible refine ext_alloc ?_) | ((with_reducible refine ext_setCell ?_ ?_); focus (simp; (try omega))) | (with_reducible refine below_drewN ?_ _) | (with_reducible refine Below.drew ?_) | (with_reducible (apply ext_step; assumption))))⟩
          case measure => simp [intOf]; omega
      · obtain rfl : k = l.length := by omega
        rw [List.take_length] at *
        have Hf := Lib.hid (show szI left (nL (nTree n) l) = left - l.length - szL (nTree n) l by rw [nL_def]; unfold szI; rw [if_pos (by omega)]; omega)
        clear hA
        go_wp2_with fail
        go_ret
        exact ⟨ret_int Hf.out.symm, (by repeat (first | (with_reducible exact Below.refl _ _) | (with_reducible refine ext_alloc ?_) | ((with_reducible refine ext_setCell ?_ ?_); focus (simp; (try omega))) | (with_reducible refine below_drewN ?_ _) | (with_reducible refine Below.drew ?_) | (with_reducible (apply ext_step; assumption))))⟩

set_option maxHeartbeats 2000000 in
theorem of_szTree (n : Nat) (ihS : T_szTreeS n) : T_szTree (n + 1) := by
  intro d cs left w lo h h3 h4
  obtain ⟨v4, v5, rfl, a0, a2, a3, a4, a5⟩ := C_Tree.out h
  obtain ⟨A4, c4, rfl⟩ := a4.form
  obtain ⟨A5, c5, rfl⟩ := a5.form
  unfold I64 at a0
  unfold I64 at a2
  by_cases g_text : left - (d.text.size : Nat) < 0
  · have Hf := Lib.hid (show szI left (nTree (n + 1) d) = -1 by rw [nTree_succ]; unfold szI; rw [if_neg (by omega)])
    go_enter Tryd.func4, Tryd.ntmps4
    go_wp2_with (first | (go_at_call 10; refine (c_laws_szStringS _ _ _ _ _ (Sl_Str.now (by assumption) (by repeat (first | (with_reducible exact Below.refl _ _) | (with_reducible refine ext_alloc ?_) | ((with_reducible refine ext_setCell ?_ ?_); focus (simp; (try omega))) | (with_reducible refine below_drewN ?_ _) | (with_reducible refine Below.drew ?_) | (with_reducible (apply ext_step; assumption))))) (by omega) (by omega)).mono ?_; rintro e w1 ⟨rfl, rfl⟩) | (go_at_call 11; refine (ihS _ _ _ _ _ (Sl_Tree.now (by assumption) (by repeat (first | (with_reducible exact Below.refl _ _) | (with_reducible refine ext_alloc ?_) | ((with_reducible refine ext_setCell ?_ ?_); focus (simp; (try omega))) | (with_reducible refine below_drewN ?_ _) | (with_reducible refine Below.drew ?_) | (with_reducible (apply ext_step; assumption))))) (by omega) (by omega)).mono ?_; rintro e w1 ⟨rfl, hb⟩; (first | (have hcu2 := Cum.join hcu hb; (try clear hcu); (try clear hc); (try clear hfz); (try clear hsz); (try clear hs0); (try clear hs1); (try clear hs2); (try clear hs3); (try clear hs4); ) | have hcu2 := Cum.mk hb); have hcu := hcu2; clear hcu2; obtain ⟨hc, hfz⟩ := bcell hcu.h; have hsz := hcu.h.size; (try simp at hsz); (try have hs0 := lt_of_succ_le hsz); (try (have hs1 := lt_pred hsz; (try (have hs2 := lt_pred hs1; (try (have hs3 := lt_pred hs2; (try have hs4 := lt_pred hs3)))))))))
    go_ret
    exact ⟨ret_int Hf.out.symm, (by repeat (first | (with_reducible exact Below.refl _ _) | (with_reducible refine ext_alloc ?_) | ((with_reducible refine ext_setCell ?_ ?_); focus (simp; (try omega))) | (with_reducible refine below_drewN ?_ _) | (with_reducible refine Below.drew ?_) | (with_reducible (apply ext_step; assumption))))⟩
  by_cases g_keys : left - (d.text.size : Nat) - (nL ByteArray.size d.keys : Nat) < 0
  · have Hf := Lib.hid (show szI left (nTree (n + 1) d) = -1 by rw [nTree_succ]; unfold szI; rw [if_neg (by omega)])
    have z_keys : szI (left - (d.text.size : Nat)) (nL ByteArray.size d.keys) = -1 := szI_neg (by omega)
    go_enter Tryd.func4, Tryd.ntmps4
    go_wp2_with (first | (go_at_call 10; refine (c_laws_szStringS _ _ _ _ _ (Sl_Str.now (by assumption) (by repeat (first | (with_reducible exact Below.refl _ _) | (with_reducible refine ext_alloc ?_) | ((with_reducible refine ext_setCell ?_ ?_); focus (simp; (try omega))) | (with_reducible refine below_drewN ?_ _) | (with_reducible refine Below.drew ?_) | (with_reducible (apply ext_step; assumption))))) (by omega) (by omega)).mono ?_; rintro e w1 ⟨rfl, rfl⟩) | (go_at_call 11; refine (ihS _ _ _ _ _ (Sl_Tree.now (by assumption) (by repeat (first | (with_reducible exact Below.refl _ _) | (with_reducible refine ext_alloc ?_) | ((with_reducible refine ext_setCell ?_ ?_); focus (simp; (try omega))) | (with_reducible refine below_drewN ?_ _) | (with_reducible refine Below.drew ?_) | (with_reducible (apply ext_step; assumption))))) (by omega) (by omega)).mono ?_; rintro e w1 ⟨rfl, hb⟩; (first | (have hcu2 := Cum.join hcu hb; (try clear hcu); (try clear hc); (try clear hfz); (try clear hsz); (try clear hs0); (try clear hs1); (try clear hs2); (try clear hs3); (try clear hs4); ) | have hcu2 := Cum.mk hb); have hcu := hcu2; clear hcu2; obtain ⟨hc, hfz⟩ := bcell hcu.h; have hsz := hcu.h.size; (try simp at hsz); (try have hs0 := lt_of_succ_le hsz); (try (have hs1 := lt_pred hsz; (try (have hs2 := lt_pred hs1; (try (have hs3 := lt_pred hs2; (try have hs4 := lt_pred hs3)))))))))
    go_ret
    exact ⟨ret_int Hf.out.symm, (by repeat (first | (with_reducible exact Below.refl _ _) | (with_reducible refine ext_alloc ?_) | ((with_reducible refine ext_setCell ?_ ?_); focus (simp; (try omega))) | (with_reducible refine below_drewN ?_ _) | (with_reducible refine Below.drew ?_) | (with_reducible (apply ext_step; assumption))))⟩
  have z_keys : szI (left - (d.text.size : Nat)) (nL ByteArray.size d.keys) = left - (d.text.size : Nat) - (nL ByteArray.size d.keys : Nat) := szI_pos (by omega)
  by_cases g_kids : left - (d.text.size : Nat) - (nL ByteArray.size d.keys : Nat) - (nL (nTree n) d.kids : Nat) < 0
  · have Hf := Lib.hid (show szI left (nTree (n + 1) d) = -1 by rw [nTree_succ]; unfold szI; rw [if_neg (by omega)])
    have z_kids : szI (left - (d.text.size : Nat) - (nL ByteArray.size d.keys : Nat)) (nL (nTree n) d.kids) = -1 := szI_neg (by omega)
    go_enter Tryd.func4, Tryd.ntmps4
    go_wp2_with (first | (go_at_call 10; refine (c_laws_szStringS _ _ _ _ _ (Sl_Str.now (by assumption) (by repeat (first | (with_reducible exact Below.refl _ _) | (with_reducible refine ext_alloc ?_) | ((with_reducible refine ext_setCell ?_ ?_); focus (simp; (try omega))) | (with_reducible refine below_drewN ?_ _) | (with_reducible refine Below.drew ?_) | (with_reducible (apply ext_step; assumption))))) (by omega) (by omega)).mono ?_; rintro e w1 ⟨rfl, rfl⟩) | (go_at_call 11; refine (ihS _ _ _ _ _ (Sl_Tree.now (by assumption) (by repeat (first | (with_reducible exact Below.refl _ _) | (with_reducible refine ext_alloc ?_) | ((with_reducible refine ext_setCell ?_ ?_); focus (simp; (try omega))) | (with_reducible refine below_drewN ?_ _) | (with_reducible refine Below.drew ?_) | (with_reducible (apply ext_step; assumption))))) (by omega) (by omega)).mono ?_; rintro e w1 ⟨rfl, hb⟩; (first | (have hcu2 := Cum.join hcu hb; (try clear hcu); (try clear hc); (try clear hfz); (try clear hsz); (try clear hs0); (try clear hs1); (try clear hs2); (try clear hs3); (try clear hs4); ) | have hcu2 := Cum.mk hb); have hcu := hcu2; clear hcu2; obtain ⟨hc, hfz⟩ := bcell hcu.h; have hsz := hcu.h.size; (try simp at hsz); (try have hs0 := lt_of_succ_le hsz); (try (have hs1 := lt_pred hsz; (try (have hs2 := lt_pred hs1; (try (have hs3 := lt_pred hs2; (try have hs4 := lt_pred hs3)))))))))
    go_ret
    exact ⟨ret_int Hf.out.symm, (by repeat (first | (with_reducible exact Below.refl _ _) | (with_reducible refine ext_alloc ?_) | ((with_reducible refine ext_setCell ?_ ?_); focus (simp; (try omega))) | (with_reducible refine below_drewN ?_ _) | (with_reducible refine Below.drew ?_) | (with_reducible (apply ext_step; assumption))))⟩
  have z_kids : szI (left - (d.text.size : Nat) - (nL ByteArray.size d.keys : Nat)) (nL (nTree n) d.kids) = left - (d.text.size : Nat) - (nL ByteArray.size d.keys : Nat) - (nL (nTree n) d.kids : Nat) := szI_pos (by omega)
  have Hf := Lib.hid (show szI left (nTree (n + 1) d) = left - (d.text.size : Nat) - (nL ByteArray.size d.keys : Nat) - (nL (nTree n) d.kids : Nat) by rw [nTree_succ]; unfold szI; rw [if_pos (by omega)]; omega)
  go_enter Tryd.func4, Tryd.ntmps4
  go_wp2_with (first | (go_at_call 10; refine (c_laws_szStringS _ _ _ _ _ (Sl_Str.now (by assumption) (by repeat (first | (with_reducible exact Below.refl _ _) | (with_reducible refine ext_alloc ?_) | ((with_reducible refine ext_setCell ?_ ?_); focus (simp; (try omega))) | (with_reducible refine below_drewN ?_ _) | (with_reducible refine Below.drew ?_) | (with_reducible (apply ext_step; assumption))))) (by omega) (by omega)).mono ?_; rintro e w1 ⟨rfl, rfl⟩) | (go_at_call 11; refine (ihS _ _ _ _ _ (Sl_Tree.now (by assumption) (by repeat (first | (with_reducible exact Below.refl _ _) | (with_reducible refine ext_alloc ?_) | ((with_reducible refine ext_setCell ?_ ?_); focus (simp; (try omega))) | (with_reducible refine below_drewN ?_ _) | (with_reducible refine Below.drew ?_) | (with_reducible (apply ext_step; assumption))))) (by omega) (by omega)).mono ?_; rintro e w1 ⟨rfl, hb⟩; (first | (have hcu2 := Cum.join hcu hb; (try clear hcu); (try clear hc); (try clear hfz); (try clear hsz); (try clear hs0); (try clear hs1); (try clear hs2); (try clear hs3); (try clear hs4); ) | have hcu2 := Cum.mk hb); have hcu := hcu2; clear hcu2; obtain ⟨hc, hfz⟩ := bcell hcu.h; have hsz := hcu.h.size; (try simp at hsz); (try have hs0 := lt_of_succ_le hsz); (try (have hs1 := lt_pred hsz; (try (have hs2 := lt_pred hs1; (try (have hs3 := lt_pred hs2; (try have hs4 := lt_pred hs3)))))))))
  go_ret
  exact ⟨ret_int Hf.out.symm, (by repeat (first | (with_reducible exact Below.refl _ _) | (with_reducible refine ext_alloc ?_) | ((with_reducible refine ext_setCell ?_ ?_); focus (simp; (try omega))) | (with_reducible refine below_drewN ?_ _) | (with_reducible refine Below.drew ?_) | (with_reducible (apply ext_step; assumption))))⟩

theorem all_szTree : ∀ n, T_szTree n
  | 0 => fun _ _ _ _ _ h _ _ => (C_Tree.none h).elim
  | n + 1 => of_szTree n (of_szTreeS n (all_szTree n))

def T_toTree (n : Nat) : Prop := ∀ (d : TreeD) (cs : List Value) (w : World) (lo : Nat) (_ : C_Tree n lo w.heap.size w d cs) (_ : nTree n d ≤ 1048576),
    Calls Tryd.prog 6 #[.agg cs.toArray] w fun e w' => ∃ cs', e = .returned (.agg cs'.toArray) ∧ C_Tree n w.heap.size w'.heap.size w' d cs' ∧ Below w.heap.size w w'
def T_toTreeS (n : Nat) : Prop := ∀ (l : List TreeD) (v : Value) (w : World) (lo : Nat) (_ : Sl_Tree n lo w.heap.size w l v) (_ : nL (nTree n) l ≤ 1048576),
    Calls Tryd.prog 18 #[v] w fun e w' => ∃ A c, e = .returned (.slice A l.length c) ∧ Sl_Tree n w.heap.size w'.heap.size w' l (.slice A l.length c) ∧ Below w.heap.size w w'
set_option maxHeartbeats 2000000 in
theorem of_toTreeS (n : Nat) (ih : T_toTree n) : T_toTreeS n := by
  intro l v w lo hs hn
  obtain ⟨A, c, rfl, hlc, hc, hA⟩ := hs
  have hlen : l.length ≤ 1048576 := by have := nL_def (nTree n) l; omega
  have hmk := run_make_slice (P := Tryd.prog) (z := .agg #[.int .i64 0, .bool false, .int .i64 0, .string ⟨#[]⟩, .slice none 0 0, .slice none 0 0]) (size := 6) (bytes := 88) Tryd.underlying31 (by kernel_rfl) l.length (by omega) (by omega)
  go_enter Tryd.func18, Tryd.ntmps18
  go_wp2_with fail
  go_loopw [4] (fun i wr => ∃ (k : Nat) (cs : Array Value), k ≤ l.length ∧ i = .int .i64 k ∧ Below w.heap.size w wr ∧ wr.heap[w.heap.size]? = some (.cells cs 33 (0, 0)) ∧ Part (C_Tree n (w.heap.size + 1) wr.heap.size wr) 6 l k cs) (fun i _ => l.length - (intOf i).toNat)
  case atStart => exact ⟨0, _, Nat.zero_le _, rfl, (by repeat (first | (with_reducible exact Below.refl _ _) | (with_reducible refine ext_alloc ?_) | ((with_reducible refine ext_setCell ?_ ?_); focus (simp; (try omega))) | (with_reducible refine below_drewN ?_ _) | (with_reducible refine Below.drew ?_) | (with_reducible (apply ext_step; assumption)))), heap_alloc_new _ _, Part.zero (by simp [size_madeCells])⟩
  case round =>
    obtain ⟨k, cs, hk, rfl, hbr, hg, hp⟩ := hrel
    by_cases hlt : k < l.length
    · obtain ⟨b, o, rfl, -, hb2, hcell⟩ := hA (by omega)
      obtain ⟨d, hd⟩ := exists_at hlt
      obtain ⟨es, -, hcs, hC⟩ := hcell k d hd
      have hC' := hC
      obtain ⟨eA4, ec4, eA5, ec5, rfl, ea0, ea2, ea3⟩ := hC'.flat
      have hc0 := (hbr.cell (p := ⟨b, o + k * 6 + 0, none⟩) (by simp; omega)).trans (hcs 0 (by omega))
      simp at hc0
      have hc1 := (hbr.cell (p := ⟨b, o + k * 6 + 1, none⟩) (by simp; omega)).trans (hcs 1 (by omega))
      simp at hc1
      have hc2 := (hbr.cell (p := ⟨b, o + k * 6 + 2, none⟩) (by simp; omega)).trans (hcs 2 (by omega))
      simp at hc2
      have hc3 := (hbr.cell (p := ⟨b, o + k * 6 + 3, none⟩) (by simp; omega)).trans (hcs 3 (by omega))
      simp at hc3
      have hc4 := (hbr.cell (p := ⟨b, o + k * 6 + 4, none⟩) (by simp; omega)).trans (hcs 4 (by omega))
      simp at hc4
      have hc5 := (hbr.cell (p := ⟨b, o + k * 6 + 5, none⟩) (by simp; omega)).trans (hcs 5 (by omega))
      simp at hc5
      obtain ⟨x0, hx0⟩ := row_cell hg (o := k * 6 + 0) (by rw [hp.1]; omega)
      have hf0 := frozen_row hg (k * 6 + 0)
      rw [Nat.add_zero] at hx0 hf0
      obtain ⟨x1, hx1⟩ := row_cell hg (o := k * 6 + 1) (by rw [hp.1]; omega)
      have hf1 := frozen_row hg (k * 6 + 1)
      obtain ⟨x2, hx2⟩ := row_cell hg (o := k * 6 + 2) (by rw [hp.1]; omega)
      have hf2 := frozen_row hg (k * 6 + 2)
      obtain ⟨x3, hx3⟩ := row_cell hg (o := k * 6 + 3) (by rw [hp.1]; omega)
      have hf3 := frozen_row hg (k * 6 + 3)
      obtain ⟨x4, hx4⟩ := row_cell hg (o := k * 6 + 4) (by rw [hp.1]; omega)
      have hf4 := frozen_row hg (k * 6 + 4)
      obtain ⟨x5, hx5⟩ := row_cell hg (o := k * 6 + 5) (by rw [hp.1]; omega)
      have hf5 := frozen_row hg (k * 6 + 5)
      have hgl := row_lt hg
      clear hcs hcell hA
      have hnd : nTree n d ≤ 1048576 := by have := nL_def (nTree n) l; have := szL_take_succ (nTree n) l k d hd; have := szL_take_le (nTree n) l (k+1); omega
      go_wp2_with fail
      refine (ih d _ _ _ (hC.now (by repeat (first | (with_reducible exact Below.refl _ _) | (with_reducible refine ext_alloc ?_) | ((with_reducible refine ext_setCell ?_ ?_); focus (simp; (try omega))) | (with_reducible refine below_drewN ?_ _) | (with_reducible refine Below.drew ?_) | (with_reducible (apply ext_step; assumption))))) hnd).mono ?_
      rintro e w1 ⟨cs1, rfl, hr1, hb⟩
      have hK := hr1
      obtain ⟨fA4, fc4, fA5, fc5, rfl, fa0, fa2, fa3⟩ := hr1.flat
      (first | (have hcu2 := Cum.join hcu hb; (try clear hcu); (try clear hc); (try clear hfz); (try clear hsz); (try clear hs0); (try clear hs1); (try clear hs2); (try clear hs3); (try clear hs4); ) | have hcu2 := Cum.mk hb); have hcu := hcu2; clear hcu2; obtain ⟨hc, hfz⟩ := bcell hcu.h; have hsz := hcu.h.size; (try simp at hsz); (try have hs0 := lt_of_succ_le hsz); (try (have hs1 := lt_pred hsz; (try (have hs2 := lt_pred hs1; (try (have hs3 := lt_pred hs2; (try have hs4 := lt_pred hs3)))))))
      go_wp2_with fail
      go_roundw
      case rel =>
        refine ⟨k + 1, putAt cs (k * 6) [.int .i64 d.kind, .bool d.flag, .int .i64 d.num, .string d.text, .slice fA4 d.keys.length fc4, .slice fA5 d.kids.length fc5], by omega, by go_num, (by repeat (first | (with_reducible exact Below.refl _ _) | (with_reducible refine ext_alloc ?_) | ((with_reducible refine ext_setCell ?_ ?_); focus (simp; (try omega))) | (with_reducible refine below_drewN ?_ _) | (with_reducible refine Below.drew ?_) | (with_reducible (apply ext_step; assumption)))), heap_putCells [.int .i64 d.kind, .bool d.flag, .int .i64 d.num, .string d.text, .slice fA4 d.keys.length fc4, .slice fA5 d.kids.length fc5] _ _ _ _ _ ((hb.block _ hgl).trans hg), ?_⟩
        refine Part.store (hp.mono (fun _ _ h => h.keep ((same_below hb).trans (same_putCells [.int .i64 d.kind, .bool d.flag, .int .i64 d.num, .string d.text, .slice fA4 d.keys.length fc4, .slice fA5 d.kids.length fc5] _ _ _ _ _ (.inl (by omega)))) (Nat.le_refl _) (Nat.le_trans hb.size (Nat.le_of_eq (size_putCells [.int .i64 d.kind, .bool d.flag, .int .i64 d.num, .string d.text, .slice fA4 d.keys.length fc4, .slice fA5 d.kids.length fc5] _ _ _).symm)))) hd rfl ?_
        exact hK.keep (same_putCells [.int .i64 d.kind, .bool d.flag, .int .i64 d.num, .string d.text, .slice fA4 d.keys.length fc4, .slice fA5 d.kids.length fc5] _ _ _ _ _ (.inl (by omega))) (by omega) (Nat.le_of_eq (size_putCells [.int .i64 d.kind, .bool d.flag, .int .i64 d.num, .string d.text, .slice fA4 d.keys.length fc4, .slice fA5 d.kids.length fc5] _ _ _).symm)
      case measure => simp [intOf]; omega
    · obtain rfl : k = l.length := by omega
      clear hA
      go_wp2_with fail
      go_ret
      exact ⟨_, _, rfl, SlOf.of_part (hp.mono (fun _ _ h => h.keep (Same.refl _ _ _) (by omega) (Nat.le_refl _))) hg (Nat.le_refl _) (row_lt hg) (Nat.le_refl _) (by omega), (by repeat (first | (with_reducible exact Below.refl _ _) | (with_reducible refine ext_alloc ?_) | ((with_reducible refine ext_setCell ?_ ?_); focus (simp; (try omega))) | (with_reducible refine below_drewN ?_ _) | (with_reducible refine Below.drew ?_) | (with_reducible (apply ext_step; assumption))))⟩

set_option maxHeartbeats 2000000 in
theorem of_toTree (n : Nat) (ihS : T_toTreeS n) : T_toTree (n + 1) := by
  intro d cs w lo h hn
  obtain ⟨v4, v5, rfl, a0, a2, a3, a4, a5⟩ := C_Tree.out h
  obtain ⟨A4, c4, rfl⟩ := a4.form
  obtain ⟨A5, c5, rfl⟩ := a5.form
  unfold I64 at a0
  unfold I64 at a2
  rw [nTree_succ] at hn
  have m4 : d.keys.length ≤ 1048576 := by have := nL_def ByteArray.size d.keys; omega
  have m5 : d.kids.length ≤ 1048576 := by have := nL_def (nTree n) d.kids; omega
  go_enter Tryd.func6, Tryd.ntmps6
  go_wp2_with fail
  refine (c_laws_toStringS _ _ _ _ (Sl_Str.now (by assumption) (by repeat (first | (with_reducible exact Below.refl _ _) | (with_reducible refine ext_alloc ?_) | ((with_reducible refine ext_setCell ?_ ?_); focus (simp; (try omega))) | (with_reducible refine below_drewN ?_ _) | (with_reducible refine Below.drew ?_) | (with_reducible (apply ext_step; assumption))))) (by omega)).mono ?_
  rintro e w4 ⟨B4, b4, rfl, r4, hb⟩
  (first | (have hcu2 := Cum.join hcu hb; (try clear hcu); (try clear hc); (try clear hfz); (try clear hsz); (try clear hs0); (try clear hs1); (try clear hs2); (try clear hs3); (try clear hs4); ) | have hcu2 := Cum.mk hb); have hcu := hcu2; clear hcu2; obtain ⟨hc, hfz⟩ := bcell hcu.h; have hsz := hcu.h.size; (try simp at hsz); (try have hs0 := lt_of_succ_le hsz); (try (have hs1 := lt_pred hsz; (try (have hs2 := lt_pred hs1; (try (have hs3 := lt_pred hs2; (try have hs4 := lt_pred hs3)))))))
  have st4 := hb.size
  (try simp at st4)
  go_wp2_with fail
  refine (ihS _ _ _ _ (Sl_Tree.now (by assumption) (by repeat (first | (with_reducible exact Below.refl _ _) | (with_reducible refine ext_alloc ?_) | ((with_reducible refine ext_setCell ?_ ?_); focus (simp; (try omega))) | (with_reducible refine below_drewN ?_ _) | (with_reducible refine Below.drew ?_) | (with_reducible (apply ext_step; assumption))))) (by omega)).mono ?_
  rintro e w5 ⟨B5, b5, rfl, r5, hb⟩
  (first | (have hcu2 := Cum.join hcu hb; (try clear hcu); (try clear hc); (try clear hfz); (try clear hsz); (try clear hs0); (try clear hs1); (try clear hs2); (try clear hs3); (try clear hs4); ) | have hcu2 := Cum.mk hb); have hcu := hcu2; clear hcu2; obtain ⟨hc, hfz⟩ := bcell hcu.h; have hsz := hcu.h.size; (try simp at hsz); (try have hs0 := lt_of_succ_le hsz); (try (have hs1 := lt_pred hsz; (try (have hs2 := lt_pred hs1; (try (have hs3 := lt_pred hs2; (try have hs4 := lt_pred hs3)))))))
  have st5 := hb.size
  (try simp at st5)
  go_wp2_with fail
  exact bodyPost_ret (v := .agg #[.int .i64 d.kind, .bool d.flag, .int .i64 d.num, .string d.text, .slice B4 d.keys.length b4, .slice B5 d.kids.length b5]) (by simp only [results, Tryd.results6]; go_simp) rfl ⟨[.int .i64 d.kind, .bool d.flag, .int .i64 d.num, .string d.text, .slice B4 d.keys.length b4, .slice B5 d.kids.length b5], rfl, C_Tree.into ⟨_, _, rfl, a0, a2, a3, SlOf.keep r4 (by repeat (first | (with_reducible exact Same.refl _ _ _) | ((with_reducible refine same_setCell ?_ ?_); focus (simp; (try omega))) | ((with_reducible refine same_alloc ?_ ?_); focus (simp; (try omega))) | (with_reducible refine same_drewN ?_ _) | ((with_reducible (apply same_step; assumption)); focus (simp; (try omega))))) (by simp; try omega) (by simp; try omega) (fun _ _ _ h => h), SlOf.keep r5 (by repeat (first | (with_reducible exact Same.refl _ _ _) | ((with_reducible refine same_setCell ?_ ?_); focus (simp; (try omega))) | ((with_reducible refine same_alloc ?_ ?_); focus (simp; (try omega))) | (with_reducible refine same_drewN ?_ _) | ((with_reducible (apply same_step; assumption)); focus (simp; (try omega))))) (by simp; try omega) (by simp; try omega) (fun _ _ _ h => C_Tree.keep h (by repeat (first | (with_reducible exact Same.refl _ _ _) | ((with_reducible refine same_setCell ?_ ?_); focus (simp; (try omega))) | ((with_reducible refine same_alloc ?_ ?_); focus (simp; (try omega))) | (with_reducible refine same_drewN ?_ _) | ((with_reducible (apply same_step; assumption)); focus (simp; (try omega))))) (by simp; try omega) (by simp; try omega))⟩, (by repeat (first | (with_reducible exact Below.refl _ _) | (with_reducible refine ext_alloc ?_) | ((with_reducible refine ext_setCell ?_ ?_); focus (simp; (try omega))) | (with_reducible refine below_drewN ?_ _) | (with_reducible refine Below.drew ?_) | (with_reducible (apply ext_step; assumption))))⟩

theorem all_toTree : ∀ n, T_toTree n
  | 0 => fun _ _ _ _ h _ => (C_Tree.none h).elim
  | n + 1 => of_toTree n (of_toTreeS n (all_toTree n))

def T_eqTree (n : Nat) : Prop := ∀ (d : TreeD) (cs cs' : List Value) (w : World) (lo lo' : Nat) (_ : C_Tree n lo w.heap.size w d cs) (_ : C_Tree n lo' w.heap.size w d cs'),
    Calls Tryd.prog 9 #[.agg cs.toArray, .agg cs'.toArray] w fun e w' => e = .returned (.bool true) ∧ Below w.heap.size w w'
def T_eqTreeS (n : Nat) : Prop := ∀ (l : List TreeD) (va vb : Value) (w : World) (lo lo' : Nat) (_ : Sl_Tree n lo w.heap.size w l va) (_ : Sl_Tree n lo' w.heap.size w l vb),
    Calls Tryd.prog 24 #[va, vb] w fun e w' => e = .returned (.bool true) ∧ Below w.heap.size w w'
set_option maxHeartbeats 2000000 in
theorem of_eqTreeS (n : Nat) (ih : T_eqTree n) : T_eqTreeS n := by
  intro l va vb w lo lo' ha hb
  obtain ⟨A, c, rfl, hlc, hc, hA⟩ := ha
  obtain ⟨B, c', rfl, hlc', hc', hB⟩ := hb
  go_enter Tryd.func24, Tryd.ntmps24
  go_wp2_with fail
  go_loopw [5] (fun i wr => ∃ k : Nat, k ≤ l.length ∧ i = .int .i64 k ∧ Below w.heap.size w wr) (fun i _ => l.length - (intOf i).toNat)
  case atStart => exact ⟨0, Nat.zero_le _, rfl, (by repeat (first | (with_reducible exact Below.refl _ _) | (with_reducible refine ext_alloc ?_) | ((with_reducible refine ext_setCell ?_ ?_); focus (simp; (try omega))) | (with_reducible refine below_drewN ?_ _) | (with_reducible refine Below.drew ?_) | (with_reducible (apply ext_step; assumption))))⟩
  case round =>
    obtain ⟨k, hk, rfl, hbr⟩ := hrel
    by_cases hlt : k < l.length
    · obtain ⟨b, o, rfl, -, hb2, hcell⟩ := hA (by omega)
      obtain ⟨b', o', rfl, -, hb2', hcell'⟩ := hB (by omega)
      obtain ⟨d, hd⟩ := exists_at hlt
      obtain ⟨es, -, hcs, hC⟩ := hcell k d hd
      obtain ⟨es', -, hcs', hD⟩ := hcell' k d hd
      have hC' := hC
      have hD' := hD
      obtain ⟨eA4, ec4, eA5, ec5, rfl, ea0, ea2, ea3⟩ := hC'.flat
      obtain ⟨fA4, fc4, fA5, fc5, rfl, fa0, fa2, fa3⟩ := hD'.flat
      have hc0 := (hbr.cell (p := ⟨b, o + k * 6 + 0, none⟩) (by simp; omega)).trans (hcs 0 (by omega))
      simp at hc0
      have hc1 := (hbr.cell (p := ⟨b, o + k * 6 + 1, none⟩) (by simp; omega)).trans (hcs 1 (by omega))
      simp at hc1
      have hc2 := (hbr.cell (p := ⟨b, o + k * 6 + 2, none⟩) (by simp; omega)).trans (hcs 2 (by omega))
      simp at hc2
      have hc3 := (hbr.cell (p := ⟨b, o + k * 6 + 3, none⟩) (by simp; omega)).trans (hcs 3 (by omega))
      simp at hc3
      have hc4 := (hbr.cell (p := ⟨b, o + k * 6 + 4, none⟩) (by simp; omega)).trans (hcs 4 (by omega))
      simp at hc4
      have hc5 := (hbr.cell (p := ⟨b, o + k * 6 + 5, none⟩) (by simp; omega)).trans (hcs 5 (by omega))
      simp at hc5
      have hd0 := (hbr.cell (p := ⟨b', o' + k * 6 + 0, none⟩) (by simp; omega)).trans (hcs' 0 (by omega))
      simp at hd0
      have hd1 := (hbr.cell (p := ⟨b', o' + k * 6 + 1, none⟩) (by simp; omega)).trans (hcs' 1 (by omega))
      simp at hd1
      have hd2 := (hbr.cell (p := ⟨b', o' + k * 6 + 2, none⟩) (by simp; omega)).trans (hcs' 2 (by omega))
      simp at hd2
      have hd3 := (hbr.cell (p := ⟨b', o' + k * 6 + 3, none⟩) (by simp; omega)).trans (hcs' 3 (by omega))
      simp at hd3
      have hd4 := (hbr.cell (p := ⟨b', o' + k * 6 + 4, none⟩) (by simp; omega)).trans (hcs' 4 (by omega))
      simp at hd4
      have hd5 := (hbr.cell (p := ⟨b', o' + k * 6 + 5, none⟩) (by simp; omega)).trans (hcs' 5 (by omega))
      simp at hd5
      have hk0 : (0 : Int) ≤ k := by omega
      have hk1 : (k : Int) < l.length := by omega
      have hbl : b < wr.heap.size := Nat.lt_of_lt_of_le hb2 hbr.size
      have hbl' : b' < wr.heap.size := Nat.lt_of_lt_of_le hb2' hbr.size
      clear hcs hcell hA hcs' hcell' hB hd
      go_wp2_with fail
      go_region_held3 (fun w' => Below (wr).heap.size (wr) w' ∧ (∀ xb xo, xb < (wr).heap.size → w'.cell? ⟨xb, xo, none⟩ = (wr).cell? ⟨xb, xo, none⟩)) (first | exact keep_drew _ | exact keep_ext (by assumption) (by assumption) | exact keep_same (by assumption) | exact keep_alloc (by assumption) _) (first | (go_at_call 9; refine (ih d _ _ _ _ _ (hC.now (ext_trans hbr (by first | (with_reducible exact Below.refl _ _) | exact (keep_same (by assumption)).1))) (hD.now (ext_trans hbr (by first | (with_reducible exact Below.refl _ _) | exact (keep_same (by assumption)).1)))).mono ?_; rintro e w9 ⟨rfl, hb9⟩))
      (have hb := held_step (by assumption); (first | (have hcu2 := Cum.join hcu hb; (try clear hcu); (try clear hc); (try clear hfz); (try clear hsz); (try clear hs0); (try clear hs1); (try clear hs2); (try clear hs3); (try clear hs4); ) | have hcu2 := Cum.mk hb); have hcu := hcu2; clear hcu2; obtain ⟨hc, hfz⟩ := bcell hcu.h; have hsz := hcu.h.size; (try simp at hsz); (try have hs0 := lt_of_succ_le hsz); (try (have hs1 := lt_pred hsz; (try (have hs2 := lt_pred hs1; (try (have hs3 := lt_pred hs2; (try have hs4 := lt_pred hs3))))))))
      go_wp2_with fail
      go_roundw
      case rel => exact ⟨k + 1, by omega, by go_num, (by repeat (first | (with_reducible exact Below.refl _ _) | (with_reducible refine ext_alloc ?_) | ((with_reducible refine ext_setCell ?_ ?_); focus (simp; (try omega))) | (with_reducible refine below_drewN ?_ _) | (with_reducible refine Below.drew ?_) | (with_reducible (apply ext_step; assumption))))⟩
      case measure => simp [intOf]; omega
    · obtain rfl : k = l.length := by omega
      clear hA hB
      go_wp2_with fail
      go_ret
      exact ⟨rfl, (by repeat (first | (with_reducible exact Below.refl _ _) | (with_reducible refine ext_alloc ?_) | ((with_reducible refine ext_setCell ?_ ?_); focus (simp; (try omega))) | (with_reducible refine below_drewN ?_ _) | (with_reducible refine Below.drew ?_) | (with_reducible (apply ext_step; assumption))))⟩

set_option maxHeartbeats 2000000 in
theorem of_eqTree (n : Nat) (ihS : T_eqTreeS n) : T_eqTree (n + 1) := by
  intro d cs cs' w lo lo' h h'
  obtain ⟨v4, v5, rfl, a0, a2, a3, a4, a5⟩ := C_Tree.out h
  obtain ⟨A4, c4, rfl⟩ := a4.form
  obtain ⟨A5, c5, rfl⟩ := a5.form
  unfold I64 at a0
  unfold I64 at a2
  obtain ⟨zv4, zv5, rfl, za0, za2, za3, za4, za5⟩ := C_Tree.out h'
  obtain ⟨zA4, zc4, rfl⟩ := za4.form
  obtain ⟨zA5, zc5, rfl⟩ := za5.form
  unfold I64 at za0
  unfold I64 at za2
  go_enter Tryd.func9, Tryd.ntmps9
  go_wp2_with (first | (go_at_call 23; refine (c_laws_eqStringS _ _ _ _ _ _ (Sl_Str.now (by assumption) (by repeat (first | (with_reducible exact Below.refl _ _) | (with_reducible refine ext_alloc ?_) | ((with_reducible refine ext_setCell ?_ ?_); focus (simp; (try omega))) | (with_reducible refine below_drewN ?_ _) | (with_reducible refine Below.drew ?_) | (with_reducible (apply ext_step; assumption))))) (Sl_Str.now (by assumption) (by repeat (first | (with_reducible exact Below.refl _ _) | (with_reducible refine ext_alloc ?_) | ((with_reducible refine ext_setCell ?_ ?_); focus (simp; (try omega))) | (with_reducible refine below_drewN ?_ _) | (with_reducible refine Below.drew ?_) | (with_reducible (apply ext_step; assumption)))))).mono ?_; rintro e w1 ⟨rfl, hb⟩; (first | (have hcu2 := Cum.join hcu hb; (try clear hcu); (try clear hc); (try clear hfz); (try clear hsz); (try clear hs0); (try clear hs1); (try clear hs2); (try clear hs3); (try clear hs4); ) | have hcu2 := Cum.mk hb); have hcu := hcu2; clear hcu2; obtain ⟨hc, hfz⟩ := bcell hcu.h; have hsz := hcu.h.size; (try simp at hsz); (try have hs0 := lt_of_succ_le hsz); (try (have hs1 := lt_pred hsz; (try (have hs2 := lt_pred hs1; (try (have hs3 := lt_pred hs2; (try have hs4 := lt_pred hs3)))))))) | (go_at_call 24; refine (ihS _ _ _ _ _ _ (Sl_Tree.now (by assumption) (by repeat (first | (with_reducible exact Below.refl _ _) | (with_reducible refine ext_alloc ?_) | ((with_reducible refine ext_setCell ?_ ?_); focus (simp; (try omega))) | (with_reducible refine below_drewN ?_ _) | (with_reducible refine Below.drew ?_) | (with_reducible (apply ext_step; assumption))))) (Sl_Tree.now (by assumption) (by repeat (first | (with_reducible exact Below.refl _ _) | (with_reducible refine ext_alloc ?_) | ((with_reducible refine ext_setCell ?_ ?_); focus (simp; (try omega))) | (with_reducible refine below_drewN ?_ _) | (with_reducible refine Below.drew ?_) | (with_reducible (apply ext_step; assumption)))))).mono ?_; rintro e w1 ⟨rfl, hb⟩; (first | (have hcu2 := Cum.join hcu hb; (try clear hcu); (try clear hc); (try clear hfz); (try clear hsz); (try clear hs0); (try clear hs1); (try clear hs2); (try clear hs3); (try clear hs4); ) | have hcu2 := Cum.mk hb); have hcu := hcu2; clear hcu2; obtain ⟨hc, hfz⟩ := bcell hcu.h; have hsz := hcu.h.size; (try simp at hsz); (try have hs0 := lt_of_succ_le hsz); (try (have hs1 := lt_pred hsz; (try (have hs2 := lt_pred hs1; (try (have hs3 := lt_pred hs2; (try have hs4 := lt_pred hs3)))))))))
  go_ret
  exact ⟨rfl, (by repeat (first | (with_reducible exact Below.refl _ _) | (with_reducible refine ext_alloc ?_) | ((with_reducible refine ext_setCell ?_ ?_); focus (simp; (try omega))) | (with_reducible refine below_drewN ?_ _) | (with_reducible refine Below.drew ?_) | (with_reducible (apply ext_step; assumption))))⟩

theorem all_eqTree : ∀ n, T_eqTree n
  | 0 => fun _ _ _ _ _ _ h _ => (C_Tree.none h).elim
  | n + 1 => of_eqTree n (of_eqTreeS n (all_eqTree n))

end Go.Proofs.YtdogjeoiggnhaaaDoor
