/- Contracts of KidOf: the kid's copy lies in blocks of its own. No conditions. Written by wip/tools/genkid.py. -/
import Derived.Test.YtdogjeoiggnhaaaDoorL08
namespace Go.Proofs.YtdogjeoiggnhaaaDoor
open Go.RowKit

def kidO (d : TreeD) (key : ByteArray) : Option TreeD := if keyI d key < 0 ∨ d.keys.length ≠ d.kids.length then none else d.kids[(keyI d key).toNat]?
theorem keyI_cases (d : TreeD) (key : ByteArray) : keyI d key = -1 ∨ ∃ k, k < d.keys.length ∧ keyI d key = (k : Int) := by
  unfold keyI
  split
  · exact idxI_cases _ _
  · exact .inl rfl
theorem kidO_none {d : TreeD} {key : ByteArray} (h : kidO d key = none) : keyI d key = -1 ∨ ∃ k, k < d.keys.length ∧ keyI d key = (k : Int) ∧ d.keys.length ≠ d.kids.length := by
  rcases keyI_cases d key with h1 | ⟨k, hk, h1⟩
  · exact .inl h1
  · refine .inr ⟨k, hk, h1, fun hl => ?_⟩
    unfold kidO at h
    rw [if_neg (by rw [h1]; omega), h1, Int.toNat_natCast, List.getElem?_eq_getElem (by omega)] at h
    cases h
theorem kidO_some {d f : TreeD} {key : ByteArray} (h : kidO d key = some f) : ∃ k, k < d.kids.length ∧ d.keys.length = d.kids.length ∧ keyI d key = (k : Int) ∧ d.kids[k]? = some f := by
  unfold kidO at h
  split at h
  · cases h
  · rename_i hn
    have h2 : ¬ keyI d key < 0 := fun h => hn (.inl h)
    have h3 : d.keys.length = d.kids.length := Classical.byContradiction fun h => hn (.inr h)
    exact ⟨(keyI d key).toNat, (List.getElem?_eq_some_iff.1 h).1, h3, by omega, h⟩
theorem nTree_kid {n : Nat} {d f : TreeD} {k : Nat} (h : d.kids[k]? = some f) (hn : nTree (n + 1) d ≤ 1048576) : nTree n f ≤ 1048576 := by
  have e1 := nTree_succ n d
  have e2 := nL_def (nTree n) d.kids
  have e3 := szL_take_succ (nTree n) d.kids k f h
  have e4 := szL_take_le (nTree n) d.kids (k + 1)
  omega

set_option maxHeartbeats 1000000 in
set_option maxRecDepth 10000 in
theorem c_impl_KidOf_none (n : Nat) (d : TreeD) (cs : List Value) (key : ByteArray) (w : World) (lo : Nat) (h : C_Tree n lo w.heap.size w d cs) (hk : kidO d key = none) :
    Calls Tryd.prog 19 #[.agg cs.toArray, .string key] w fun e w' => e = .returned (.tuple #[.agg #[.int .i64 0, .bool false, .int .i64 0, .string ⟨#[]⟩, .slice none 0 0, .slice none 0 0], .bool false]) ∧ Below w.heap.size w w' := by
  have hC := h
  obtain ⟨m, rfl⟩ := h.any
  obtain ⟨v4, v5, rfl, a0, a2, a3, a4, a5⟩ := h.out
  obtain ⟨A4, c4, rfl⟩ := a4.form
  obtain ⟨A5, c5, rfl⟩ := a5.form
  rcases kidO_none hk with h1 | ⟨k, hkl, h1, h2⟩
  · go_enter Tryd.func19, Tryd.ntmps19
    go_wp2_with (go_at_call 30; refine (c_impl_KeyAt _ d _ _ _ _ (hC.now (by repeat (first | (with_reducible exact Below.refl _ _) | (with_reducible refine ext_alloc ?_) | ((with_reducible refine ext_setCell ?_ ?_); focus (simp; (try omega))) | (with_reducible refine below_drewN ?_ _) | (with_reducible refine Below.drew ?_) | (with_reducible (apply ext_step; assumption)))))).mono ?_; rintro e w1 ⟨rfl, hb⟩; rw [h1]; (first | (have hcu2 := Cum.join hcu hb; (try clear hcu); (try clear hc); (try clear hfz); (try clear hsz); (try clear hs0); (try clear hs1); (try clear hs2); (try clear hs3); (try clear hs4); ) | have hcu2 := Cum.mk hb); have hcu := hcu2; clear hcu2; obtain ⟨hc, hfz⟩ := bcell hcu.h; have hsz := hcu.h.size; (try simp at hsz); (try have hs0 := lt_of_succ_le hsz); (try (have hs1 := lt_pred hsz; (try (have hs2 := lt_pred hs1; (try (have hs3 := lt_pred hs2; (try have hs4 := lt_pred hs3))))))))
    exact bodyPost_ret (v := .tuple #[.agg #[.int .i64 0, .bool false, .int .i64 0, .string ⟨#[]⟩, .slice none 0 0, .slice none 0 0], .bool false]) (by simp only [results, Tryd.results19]; go_simp) rfl ⟨rfl, (by repeat (first | (with_reducible exact Below.refl _ _) | (with_reducible refine ext_alloc ?_) | ((with_reducible refine ext_setCell ?_ ?_); focus (simp; (try omega))) | (with_reducible refine below_drewN ?_ _) | (with_reducible refine Below.drew ?_) | (with_reducible (apply ext_step; assumption))))⟩
  · have hx : ((d.keys.length : Int) != d.kids.length) = true := bne_iff_ne.2 (by omega)
    have hk0 : ¬ (k : Int) < 0 := by omega
    go_enter Tryd.func19, Tryd.ntmps19
    go_wp2_with (go_at_call 30; refine (c_impl_KeyAt _ d _ _ _ _ (hC.now (by repeat (first | (with_reducible exact Below.refl _ _) | (with_reducible refine ext_alloc ?_) | ((with_reducible refine ext_setCell ?_ ?_); focus (simp; (try omega))) | (with_reducible refine below_drewN ?_ _) | (with_reducible refine Below.drew ?_) | (with_reducible (apply ext_step; assumption)))))).mono ?_; rintro e w1 ⟨rfl, hb⟩; rw [h1]; (first | (have hcu2 := Cum.join hcu hb; (try clear hcu); (try clear hc); (try clear hfz); (try clear hsz); (try clear hs0); (try clear hs1); (try clear hs2); (try clear hs3); (try clear hs4); ) | have hcu2 := Cum.mk hb); have hcu := hcu2; clear hcu2; obtain ⟨hc, hfz⟩ := bcell hcu.h; have hsz := hcu.h.size; (try simp at hsz); (try have hs0 := lt_of_succ_le hsz); (try (have hs1 := lt_pred hsz; (try (have hs2 := lt_pred hs1; (try (have hs3 := lt_pred hs2; (try have hs4 := lt_pred hs3))))))))
    exact bodyPost_ret (v := .tuple #[.agg #[.int .i64 0, .bool false, .int .i64 0, .string ⟨#[]⟩, .slice none 0 0, .slice none 0 0], .bool false]) (by simp only [results, Tryd.results19]; go_simp) rfl ⟨rfl, (by repeat (first | (with_reducible exact Below.refl _ _) | (with_reducible refine ext_alloc ?_) | ((with_reducible refine ext_setCell ?_ ?_); focus (simp; (try omega))) | (with_reducible refine below_drewN ?_ _) | (with_reducible refine Below.drew ?_) | (with_reducible (apply ext_step; assumption))))⟩
set_option maxHeartbeats 1000000 in
set_option maxRecDepth 10000 in
theorem c_impl_KidOf_some (n : Nat) (d f : TreeD) (cs : List Value) (key : ByteArray) (w : World) (lo : Nat) (h : C_Tree n lo w.heap.size w d cs) (hn : nTree n d ≤ 1048576) (hk : kidO d key = some f) :
    Calls Tryd.prog 19 #[.agg cs.toArray, .string key] w fun e w' => ∃ cs', e = .returned (.tuple #[.agg cs'.toArray, .bool true]) ∧ OwnT n (fun b => w.heap.size ≤ b ∧ b < w'.heap.size) w' f cs' ∧ Below w.heap.size w w' := by
  have hC := h
  obtain ⟨m, rfl⟩ := h.any
  obtain ⟨v4, v5, rfl, a0, a2, a3, a4, a5⟩ := h.out
  obtain ⟨A4, c4, rfl⟩ := a4.form
  obtain ⟨A5, c5, rfl, hlc, hcc, hA⟩ := a5
  obtain ⟨k, hkl, hl, h1, hf⟩ := kidO_some hk
  have hx : ((d.keys.length : Int) != d.kids.length) = false := by rw [hl]; simp
  have hk0 : ¬ (k : Int) < 0 := by omega
  obtain ⟨b, o, rfl, -, hb2, hcell⟩ := hA (by omega)
  obtain ⟨es, -, hcs, hE⟩ := hcell k f hf
  have hE' := hE
  obtain ⟨eA4, ec4, eA5, ec5, rfl, ea0, ea2, ea3⟩ := hE'.flat
  have hc0 := hcs 0 (by omega)
  have hc1 := hcs 1 (by omega)
  have hc2 := hcs 2 (by omega)
  have hc3 := hcs 3 (by omega)
  have hc4 := hcs 4 (by omega)
  have hc5 := hcs 5 (by omega)
  simp at hc0 hc1 hc2 hc3 hc4 hc5
  have hk1 : (0 : Int) ≤ k := by omega
  have hk2 : (k : Int) < d.kids.length := by omega
  have hnd := nTree_kid hf hn
  have H1 := Lib.hid h1
  have hb3 : b < w.heap.size + 1 + 1 := by omega
  have hb4 : b < w.heap.size + 1 := by omega
  clear hcs hcell hA hf hn hk h1 hl hkl h
  go_enter Tryd.func19, Tryd.ntmps19
  go_wp2_with (go_at_call 30; refine (c_impl_KeyAt _ d _ _ _ _ (hC.now (by repeat (first | (with_reducible exact Below.refl _ _) | (with_reducible refine ext_alloc ?_) | ((with_reducible refine ext_setCell ?_ ?_); focus (simp; (try omega))) | (with_reducible refine below_drewN ?_ _) | (with_reducible refine Below.drew ?_) | (with_reducible (apply ext_step; assumption)))))).mono ?_; rintro e w1 ⟨rfl, hb⟩; rw [H1.out]; have hk9 := hb.size; simp at hk9; (first | (have hcu2 := Cum.join hcu hb; (try clear hcu); (try clear hc); (try clear hfz); (try clear hsz); (try clear hs0); (try clear hs1); (try clear hs2); (try clear hs3); (try clear hs4); ) | have hcu2 := Cum.mk hb); have hcu := hcu2; clear hcu2; obtain ⟨hc, hfz⟩ := bcell hcu.h; have hsz := hcu.h.size; (try simp at hsz); (try have hs0 := lt_of_succ_le hsz); (try (have hs1 := lt_pred hsz; (try (have hs2 := lt_pred hs1; (try (have hs3 := lt_pred hs2; (try have hs4 := lt_pred hs3))))))))
  refine (all_copy m f _ _ _ (hE.now (by repeat (first | (with_reducible exact Below.refl _ _) | (with_reducible refine ext_alloc ?_) | ((with_reducible refine ext_setCell ?_ ?_); focus (simp; (try omega))) | (with_reducible refine below_drewN ?_ _) | (with_reducible refine Below.drew ?_) | (with_reducible (apply ext_step; assumption))))) hnd).mono ?_
  rintro e w2 ⟨cs2, rfl, ho, hb⟩
  obtain ⟨fA4, fc4, fA5, fc5, rfl, fa0, fa2, fa3⟩ := ho.flat
  have hs2 := hb.size
  (first | (have hcu2 := Cum.join hcu hb; (try clear hcu); (try clear hc); (try clear hfz); (try clear hsz); (try clear hs0); (try clear hs1); (try clear hs2); (try clear hs3); (try clear hs4); ) | have hcu2 := Cum.mk hb); have hcu := hcu2; clear hcu2; obtain ⟨hc, hfz⟩ := bcell hcu.h; have hsz := hcu.h.size; (try simp at hsz); (try have hs0 := lt_of_succ_le hsz); (try (have hs1 := lt_pred hsz; (try (have hs2 := lt_pred hs1; (try (have hs3 := lt_pred hs2; (try have hs4 := lt_pred hs3)))))))
  go_wp2_with fail
  refine bodyPost_ret (v := .tuple #[.agg #[.int .i64 f.kind, .bool f.flag, .int .i64 f.num, .string f.text, .slice fA4 f.keys.length fc4, .slice fA5 f.kids.length fc5], .bool true]) (by simp only [results, Tryd.results19]; go_simp) rfl ⟨[.int .i64 f.kind, .bool f.flag, .int .i64 f.num, .string f.text, .slice fA4 f.keys.length fc4, .slice fA5 f.kids.length fc5], rfl, (ho.up (Nat.le_succ m)).carry ?_ ?_, (by repeat (first | (with_reducible exact Below.refl _ _) | (with_reducible refine ext_alloc ?_) | ((with_reducible refine ext_setCell ?_ ?_); focus (simp; (try omega))) | (with_reducible refine below_drewN ?_ _) | (with_reducible refine Below.drew ?_) | (with_reducible (apply ext_step; assumption))))⟩
  · intro q hq
    exact Aside.block (S := fun b => b = w.heap.size + 1) (w := w2) (by repeat (first | (with_reducible exact Aside.refl _ _) | ((with_reducible refine aside_set ?_ ?_); (focus (simp; done))) | (with_reducible refine aside_alloc ?_))) q hq.2 (by have := hq.1; omega)
  · intro q hq
    have := hq.1
    have := hq.2
    simp
    omega
set_option maxHeartbeats 1000000 in
set_option maxRecDepth 10000 in
theorem c_spec_KidOf_none (n : Nat) (d : TreeD) (cs : List Value) (key : ByteArray) (w : World) (lo : Nat) (h : C_Tree n lo w.heap.size w d cs) (hk : kidO d key = none) :
    Calls Tryd.prog 12 #[.agg cs.toArray, .string key] w fun e w' => e = .returned (.tuple #[.agg #[.int .i64 0, .bool false, .int .i64 0, .string ⟨#[]⟩, .slice none 0 0, .slice none 0 0], .bool false]) ∧ Below w.heap.size w w' := by
  have hC := h
  obtain ⟨m, rfl⟩ := h.any
  obtain ⟨v4, v5, rfl, a0, a2, a3, a4, a5⟩ := h.out
  obtain ⟨A4, c4, rfl⟩ := a4.form
  obtain ⟨A5, c5, rfl⟩ := a5.form
  rcases kidO_none hk with h1 | ⟨k, hkl, h1, h2⟩
  · go_enter Tryd.func12, Tryd.ntmps12
    go_wp2_with (go_at_call 25; refine (c_spec_KeyAt _ d _ _ _ _ (hC.now (by repeat (first | (with_reducible exact Below.refl _ _) | (with_reducible refine ext_alloc ?_) | ((with_reducible refine ext_setCell ?_ ?_); focus (simp; (try omega))) | (with_reducible refine below_drewN ?_ _) | (with_reducible refine Below.drew ?_) | (with_reducible (apply ext_step; assumption)))))).mono ?_; rintro e w1 ⟨rfl, hb⟩; rw [h1]; (first | (have hcu2 := Cum.join hcu hb; (try clear hcu); (try clear hc); (try clear hfz); (try clear hsz); (try clear hs0); (try clear hs1); (try clear hs2); (try clear hs3); (try clear hs4); ) | have hcu2 := Cum.mk hb); have hcu := hcu2; clear hcu2; obtain ⟨hc, hfz⟩ := bcell hcu.h; have hsz := hcu.h.size; (try simp at hsz); (try have hs0 := lt_of_succ_le hsz); (try (have hs1 := lt_pred hsz; (try (have hs2 := lt_pred hs1; (try (have hs3 := lt_pred hs2; (try have hs4 := lt_pred hs3))))))))
    exact bodyPost_ret (v := .tuple #[.agg #[.int .i64 0, .bool false, .int .i64 0, .string ⟨#[]⟩, .slice none 0 0, .slice none 0 0], .bool false]) (by simp only [results, Tryd.results12]; go_simp) rfl ⟨rfl, (by repeat (first | (with_reducible exact Below.refl _ _) | (with_reducible refine ext_alloc ?_) | ((with_reducible refine ext_setCell ?_ ?_); focus (simp; (try omega))) | (with_reducible refine below_drewN ?_ _) | (with_reducible refine Below.drew ?_) | (with_reducible (apply ext_step; assumption))))⟩
  · have hx : ((d.keys.length : Int) != d.kids.length) = true := bne_iff_ne.2 (by omega)
    have hk0 : ¬ (k : Int) < 0 := by omega
    go_enter Tryd.func12, Tryd.ntmps12
    go_wp2_with (go_at_call 25; refine (c_spec_KeyAt _ d _ _ _ _ (hC.now (by repeat (first | (with_reducible exact Below.refl _ _) | (with_reducible refine ext_alloc ?_) | ((with_reducible refine ext_setCell ?_ ?_); focus (simp; (try omega))) | (with_reducible refine below_drewN ?_ _) | (with_reducible refine Below.drew ?_) | (with_reducible (apply ext_step; assumption)))))).mono ?_; rintro e w1 ⟨rfl, hb⟩; rw [h1]; (first | (have hcu2 := Cum.join hcu hb; (try clear hcu); (try clear hc); (try clear hfz); (try clear hsz); (try clear hs0); (try clear hs1); (try clear hs2); (try clear hs3); (try clear hs4); ) | have hcu2 := Cum.mk hb); have hcu := hcu2; clear hcu2; obtain ⟨hc, hfz⟩ := bcell hcu.h; have hsz := hcu.h.size; (try simp at hsz); (try have hs0 := lt_of_succ_le hsz); (try (have hs1 := lt_pred hsz; (try (have hs2 := lt_pred hs1; (try (have hs3 := lt_pred hs2; (try have hs4 := lt_pred hs3))))))))
    exact bodyPost_ret (v := .tuple #[.agg #[.int .i64 0, .bool false, .int .i64 0, .string ⟨#[]⟩, .slice none 0 0, .slice none 0 0], .bool false]) (by simp only [results, Tryd.results12]; go_simp) rfl ⟨rfl, (by repeat (first | (with_reducible exact Below.refl _ _) | (with_reducible refine ext_alloc ?_) | ((with_reducible refine ext_setCell ?_ ?_); focus (simp; (try omega))) | (with_reducible refine below_drewN ?_ _) | (with_reducible refine Below.drew ?_) | (with_reducible (apply ext_step; assumption))))⟩
set_option maxHeartbeats 1000000 in
set_option maxRecDepth 10000 in
theorem c_spec_KidOf_some (n : Nat) (d f : TreeD) (cs : List Value) (key : ByteArray) (w : World) (lo : Nat) (h : C_Tree n lo w.heap.size w d cs) (hn : nTree n d ≤ 1048576) (hk : kidO d key = some f) :
    Calls Tryd.prog 12 #[.agg cs.toArray, .string key] w fun e w' => ∃ cs', e = .returned (.tuple #[.agg cs'.toArray, .bool true]) ∧ OwnT n (fun b => w.heap.size ≤ b ∧ b < w'.heap.size) w' f cs' ∧ Below w.heap.size w w' := by
  have hC := h
  obtain ⟨m, rfl⟩ := h.any
  obtain ⟨v4, v5, rfl, a0, a2, a3, a4, a5⟩ := h.out
  obtain ⟨A4, c4, rfl⟩ := a4.form
  obtain ⟨A5, c5, rfl, hlc, hcc, hA⟩ := a5
  obtain ⟨k, hkl, hl, h1, hf⟩ := kidO_some hk
  have hx : ((d.keys.length : Int) != d.kids.length) = false := by rw [hl]; simp
  have hk0 : ¬ (k : Int) < 0 := by omega
  obtain ⟨b, o, rfl, -, hb2, hcell⟩ := hA (by omega)
  obtain ⟨es, -, hcs, hE⟩ := hcell k f hf
  have hE' := hE
  obtain ⟨eA4, ec4, eA5, ec5, rfl, ea0, ea2, ea3⟩ := hE'.flat
  have hc0 := hcs 0 (by omega)
  have hc1 := hcs 1 (by omega)
  have hc2 := hcs 2 (by omega)
  have hc3 := hcs 3 (by omega)
  have hc4 := hcs 4 (by omega)
  have hc5 := hcs 5 (by omega)
  simp at hc0 hc1 hc2 hc3 hc4 hc5
  have hk1 : (0 : Int) ≤ k := by omega
  have hk2 : (k : Int) < d.kids.length := by omega
  have hnd := nTree_kid hf hn
  have H1 := Lib.hid h1
  have hb3 : b < w.heap.size + 1 + 1 := by omega
  have hb4 : b < w.heap.size + 1 := by omega
  clear hcs hcell hA hf hn hk h1 hl hkl h
  go_enter Tryd.func12, Tryd.ntmps12
  go_wp2_with (go_at_call 25; refine (c_spec_KeyAt _ d _ _ _ _ (hC.now (by repeat (first | (with_reducible exact Below.refl _ _) | (with_reducible refine ext_alloc ?_) | ((with_reducible refine ext_setCell ?_ ?_); focus (simp; (try omega))) | (with_reducible refine below_drewN ?_ _) | (with_reducible refine Below.drew ?_) | (with_reducible (apply ext_step; assumption)))))).mono ?_; rintro e w1 ⟨rfl, hb⟩; rw [H1.out]; have hk9 := hb.size; simp at hk9; (first | (have hcu2 := Cum.join hcu hb; (try clear hcu); (try clear hc); (try clear hfz); (try clear hsz); (try clear hs0); (try clear hs1); (try clear hs2); (try clear hs3); (try clear hs4); ) | have hcu2 := Cum.mk hb); have hcu := hcu2; clear hcu2; obtain ⟨hc, hfz⟩ := bcell hcu.h; have hsz := hcu.h.size; (try simp at hsz); (try have hs0 := lt_of_succ_le hsz); (try (have hs1 := lt_pred hsz; (try (have hs2 := lt_pred hs1; (try (have hs3 := lt_pred hs2; (try have hs4 := lt_pred hs3))))))))
  refine (all_l08 m f _ _ _ (hE.now (by repeat (first | (with_reducible exact Below.refl _ _) | (with_reducible refine ext_alloc ?_) | ((with_reducible refine ext_setCell ?_ ?_); focus (simp; (try omega))) | (with_reducible refine below_drewN ?_ _) | (with_reducible refine Below.drew ?_) | (with_reducible (apply ext_step; assumption))))) hnd).mono ?_
  rintro e w2 ⟨cs2, rfl, ho, hb⟩
  obtain ⟨fA4, fc4, fA5, fc5, rfl, fa0, fa2, fa3⟩ := ho.flat
  have hs2 := hb.size
  (first | (have hcu2 := Cum.join hcu hb; (try clear hcu); (try clear hc); (try clear hfz); (try clear hsz); (try clear hs0); (try clear hs1); (try clear hs2); (try clear hs3); (try clear hs4); ) | have hcu2 := Cum.mk hb); have hcu := hcu2; clear hcu2; obtain ⟨hc, hfz⟩ := bcell hcu.h; have hsz := hcu.h.size; (try simp at hsz); (try have hs0 := lt_of_succ_le hsz); (try (have hs1 := lt_pred hsz; (try (have hs2 := lt_pred hs1; (try (have hs3 := lt_pred hs2; (try have hs4 := lt_pred hs3)))))))
  go_wp2_with fail
  refine bodyPost_ret (v := .tuple #[.agg #[.int .i64 f.kind, .bool f.flag, .int .i64 f.num, .string f.text, .slice fA4 f.keys.length fc4, .slice fA5 f.kids.length fc5], .bool true]) (by simp only [results, Tryd.results12]; go_simp) rfl ⟨[.int .i64 f.kind, .bool f.flag, .int .i64 f.num, .string f.text, .slice fA4 f.keys.length fc4, .slice fA5 f.kids.length fc5], rfl, (ho.up (Nat.le_succ m)).carry ?_ ?_, (by repeat (first | (with_reducible exact Below.refl _ _) | (with_reducible refine ext_alloc ?_) | ((with_reducible refine ext_setCell ?_ ?_); focus (simp; (try omega))) | (with_reducible refine below_drewN ?_ _) | (with_reducible refine Below.drew ?_) | (with_reducible (apply ext_step; assumption))))⟩
  · intro q hq
    exact Aside.block (S := fun b => b = w.heap.size + 1) (w := w2) (by repeat (first | (with_reducible exact Aside.refl _ _) | ((with_reducible refine aside_set ?_ ?_); (focus (simp; done))) | (with_reducible refine aside_alloc ?_))) q hq.2 (by have := hq.1; omega)
  · intro q hq
    have := hq.1
    have := hq.2
    simp
    omega
end Go.Proofs.YtdogjeoiggnhaaaDoor
