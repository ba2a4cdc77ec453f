/- Contracts of the laws' own toStringS and toNeed: what they make lies in blocks of its own. No conditions. -/
import Derived.Test.YtmhlnbihppojmaaOwnE
import Derived.Test.YtmhlnbihppojmaaHNeed
namespace Go.Proofs.Ytmhlnbihppojmaa
open Go.RowKit

theorem c_laws_toStringSO (l : List ByteArray) (v : Value) (w : World) (lo : Nat) (hs : Sl_Str lo w.heap.size w l v) (hn : l.length ≤ 1048576) :
    Calls Try.prog 118 #[v] w fun e w' => ∃ A c, e = .returned (.slice A l.length c) ∧ OwnS (fun b => w.heap.size ≤ b ∧ b < w'.heap.size) w' l (.slice A l.length c) ∧ Below w.heap.size w w' := by
  obtain ⟨A, c, rfl, hlc, hc, hA⟩ := hs
  have hmk := run_make_slice (P := Try.prog) (z := .string ⟨#[]⟩) (size := 1) (bytes := 16) Try.underlying94 (by kernel_rfl) l.length (by omega) (by omega)
  go_enter Try.func118, Try.ntmps118
  go_wp2_with fail
  go_loopw [4] (fun i wr => ∃ (k : Nat) (cs : Array Value), k ≤ l.length ∧ i = .int .i64 k ∧ Below w.heap.size w wr ∧ wr.heap[w.heap.size]? = some (.cells cs 9 (0, 0)) ∧ Part C_Str 1 l k cs) (fun i _ => l.length - (intOf i).toNat)
  case atStart => exact ⟨0, _, Nat.zero_le _, rfl, (by repeat (first | (with_reducible exact Below.refl _ _) | (with_reducible refine ext_alloc ?_) | ((with_reducible refine ext_setCell ?_ ?_); focus (simp; (try omega))) | (with_reducible refine below_drewN ?_ _) | (with_reducible refine Below.drew ?_) | (with_reducible (apply ext_step; assumption)))), heap_alloc_new _ _, Part.zero (by simp [size_madeCells])⟩
  case round =>
    obtain ⟨k, cs, hk, rfl, hbr, hg, hp⟩ := hrel
    by_cases hlt : k < l.length
    · obtain ⟨b, o, rfl, -, hb2, hcell⟩ := hA (by omega)
      obtain ⟨d, hd⟩ := exists_at hlt
      obtain ⟨es, -, hcs, rfl, hk1⟩ := hcell k d hd
      have hc0 := (hbr.cell (p := ⟨b, o + k * 1 + 0, none⟩) (by simp; omega)).trans (hcs 0 (by omega))
      simp at hc0
      obtain ⟨x0, hx0⟩ := row_cell hg (o := k * 1 + 0) (by rw [hp.1]; omega)
      have hf0 := frozen_row hg (k * 1 + 0)
      simp at hx0 hf0
      clear hcs hcell hA
      go_wp2_with fail
      go_roundw
      case rel => exact ⟨k + 1, putAt cs k [.string d], by omega, by go_num, (by repeat (first | (with_reducible exact Below.refl _ _) | (with_reducible refine ext_alloc ?_) | ((with_reducible refine ext_setCell ?_ ?_); focus (simp; (try omega))) | (with_reducible refine below_drewN ?_ _) | (with_reducible refine Below.drew ?_) | (with_reducible (apply ext_step; assumption)))), heap_putCells [.string d] _ _ _ _ _ hg, by simpa using hp.store hd rfl ⟨rfl, hk1⟩⟩
      case measure => simp [intOf]; omega
    · obtain rfl : k = l.length := by omega
      clear hA
      go_wp2_with fail
      go_ret
      refine ⟨_, _, rfl, ⟨_, _, rfl, Nat.le_refl _, by omega, fun _ => ⟨w.heap.size, cs, rfl, ⟨Nat.le_refl _, row_lt hg⟩, hg, fun i s hi => ?_⟩⟩, (by repeat (first | (with_reducible exact Below.refl _ _) | (with_reducible refine ext_alloc ?_) | ((with_reducible refine ext_setCell ?_ ?_); focus (simp; (try omega))) | (with_reducible refine below_drewN ?_ _) | (with_reducible refine Below.drew ?_) | (with_reducible (apply ext_step; assumption))))⟩
      obtain ⟨es, -, e2, rfl, e3⟩ := hp.2 i s (List.getElem?_eq_some_iff.1 hi).1 hi
      exact ⟨by simpa using e2 0 (by omega), e3⟩
set_option maxHeartbeats 1000000 in
theorem c_laws_toNeedO (d : Need) (cs : List Value) (w : World) (lo : Nat) (h : C_Need lo w.heap.size w d cs) (hn : nNeed d ≤ 1048576) :
    Calls Try.prog 72 #[.agg cs.toArray] w fun e w' => ∃ B b, e = .returned (.agg #[.string d.key, .int .i64 d.op, .slice B d.values.length b]) ∧ OwnS (fun q => w.heap.size ≤ q ∧ q < w'.heap.size) w' d.values (.slice B d.values.length b) ∧ Below w.heap.size w w' := by
  obtain ⟨v2, rfl, a0, a1, a2⟩ := h
  obtain ⟨A2, c2, rfl⟩ := a2.form
  unfold I64 at a1
  unfold nNeed at hn
  have m2 : d.values.length ≤ 1048576 := by have := nL_def ByteArray.size d.values; omega
  go_enter Try.func72, Try.ntmps72
  go_wp2_with fail
  refine (c_laws_toStringSO _ _ _ _ (Sl_Str.now (by assumption) (by repeat (first | (with_reducible exact Below.refl _ _) | (with_reducible refine ext_alloc ?_) | ((with_reducible refine ext_setCell ?_ ?_); focus (simp; (try omega))) | (with_reducible refine below_drewN ?_ _) | (with_reducible refine Below.drew ?_) | (with_reducible (apply ext_step; assumption))))) (by omega)).mono ?_
  rintro e w2 ⟨B2, b2, rfl, r2, hb⟩
  have HR := Lib.hid r2
  clear r2
  (first | (have hcu2 := Cum.join hcu hb; (try clear hcu); (try clear hc); (try clear hfz); (try clear hsz); (try clear hs0); (try clear hs1); (try clear hs2); (try clear hs3); (try clear hs4); ) | have hcu2 := Cum.mk hb); have hcu := hcu2; clear hcu2; obtain ⟨hc, hfz⟩ := bcell hcu.h; have hsz := hcu.h.size; (try simp at hsz); (try have hs0 := lt_of_succ_le hsz); (try (have hs1 := lt_pred hsz; (try (have hs2 := lt_pred hs1; (try (have hs3 := lt_pred hs2; (try have hs4 := lt_pred hs3)))))))
  have st2 := hb.size
  (try simp at st2)
  go_wp2_with fail
  exact bodyPost_ret (v := .agg #[.string d.key, .int .i64 d.op, .slice B2 d.values.length b2]) (by simp only [results, Try.results72]; go_simp) rfl ⟨B2, b2, rfl, HR.out.carry (fun q hq => Aside.block (S := fun i => i = w.heap.size + 1 ∨ i = w.heap.size + 1 + 1) (w := w2) (by repeat (first | (with_reducible exact Aside.refl _ _) | ((with_reducible refine aside_set ?_ ?_); (focus (simp; done))) | (with_reducible refine aside_alloc ?_))) q hq.2 (by have := hq.1; simp at this; omega)) (fun q hq => by have h1 := hq.1; have h2 := hq.2; simp at h1 ⊢; omega), (by repeat (first | (with_reducible exact Below.refl _ _) | (with_reducible refine ext_alloc ?_) | ((with_reducible refine ext_setCell ?_ ?_); focus (simp; (try omega))) | (with_reducible refine below_drewN ?_ _) | (with_reducible refine Below.drew ?_) | (with_reducible (apply ext_step; assumption))))⟩
end Go.Proofs.Ytmhlnbihppojmaa
