/- Contracts of the laws' own toStringS, toTree, toTreeS: what they make lies in blocks of its own. No conditions. Written by wip/tools/gentown.py. -/
import Derived.Test.YtipogknfbofbkaaGrow
namespace Go.Proofs.Ytipogknfbofbkaa
open Go.RowKit

/-- A row of trees under construction; what its first k trees point to lies between the blocks base and hi. -/
def PartO (n base hi : Nat) (w : World) (l : List TreeD) (k : Nat) (cs : Array Value) : Prop :=
  cs.size = l.length * 6 ∧ ∃ F : Nat → Nat → Prop, (∀ i b, F i b → base ≤ b ∧ b < hi) ∧ (∀ i j b, F i b → F j b → i = j) ∧ ∀ i d, i < k → l[i]? = some d → ∃ es, es.length = 6 ∧ (∀ j, j < 6 → cs[i * 6 + j]? = es[j]?) ∧ OwnT n (F i) w d es
theorem PartO.zero {n base hi : Nat} {w : World} {l : List TreeD} {cs : Array Value} (h : cs.size = l.length * 6) : PartO n base hi w l 0 cs := ⟨h, fun _ _ => False, fun _ _ h => h.elim, fun _ _ _ h => h.elim, fun i _ hi => by omega⟩
theorem PartO.store {n base hi hi' k : Nat} {w w' : World} {l : List TreeD} {cs : Array Value} {d : TreeD} {es : List Value} {S : Nat → Prop} (h : PartO n base hi w l k cs) (hd : l[k]? = some d) (hO : OwnT n S w' d es) (hS : ∀ b, S b → hi ≤ b ∧ b < hi') (hbh : base ≤ hi) (hh : hi ≤ hi') (hk : ∀ b, base ≤ b → b < hi → w'.heap[b]? = w.heap[b]?) : PartO n base hi' w' l (k + 1) (putAt cs (k * 6) es) := by
  obtain ⟨h1, F, f1, f2, f3⟩ := h
  have hl := hO.len
  have hkl : k < l.length := (List.getElem?_eq_some_iff.1 hd).1
  have hks : (k + 1) * 6 ≤ l.length * 6 := Nat.mul_le_mul_right _ hkl
  refine ⟨by rw [size_putAt]; exact h1, fun i b => (i < k ∧ F i b) ∨ (i = k ∧ S b), ?_, ?_, fun i d' hi' hd' => ?_⟩
  · rintro i b (⟨_, hF⟩ | ⟨_, hF⟩)
    · have := f1 i b hF; omega
    · have := hS b hF; omega
  · rintro i j b (⟨_, hF⟩ | ⟨_, hF⟩) (⟨_, hG⟩ | ⟨_, hG⟩)
    · exact f2 i j b hF hG
    · have := f1 i b hF; have := hS b hG; omega
    · have := f1 j b hG; have := hS b hF; omega
    · omega
  · by_cases he : i = k
    · subst he
      rw [hd] at hd'
      obtain rfl := Option.some.inj hd'
      exact ⟨es, hl, fun j hj => get_putAt es cs _ j (by omega) (by rw [hl, h1]; omega), hO.carry (fun _ _ => rfl) (fun b hb => .inr ⟨rfl, hb⟩)⟩
    · obtain ⟨es', e1, e2, e3⟩ := f3 i d' (by omega) hd'
      have : (i + 1) * 6 ≤ k * 6 := Nat.mul_le_mul_right _ (by omega)
      refine ⟨es', e1, fun j hj => ?_, e3.carry (fun b hb => hk b (f1 i b hb).1 (f1 i b hb).2) (fun b hb => .inl ⟨by omega, hb⟩)⟩
      rw [get_putAt_lt _ _ _ _ (by omega)]
      exact e2 j hj
theorem PartO.own {n hi g : Nat} {w : World} {l : List TreeD} {cs : Array Value} {c : Nat} (h : PartO n (g + 1) hi w l l.length cs) (hg : w.heap[g]? = some (.cells cs 40 (0, 0))) (hgh : g < hi) (hc : l.length ≤ c) (hc2 : c ≤ 9223372036854775807) : OwnK (OwnT n) (fun b => g ≤ b ∧ b < hi) w l (.slice (some ⟨g, 0, none⟩) l.length c) := by
  obtain ⟨h1, F, f1, f2, f3⟩ := h
  exact ⟨_, c, rfl, hc, hc2, fun _ => ⟨g, F, rfl, ⟨Nat.le_refl _, hgh⟩, fun i b hb => by have := f1 i b hb; exact ⟨⟨by omega, this.2⟩, by omega⟩, f2, cs, hg, fun i d hd => f3 i d (List.getElem?_eq_some_iff.1 hd).1 hd⟩⟩

theorem c_laws_toStringSO (l : List ByteArray) (v : Value) (w : World) (lo : Nat) (hs : Sl_Str lo w.heap.size w l v) (hn : l.length ≤ 1048576) :
    Calls Try.prog 96 #[v] w fun e w' => ∃ A c, e = .returned (.slice A l.length c) ∧ OwnS (fun b => w.heap.size ≤ b ∧ b < w'.heap.size) w' l (.slice A l.length c) ∧ Below w.heap.size w w' := by
  obtain ⟨A, c, rfl, hlc, hc, hA⟩ := hs
  have hmk := run_make_slice (P := Try.prog) (z := .string ⟨#[]⟩) (size := 1) (bytes := 16) Try.underlying37 (by kernel_rfl) l.length (by omega) (by omega)
  go_enter Try.func96, Try.ntmps96
  go_wp2_with fail
  go_loopw [4] (fun i wr => ∃ (k : Nat) (cs : Array Value), k ≤ l.length ∧ i = .int .i64 k ∧ Below w.heap.size w wr ∧ wr.heap[w.heap.size]? = some (.cells cs 9 (0, 0)) ∧ Part C_Str 1 l k cs) (fun i _ => l.length - (intOf i).toNat)
  case atStart => exact ⟨0, _, Nat.zero_le _, rfl, (by repeat (first | (with_reducible exact Below.refl _ _) | (with_reducible refine ext_alloc ?_) | ((with_reducible refine ext_setCell ?_ ?_); focus (simp; (try omega))) | (with_reducible refine below_drewN ?_ _) | (with_reducible refine Below.drew ?_) | (with_reducible (apply ext_step; assumption)))), heap_alloc_new _ _, Part.zero (by simp [size_madeCells])⟩
  case round =>
    obtain ⟨k, cs, hk, rfl, hbr, hg, hp⟩ := hrel
    by_cases hlt : k < l.length
    · obtain ⟨b, o, rfl, -, hb2, hcell⟩ := hA (by omega)
      obtain ⟨d, hd⟩ := exists_at hlt
      obtain ⟨es, -, hcs, rfl, hk1⟩ := hcell k d hd
      have hc0 := (hbr.cell (p := ⟨b, o + k * 1 + 0, none⟩) (by simp; omega)).trans (hcs 0 (by omega))
      simp at hc0
      obtain ⟨x0, hx0⟩ := row_cell hg (o := k * 1 + 0) (by rw [hp.1]; omega)
      have hf0 := frozen_row hg (k * 1 + 0)
      simp at hx0 hf0
      clear hcs hcell hA
      go_wp2_with fail
      go_roundw
      case rel => exact ⟨k + 1, putAt cs k [.string d], by omega, by go_num, (by repeat (first | (with_reducible exact Below.refl _ _) | (with_reducible refine ext_alloc ?_) | ((with_reducible refine ext_setCell ?_ ?_); focus (simp; (try omega))) | (with_reducible refine below_drewN ?_ _) | (with_reducible refine Below.drew ?_) | (with_reducible (apply ext_step; assumption)))), heap_putCells [.string d] _ _ _ _ _ hg, by simpa using hp.store hd rfl ⟨rfl, hk1⟩⟩
      case measure => simp [intOf]; omega
    · obtain rfl : k = l.length := by omega
      clear hA
      go_wp2_with fail
      go_ret
      refine ⟨_, _, rfl, ⟨_, _, rfl, Nat.le_refl _, by omega, fun _ => ⟨w.heap.size, cs, rfl, ⟨Nat.le_refl _, row_lt hg⟩, hg, fun i s hi => ?_⟩⟩, (by repeat (first | (with_reducible exact Below.refl _ _) | (with_reducible refine ext_alloc ?_) | ((with_reducible refine ext_setCell ?_ ?_); focus (simp; (try omega))) | (with_reducible refine below_drewN ?_ _) | (with_reducible refine Below.drew ?_) | (with_reducible (apply ext_step; assumption))))⟩
      obtain ⟨es, -, e2, rfl, e3⟩ := hp.2 i s (List.getElem?_eq_some_iff.1 hi).1 hi
      exact ⟨by simpa using e2 0 (by omega), e3⟩


def T_toTreeO (n : Nat) : Prop := ∀ (d : TreeD) (cs : List Value) (w : World) (lo : Nat) (_ : C_Tree n lo w.heap.size w d cs) (_ : nTree n d ≤ 1048576),
    Calls Try.prog 52 #[.agg cs.toArray] w fun e w' => ∃ cs', e = .returned (.agg cs'.toArray) ∧ OwnT n (fun b => w.heap.size ≤ b ∧ b < w'.heap.size) w' d cs' ∧ Below w.heap.size w w'
def T_toTreeSO (n : Nat) : Prop := ∀ (l : List TreeD) (v : Value) (w : World) (lo : Nat) (_ : Sl_Tree n lo w.heap.size w l v) (_ : nL (nTree n) l ≤ 1048576),
    Calls Try.prog 112 #[v] w fun e w' => ∃ A c, e = .returned (.slice A l.length c) ∧ OwnK (OwnT n) (fun b => w.heap.size ≤ b ∧ b < w'.heap.size) w' l (.slice A l.length c) ∧ Below w.heap.size w w'
set_option maxHeartbeats 1000000 in
theorem of_toTreeSO (n : Nat) (ih : T_toTreeO n) : T_toTreeSO n := by
  intro l v w lo hs hn
  obtain ⟨A, c, rfl, hlc, hc, hA⟩ := hs
  have hlen : l.length ≤ 1048576 := by have := nL_def (nTree n) l; omega
  have hmk := run_make_slice (P := Try.prog) (z := .agg #[.int .i64 0, .bool false, .int .i64 0, .string ⟨#[]⟩, .slice none 0 0, .slice none 0 0]) (size := 6) (bytes := 88) Try.underlying38 (by kernel_rfl) l.length (by omega) (by omega)
  go_enter Try.func112, Try.ntmps112
  go_wp2_with fail
  go_loopw [4] (fun i wr => ∃ (k : Nat) (cs : Array Value), k ≤ l.length ∧ i = .int .i64 k ∧ Below w.heap.size w wr ∧ wr.heap[w.heap.size]? = some (.cells cs 40 (0, 0)) ∧ PartO n (w.heap.size + 1) wr.heap.size wr l k cs) (fun i _ => l.length - (intOf i).toNat)
  case atStart => exact ⟨0, _, Nat.zero_le _, rfl, (by repeat (first | (with_reducible exact Below.refl _ _) | (with_reducible refine ext_alloc ?_) | ((with_reducible refine ext_setCell ?_ ?_); focus (simp; (try omega))) | (with_reducible refine below_drewN ?_ _) | (with_reducible refine Below.drew ?_) | (with_reducible (apply ext_step; assumption)))), heap_alloc_new _ _, PartO.zero (by simp [size_madeCells])⟩
  case round =>
    obtain ⟨k, cs, hk, rfl, hbr, hg, hp⟩ := hrel
    by_cases hlt : k < l.length
    · obtain ⟨b, o, rfl, -, hb2, hcell⟩ := hA (by omega)
      obtain ⟨d, hd⟩ := exists_at hlt
      obtain ⟨es, -, hcs, hC⟩ := hcell k d hd
      have hC' := hC
      obtain ⟨eA4, ec4, eA5, ec5, rfl, ea0, ea2, ea3⟩ := hC'.flat
      have hc0 := (hbr.cell (p := ⟨b, o + k * 6 + 0, none⟩) (by simp; omega)).trans (hcs 0 (by omega))
      simp at hc0
      have hc1 := (hbr.cell (p := ⟨b, o + k * 6 + 1, none⟩) (by simp; omega)).trans (hcs 1 (by omega))
      simp at hc1
      have hc2 := (hbr.cell (p := ⟨b, o + k * 6 + 2, none⟩) (by simp; omega)).trans (hcs 2 (by omega))
      simp at hc2
      have hc3 := (hbr.cell (p := ⟨b, o + k * 6 + 3, none⟩) (by simp; omega)).trans (hcs 3 (by omega))
      simp at hc3
      have hc4 := (hbr.cell (p := ⟨b, o + k * 6 + 4, none⟩) (by simp; omega)).trans (hcs 4 (by omega))
      simp at hc4
      have hc5 := (hbr.cell (p := ⟨b, o + k * 6 + 5, none⟩) (by simp; omega)).trans (hcs 5 (by omega))
      simp at hc5
      obtain ⟨x0, hx0⟩ := row_cell hg (o := k * 6 + 0) (by rw [hp.1]; omega)
      have hf0 := frozen_row hg (k * 6 + 0)
      rw [Nat.add_zero] at hx0 hf0
      obtain ⟨x1, hx1⟩ := row_cell hg (o := k * 6 + 1) (by rw [hp.1]; omega)
      have hf1 := frozen_row hg (k * 6 + 1)
      obtain ⟨x2, hx2⟩ := row_cell hg (o := k * 6 + 2) (by rw [hp.1]; omega)
      have hf2 := frozen_row hg (k * 6 + 2)
      obtain ⟨x3, hx3⟩ := row_cell hg (o := k * 6 + 3) (by rw [hp.1]; omega)
      have hf3 := frozen_row hg (k * 6 + 3)
      obtain ⟨x4, hx4⟩ := row_cell hg (o := k * 6 + 4) (by rw [hp.1]; omega)
      have hf4 := frozen_row hg (k * 6 + 4)
      obtain ⟨x5, hx5⟩ := row_cell hg (o := k * 6 + 5) (by rw [hp.1]; omega)
      have hf5 := frozen_row hg (k * 6 + 5)
      have hgl := row_lt hg
      clear hcs hcell hA
      have hnd : nTree n d ≤ 1048576 := by have := nL_def (nTree n) l; have := szL_take_succ (nTree n) l k d hd; have := szL_take_le (nTree n) l (k+1); omega
      go_wp2_with fail
      refine (ih d _ _ _ (hC.now (by repeat (first | (with_reducible exact Below.refl _ _) | (with_reducible refine ext_alloc ?_) | ((with_reducible refine ext_setCell ?_ ?_); focus (simp; (try omega))) | (with_reducible refine below_drewN ?_ _) | (with_reducible refine Below.drew ?_) | (with_reducible (apply ext_step; assumption))))) hnd).mono ?_
      rintro e w1 ⟨cs1, rfl, hr1, hb⟩
      have hK := hr1
      have hr1f := hr1
      obtain ⟨fA4, fc4, fA5, fc5, rfl, fa0, fa2, fa3⟩ := hr1f.flat
      (first | (have hcu2 := Cum.join hcu hb; (try clear hcu); (try clear hc); (try clear hfz); (try clear hsz); (try clear hs0); (try clear hs1); (try clear hs2); (try clear hs3); (try clear hs4); ) | have hcu2 := Cum.mk hb); have hcu := hcu2; clear hcu2; obtain ⟨hc, hfz⟩ := bcell hcu.h; have hsz := hcu.h.size; (try simp at hsz); (try have hs0 := lt_of_succ_le hsz); (try (have hs1 := lt_pred hsz; (try (have hs2 := lt_pred hs1; (try (have hs3 := lt_pred hs2; (try have hs4 := lt_pred hs3)))))))
      go_wp2_with fail
      go_roundw
      case rel =>
        refine ⟨k + 1, putAt cs (k * 6) [.int .i64 d.kind, .bool d.flag, .int .i64 d.num, .string d.text, .slice fA4 d.keys.length fc4, .slice fA5 d.kids.length fc5], by omega, by go_num, (by repeat (first | (with_reducible exact Below.refl _ _) | (with_reducible refine ext_alloc ?_) | ((with_reducible refine ext_setCell ?_ ?_); focus (simp; (try omega))) | (with_reducible refine below_drewN ?_ _) | (with_reducible refine Below.drew ?_) | (with_reducible (apply ext_step; assumption)))), heap_putCells [.int .i64 d.kind, .bool d.flag, .int .i64 d.num, .string d.text, .slice fA4 d.keys.length fc4, .slice fA5 d.kids.length fc5] _ _ _ _ _ ((hb.block _ hgl).trans hg), ?_⟩
        exact hp.store hd (hK.carry (fun b hb => Aside.block (S := fun b => b = w.heap.size) (w := w1) (by repeat (first | (with_reducible exact Aside.refl _ _) | ((with_reducible refine aside_set ?_ ?_); (focus (simp; done))) | (with_reducible refine aside_alloc ?_))) b hb.2 (by have := hb.1; omega)) (fun _ h => h)) (fun b hb => ⟨hb.1, by simpa using hb.2⟩) (by omega) (by simpa using hb.size) (fun b h1 h2 => Eq.trans (Aside.block (S := fun b => b = w.heap.size) (w := w1) (by repeat (first | (with_reducible exact Aside.refl _ _) | ((with_reducible refine aside_set ?_ ?_); (focus (simp; done))) | (with_reducible refine aside_alloc ?_))) b (Nat.lt_of_lt_of_le h2 hb.size) (by omega)) (hb.block b h2))
      case measure => simp [intOf]; omega
    · obtain rfl : k = l.length := by omega
      clear hA
      go_wp2_with fail
      go_ret
      exact ⟨_, _, rfl, PartO.own hp hg (row_lt hg) (Nat.le_refl _) (by omega), (by repeat (first | (with_reducible exact Below.refl _ _) | (with_reducible refine ext_alloc ?_) | ((with_reducible refine ext_setCell ?_ ?_); focus (simp; (try omega))) | (with_reducible refine below_drewN ?_ _) | (with_reducible refine Below.drew ?_) | (with_reducible (apply ext_step; assumption))))⟩
set_option maxHeartbeats 1000000 in
theorem of_toTreeO (n : Nat) (ihS : T_toTreeSO n) : T_toTreeO (n + 1) := by
  intro d cs w lo h hn
  obtain ⟨v4, v5, rfl, a0, a2, a3, a4, a5⟩ := C_Tree.out h
  obtain ⟨A4, c4, rfl⟩ := a4.form
  obtain ⟨A5, c5, rfl⟩ := a5.form
  unfold I64 at a0
  unfold I64 at a2
  rw [nTree_succ] at hn
  have m4 : d.keys.length ≤ 1048576 := by have := nL_def ByteArray.size d.keys; omega
  have m5 : d.kids.length ≤ 1048576 := by have := nL_def (nTree n) d.kids; omega
  go_enter Try.func52, Try.ntmps52
  go_wp2_with fail
  refine (c_laws_toStringSO _ _ _ _ (Sl_Str.now (by assumption) (by repeat (first | (with_reducible exact Below.refl _ _) | (with_reducible refine ext_alloc ?_) | ((with_reducible refine ext_setCell ?_ ?_); focus (simp; (try omega))) | (with_reducible refine below_drewN ?_ _) | (with_reducible refine Below.drew ?_) | (with_reducible (apply ext_step; assumption))))) (by omega)).mono ?_
  rintro e w4 ⟨B4, b4, rfl, r4, hb⟩
  (first | (have hcu2 := Cum.join hcu hb; (try clear hcu); (try clear hc); (try clear hfz); (try clear hsz); (try clear hs0); (try clear hs1); (try clear hs2); (try clear hs3); (try clear hs4); ) | have hcu2 := Cum.mk hb); have hcu := hcu2; clear hcu2; obtain ⟨hc, hfz⟩ := bcell hcu.h; have hsz := hcu.h.size; (try simp at hsz); (try have hs0 := lt_of_succ_le hsz); (try (have hs1 := lt_pred hsz; (try (have hs2 := lt_pred hs1; (try (have hs3 := lt_pred hs2; (try have hs4 := lt_pred hs3)))))))
  have hb4 := hb
  have st4 := hb.size
  (try simp at st4)
  go_wp2_with fail
  refine (ihS _ _ _ _ (Sl_Tree.now (by assumption) (by repeat (first | (with_reducible exact Below.refl _ _) | (with_reducible refine ext_alloc ?_) | ((with_reducible refine ext_setCell ?_ ?_); focus (simp; (try omega))) | (with_reducible refine below_drewN ?_ _) | (with_reducible refine Below.drew ?_) | (with_reducible (apply ext_step; assumption))))) (by omega)).mono ?_
  rintro e w5 ⟨B5, b5, rfl, r5, hb⟩
  (first | (have hcu2 := Cum.join hcu hb; (try clear hcu); (try clear hc); (try clear hfz); (try clear hsz); (try clear hs0); (try clear hs1); (try clear hs2); (try clear hs3); (try clear hs4); ) | have hcu2 := Cum.mk hb); have hcu := hcu2; clear hcu2; obtain ⟨hc, hfz⟩ := bcell hcu.h; have hsz := hcu.h.size; (try simp at hsz); (try have hs0 := lt_of_succ_le hsz); (try (have hs1 := lt_pred hsz; (try (have hs2 := lt_pred hs1; (try (have hs3 := lt_pred hs2; (try have hs4 := lt_pred hs3)))))))
  have hb5 := hb
  have st5 := hb.size
  (try simp at st5)
  go_wp2_with fail
  refine bodyPost_ret (v := .agg #[.int .i64 d.kind, .bool d.flag, .int .i64 d.num, .string d.text, .slice B4 d.keys.length b4, .slice B5 d.kids.length b5]) (by simp only [results, Try.results52]; go_simp) rfl ⟨[.int .i64 d.kind, .bool d.flag, .int .i64 d.num, .string d.text, .slice B4 d.keys.length b4, .slice B5 d.kids.length b5], rfl, OwnT.into ⟨_, _, fun b => w.heap.size + 3 ≤ b ∧ b < w4.heap.size, fun b => w4.heap.size ≤ b ∧ b < w5.heap.size, rfl, a0, a2, a3, ?_, ?_, r4.carry ?_ ?_, r5.keep ?_ ?_⟩, (by repeat (first | (with_reducible exact Below.refl _ _) | (with_reducible refine ext_alloc ?_) | ((with_reducible refine ext_setCell ?_ ?_); focus (simp; (try omega))) | (with_reducible refine below_drewN ?_ _) | (with_reducible refine Below.drew ?_) | (with_reducible (apply ext_step; assumption))))⟩
  · intro b hb; simp; omega
  · intro b hb; simp; omega
  · intro b hb
    simp at hb
    exact Eq.trans (Aside.block (S := fun b => b = w.heap.size + 1 ∨ b = w.heap.size + 2) (w := w5) (by repeat (first | (with_reducible exact Aside.refl _ _) | ((with_reducible refine aside_set ?_ ?_); (focus (simp; done))) | (with_reducible refine aside_alloc ?_))) b (by omega) (by omega)) ((hb5.block b (by simp; omega)).trans (Below.heap_setCell _ _ _ b (by simp; omega)))
  · intro b hb; simpa using hb
  · intro b hb
    simp at hb
    exact Aside.block (S := fun b => b = w.heap.size + 1 ∨ b = w.heap.size + 2) (w := w5) (by repeat (first | (with_reducible exact Aside.refl _ _) | ((with_reducible refine aside_set ?_ ?_); (focus (simp; done))) | (with_reducible refine aside_alloc ?_))) b (by omega) (by omega)
  · intro b hb; simpa using hb
theorem all_toTreeO : ∀ n, T_toTreeO n
  | 0 => fun _ _ _ _ h _ => (C_Tree.none h).elim
  | n + 1 => of_toTreeO n (of_toTreeSO n (all_toTreeO n))
end Go.Proofs.Ytipogknfbofbkaa
