/- General lemmas on memory and lists; no program's own. No conditions. -/
import Derived.Test.YtdogjeoiggnhaaaDoorChecked
import Derived.WalkKit
import Derived.ProofKit
import Derived.WalkLawsBesides
import Derived.Lib.Hide
import Derived.Lib.Bytealg
import Derived.Below
import Derived.Deep.QuietTactic
import Derived.BigQuiet
import Derived.Deep.RegionHeld3
namespace Go.Proofs.YtdogjeoiggnhaaaDoor
open Go.RowKit

theorem bcell {W w1 : World} (hb : Below W.heap.size W w1) : (∀ b o, b < W.heap.size → w1.cell? ⟨b, o, none⟩ = W.cell? ⟨b, o, none⟩) ∧ (∀ b o, b < W.heap.size → w1.frozen? ⟨b, o, none⟩ = W.frozen? ⟨b, o, none⟩) :=
  ⟨fun b o h => hb.cell (p := ⟨b, o, none⟩) h, fun b o h => hb.frozen (p := ⟨b, o, none⟩) h⟩

theorem ret_int {k : IntKind} {a b : Int} (h : a = b) : Ending.returned (.int k a) = .returned (.int k b) := by rw [h]
theorem ret_bool {a b : Bool} (h : a = b) : Ending.returned (.bool a) = .returned (.bool b) := by rw [h]

theorem below_drewN {B : Nat} {a w : World} (h : Below B a w) (n : Nat) : Below B a (w.drewN n) := ⟨h.os, h.tape, h.output, h.size, h.block⟩
theorem ext_step {a b c : World} (k : Below b.heap.size b c) (h : Below a.heap.size a b) : Below a.heap.size a c := h.trans (k.mono h.size)
theorem ext_trans {a b c : World} (h : Below a.heap.size a b) (k : Below b.heap.size b c) : Below a.heap.size a c := h.trans (k.mono h.size)
theorem ext_alloc {a b : World} {o : Obj} (h : Below a.heap.size a b) : Below a.heap.size a (b.alloc o) := h.alloc h.size o
theorem ext_setCell {a b : World} {p : Addr} {u : Value} (hp : a.heap.size ≤ p.block) (h : Below a.heap.size a b) : Below a.heap.size a (b.setCell p u) := h.setCell hp u
/-- All that was there in A is there in W. -/
structure Cum (A W : World) : Prop where
  h : Below A.heap.size A W
theorem Cum.join {a b c : World} (h : Cum a b) (k : Below b.heap.size b c) : Cum a c := ⟨ext_step k h.h⟩
theorem isEmpty_false {s : ByteArray} (h : s.toList.isEmpty = false) : 0 < s.size := by
  rcases Nat.eq_zero_or_pos s.size with h0 | h0
  · have : s.toList = [] := by rw [ByteArray.toList_eq]; exact List.eq_nil_of_length_eq_zero (by simpa using h0)
    rw [this] at h; cases h
  · exact h0
theorem isEmpty_true {s : ByteArray} (h : s.toList.isEmpty = true) : s.size = 0 := by
  have h2 : s.data.toList = [] := by rw [← ByteArray.toList_eq]; simpa using h
  rw [← ByteArray.size_data, ← Array.length_toList, h2]; rfl
theorem lt_pred {a b : Nat} (h : a + 1 < b) : a < b := Nat.lt_of_succ_lt h
theorem lt_of_succ_le {a b : Nat} (h : a + 1 ≤ b) : a < b := h
theorem keep_drew (W : World) : Below W.heap.size W W.drew ∧ (∀ b o, b < W.heap.size → W.drew.cell? ⟨b, o, none⟩ = W.cell? ⟨b, o, none⟩) := ⟨(Below.refl _ _).drew, fun _ _ _ => rfl⟩
theorem keep_same {W a : World} (h : Below W.heap.size W a ∧ (∀ b o, b < W.heap.size → a.cell? ⟨b, o, none⟩ = W.cell? ⟨b, o, none⟩)) : Below W.heap.size W a ∧ (∀ b o, b < W.heap.size → a.cell? ⟨b, o, none⟩ = W.cell? ⟨b, o, none⟩) := h
theorem keep_ext {W a c : World} (h : Below W.heap.size W a ∧ (∀ b o, b < W.heap.size → a.cell? ⟨b, o, none⟩ = W.cell? ⟨b, o, none⟩)) (k : Below a.heap.size a c) : Below W.heap.size W c ∧ (∀ b o, b < W.heap.size → c.cell? ⟨b, o, none⟩ = W.cell? ⟨b, o, none⟩) :=
  have h2 := h.1.trans (k.mono h.1.size)
  ⟨h2, fun b o hb => h2.cell (p := ⟨b, o, none⟩) hb⟩
theorem keep_alloc {W a : World} (h : Below W.heap.size W a ∧ (∀ b o, b < W.heap.size → a.cell? ⟨b, o, none⟩ = W.cell? ⟨b, o, none⟩)) (o : Obj) : Below W.heap.size W (a.alloc o) ∧ (∀ b o', b < W.heap.size → (a.alloc o).cell? ⟨b, o', none⟩ = W.cell? ⟨b, o', none⟩) :=
  have h2 := ext_alloc (o := o) h.1
  ⟨h2, fun b o hb => h2.cell (p := ⟨b, o, none⟩) hb⟩
theorem held_step {W a : World} {X : Prop} (k : Below W.heap.size W a ∧ X) : Below W.heap.size W a := k.1

end Go.Proofs.YtdogjeoiggnhaaaDoor
