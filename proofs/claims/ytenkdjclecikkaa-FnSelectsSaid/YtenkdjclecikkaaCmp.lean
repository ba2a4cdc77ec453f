/- Contracts of the library's comparisons (cmp.Compare, cmp.Or, strings.Compare), and plain laws on the order of strings. No conditions. -/
import Derived.Test.YtenkdjclecikkaaStrs
namespace Go.Proofs.Ytenkdjclecikkaa
open Go.RowKit

def cmpI (x y : Int) : Int := if x < y then -1 else if y < x then 1 else 0
def cmpS (a b : ByteArray) : Int := Lib.compareBytes a.data.toList b.data.toList
def lessS (a b : ByteArray) : Bool := Op.bytesLess a.toList b.toList
def orI : List Int → Int
  | [] => 0
  | x :: l => if x == 0 then orI l else x

theorem cmpB_cases : ∀ (a b : List UInt8), (Lib.compareBytes a b = 0 ∧ a = b) ∨ (Lib.compareBytes a b = -1 ∧ a ≠ b ∧ Op.bytesLess a b = true) ∨ (Lib.compareBytes a b = 1 ∧ a ≠ b ∧ Op.bytesLess a b = false)
  | [], [] => .inl ⟨rfl, rfl⟩
  | [], _ :: _ => .inr (.inl ⟨rfl, by simp, rfl⟩)
  | _ :: _, [] => .inr (.inr ⟨rfl, by simp, rfl⟩)
  | x :: a, y :: b => by
    have ih := cmpB_cases a b
    unfold Lib.compareBytes Op.bytesLess
    by_cases h1 : x < y
    · refine .inr (.inl ⟨by simp [h1], ?_, by simp [h1]⟩)
      intro h
      injection h with h2 _
      subst h2
      exact absurd h1 (UInt8.lt_irrefl x)
    · by_cases h2 : y < x
      · refine .inr (.inr ⟨by simp [h1, h2], ?_, ?_⟩)
        · intro h
          injection h with h3 _
          subst h3
          exact absurd h2 (UInt8.lt_irrefl x)
        · have : (x == y) = false := by
            rw [beq_eq_false_iff_ne]
            intro h3
            subst h3
            exact absurd h2 (UInt8.lt_irrefl x)
          simp [h1, this]
      · have h3 : x = y := UInt8.le_antisymm (UInt8.not_lt.1 h2) (UInt8.not_lt.1 h1)
        subst h3
        simpa [h1] using ih

theorem cmpS_cases (a b : ByteArray) : (cmpS a b = 0 ∧ a = b) ∨ (cmpS a b = -1 ∧ a ≠ b ∧ lessS a b = true) ∨ (cmpS a b = 1 ∧ a ≠ b ∧ lessS a b = false) := by
  have h := cmpB_cases a.data.toList b.data.toList
  unfold cmpS lessS
  rw [ByteArray.toList_eq, ByteArray.toList_eq]
  have e : a.data.toList = b.data.toList ↔ a = b := by
    constructor
    · intro h
      obtain ⟨x⟩ := a
      obtain ⟨y⟩ := b
      simp at h
      rw [h]
    · intro h
      rw [h]
  simp only [ne_eq, e] at h
  exact h
theorem beq_toList (a b : ByteArray) : (a.toList == b.toList) = decide (a = b) := by
  rw [Bool.eq_iff_iff, ByteArray.toList_eq, ByteArray.toList_eq]
  obtain ⟨x⟩ := a
  obtain ⟨y⟩ := b
  simp
theorem cmpI_cases (x y : Int) : (cmpI x y = 0 ∧ x = y) ∨ (cmpI x y = -1 ∧ x < y) ∨ (cmpI x y = 1 ∧ y < x) := by
  unfold cmpI
  split
  · exact .inr (.inl ⟨rfl, by assumption⟩)
  · split
    · exact .inr (.inr ⟨rfl, by assumption⟩)
    · exact .inl ⟨rfl, by omega⟩

def C_Int (n : Int) (cs : List Value) : Prop := cs = [.int .i64 n]
theorem part_ints (l : List Int) : Part C_Int 1 l l.length (l.map (Value.int .i64)).toArray := by
  refine ⟨by simp, fun i d _ hd => ⟨[.int .i64 d], rfl, fun j hj => ?_, rfl⟩⟩
  obtain rfl : j = 0 := by omega
  simp [hd]
theorem built_ints (l : List Int) (w : World) (T : TypeId) (h : l.length ≤ 9223372036854775807) : SlOf C_Int 1 0 (w.alloc (.cells (l.map (Value.int .i64)).toArray T)).heap.size (w.alloc (.cells (l.map (Value.int .i64)).toArray T)) l (.slice (some ⟨w.heap.size, 0, none⟩) l.length l.length) :=
  SlOf.of_part (part_ints l) (heap_alloc_new _ _) (Nat.zero_le _) (by simp) (Nat.le_refl _) h
theorem orI_drop (l : List Int) (k : Nat) (x : Int) (h : l[k]? = some x) : orI (l.drop k) = if x == 0 then orI (l.drop (k + 1)) else x := by
  have hl : k < l.length := (List.getElem?_eq_some_iff.1 h).1
  rw [List.drop_eq_getElem_cons hl]
  have : l[k] = x := by rw [List.getElem?_eq_getElem hl] at h; exact Option.some.inj h
  rw [this]
  rfl
end Go.Proofs.Ytenkdjclecikkaa
