/- Laws on draws that hold of rows of every kind. No conditions. -/
import Derived.Test.YtenkdjclecikkaaDraw
import Derived.Test.YtenkdjclecikkaaCompE
namespace Go.Proofs.Ytenkdjclecikkaa
open Go.RowKit

theorem RowE.dr {D : Type} {enc : D → List Value} {sz ty base : Nat} {w w' : World} {l : List D} {v : Value} {code : List UInt8} {p : Nat} (h : RowE enc sz ty base w l v) (k : Dr code p w w') (hp : p < base) : RowE enc sz ty base w' l v :=
  h.carry (fun q hq => k.block (World.ownsRow.lt h q hq).2 (by have := (World.ownsRow.lt h q hq).1; omega))
theorem Dr.low {code : List UInt8} {p : Nat} {a b c : World} (h : Dr code p a b) (k : Below a.heap.size b c) (hp : p < a.heap.size) : Dr code p a c :=
  ⟨⟨k.os.trans h.aside.os, k.tape.trans h.aside.tape, k.output.trans h.aside.output, Nat.le_trans h.aside.size k.size, fun i hi hn => (k.block i hi).trans (h.aside.block i hi hn)⟩, h.cur.keep (fun i hle => k.block i (Nat.lt_of_le_of_lt hle hp))⟩
def AllC {D : Type} (C : D → List Value → Prop) (enc : D → List Value) (l : List D) : Prop := ∀ d ∈ l, C d (enc d)
theorem AllC.snoc {D : Type} {C : D → List Value → Prop} {enc : D → List Value} {l : List D} {d : D} (h : AllC C enc l) (hd : C d (enc d)) : AllC C enc (l ++ [d]) := by
  intro x hx
  rcases List.mem_append.1 hx with h1 | h1
  · exact h x h1
  · rw [List.mem_singleton] at h1
    subst h1
    exact hd
def lenOf : Value → Nat
  | .slice _ n _ => n
  | _ => 0
end Go.Proofs.Ytenkdjclecikkaa
