/- Contracts of the laws' own functions on Need: sizes, copies, comparisons. No conditions. Written by wip/tools/genhelp.py. -/
import Derived.Test.YtenkdjclecikkaaStrs
namespace Go.Proofs.Ytenkdjclecikkaa
open Go.RowKit

def nNeed (d : Need) : Nat := d.key.size + nL ByteArray.size d.values
theorem C_Need.open {lo hi : Nat} {w : World} {d : Need} {cs : List Value} (h : C_Need lo hi w d cs) : ∃ A2 c2, cs = [.string d.key, .int .i64 d.op, .slice A2 d.values.length c2] := by
  obtain ⟨v2, rfl, a0, a1, a2⟩ := h
  obtain ⟨A2, c2, rfl⟩ := a2.form
  exact ⟨A2, c2, rfl⟩
end Go.Proofs.Ytenkdjclecikkaa
