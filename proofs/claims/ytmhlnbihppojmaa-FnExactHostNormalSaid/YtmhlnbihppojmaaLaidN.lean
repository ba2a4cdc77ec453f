/- The library's slices.insertionSortCmpFunc at labels in this program: it is the one that the kit's contract was proved of. No conditions. Written by wip/tools/laidins.py with the kit's lay-plain. -/
import Derived.Shelf.SlSortCmp.WholeK
import Derived.Shelf.SlGeneric
import Derived.Test.YtmhlnbihppojmaaBase
namespace Go.Proofs.Ytmhlnbihppojmaa
open Go.Shelf
def insLabel_ren : Go.Shelf.Ren := ⟨fun | 20 => 206 | n => n, fun | 24 => 142 | 22 => 63 | 3 => 3 | 25 => 147 | 4 => 4 | 0 => 0 | n => n, fun | n => n⟩
theorem insLabel : Go.Proofs.SlLaysF0.n20 Try.prog insLabel_ren := {
  mixed := by kernel_rfl
  f20 := ⟨Try.f206.name, by decide, Try.func206.trans (congrArg some (by kernel_rfl))⟩
  t0 := Try.underlying0
  a0 := Try.isAgg0
  z0 := Try.sizeOf0
  v0 := Try.zeroValue0
  t3 := Try.underlying3
  a3 := Try.isAgg3
  z3 := Try.sizeOf3
  v3 := Try.zeroValue3
  t4 := Try.underlying4
  a4 := Try.isAgg4
  z4 := Try.sizeOf4
  v4 := Try.zeroValue4
  t22 := Try.underlying63
  a22 := Try.isAgg63
  z22 := Try.sizeOf63
  v22 := Try.zeroValue63
  t25 := Try.underlying147
  a25 := Try.isAgg147
  z25 := Try.sizeOf147
  v25 := Try.zeroValue147 }
end Go.Proofs.Ytmhlnbihppojmaa
