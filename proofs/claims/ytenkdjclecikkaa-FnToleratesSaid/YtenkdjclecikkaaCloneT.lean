/- Contracts of slices.Clone of taints and of tolerances: a row of the call's own. No conditions. Written by wip/tools/genclone.py. -/
import Derived.Test.YtenkdjclecikkaaRowE
import Derived.Lib.LazyBuf
namespace Go.Proofs.Ytenkdjclecikkaa
open Go.RowKit Go.Lib

def encT (d : Taint) : List Value := [.string d.key, .string d.value, .int .i64 d.effect]
def encTol (d : Tolerance) : List Value := [.string d.key, .bool d.equal, .string d.value, .int .i64 d.effect]
instance : Inhabited Taint := ⟨⟨⟨#[]⟩, ⟨#[]⟩, 0⟩⟩
instance : Inhabited Tolerance := ⟨⟨⟨#[]⟩, false, ⟨#[]⟩, 0⟩⟩
theorem encT_len (d : Taint) : (encT d).length = 3 := rfl
theorem encTol_len (d : Tolerance) : (encTol d).length = 4 := rfl
theorem encT_one (d : Taint) : ∀ v ∈ encT d, v.oneCell' = true := by intro u hu; simp [encT] at hu; rcases hu with rfl | rfl | rfl <;> rfl
theorem encTol_one (d : Tolerance) : ∀ v ∈ encTol d, v.oneCell' = true := by intro u hu; simp [encTol] at hu; rcases hu with rfl | rfl | rfl | rfl <;> rfl
theorem encT_C (d : Taint) (es : List Value) (h : C_Taint d es) : es = encT d := h.1
theorem encTol_C (d : Tolerance) (es : List Value) (h : C_Tolerance d es) : es = encTol d := h.1

end Go.Proofs.Ytenkdjclecikkaa
