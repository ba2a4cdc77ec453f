/-
  No cell of these rows narrows 'for every input' (looked for: loops, veiled, ifaces, maps, wideKeys, modest, calm, conditions, laid).
  DERIVED. THE GIVEN ROWS OF THIS SEAT. 5 by the template 'for every input the law returns true; each argument reads behind the call as it read before'; 0 by the template 'total and deterministic' (their statements: YtmhlnbihppojmaaTotals.lean).
  GIVEN WITH THE SEED: the statements are not yours to turn. If you find one false, say at which input.
  Laid BY PROGRAM, IN A SANDBOX (cutbox-rows.mjs): the forced cells as the released guide's own fill.sh prints them over the translation 387f471742565f75… (all of the seat's roots in one cut). By AI agents, Wed Nov 11 2026. No macro, syntax, notation, axiom, sorry.
-/
import Derived.Test.YtmhlnbihppojmaaChecked
import GoSem.Claim
import GoSem.ClaimJoined
import GoSem.ClaimMapViews
import Derived.JoinedTies
import Derived.KernelRfl
namespace Go.Proofs.Ytmhlnbihppojmaa
/- THE CELL 'sum', in the pinned program and in every row, IS THE sha256 OF THE DUMP (.gsa) THAT YtmhlnbihppojmaaProg.lean LOADS. Nothing in Lean hashes anything: it is a label: what it is worth is what the hold of that sum in a sandbox is worth. -/
noncomputable def Try.pinned : Pinned := { name := "ytmhlnbihppojmaa", sum := "387f471742565f754b30950f689b8f04d19d4aaf92d73f77b4653f83f3793678", checked := Try.checked }
namespace Rows
def none {H : Type} : Left H := { results := [], args := [] }

/-- 'laws.FnExactSortTaints': WHATEVER THE INPUT: true; the input reads as it did. -/
def fnExactSortTaintsSpec : ChangeSpec := { name := "fnExactSortTaints", fn := fun _ => fun
  | [d] => { results := [.lit (.bool true)], args := [d] }
  | _ => none }
def fnExactSortTaintsRow : OpenClaim := { program := "ytmhlnbihppojmaa", sum := "387f471742565f754b30950f689b8f04d19d4aaf92d73f77b4653f83f3793678", func := "loop.example/g00968/laws.FnExactSortTaints", spec := "fnExactSortTaints", inPlace := ["internal/bytealg.abigen_runtime_cmpstring", "internal/bytealg.IndexByteString"], unfollowed := true, recurses := true, apart := false }
def FnExactSortTaintsSaid : Prop := fnExactSortTaintsRow.holds Try.pinned (OpenSpec.ofChange fnExactSortTaintsSpec)

/-- ITS FALSE NEIGHBOUR: 'it returns false'. Refute it at one input. -/
def fnExactSortTaintsWrong : ChangeSpec := { name := "fnExactSortTaints", fn := fun _ => fun
  | [d] => { results := [.lit (.bool false)], args := [d] }
  | _ => none }
def FnExactSortTaintsWrongFalsely : Prop := fnExactSortTaintsRow.holds Try.pinned (OpenSpec.ofChange fnExactSortTaintsWrong)

/-- 'laws.FnExactSortTolerances': WHATEVER THE INPUT: true; the input reads as it did. -/
def fnExactSortTolerancesSpec : ChangeSpec := { name := "fnExactSortTolerances", fn := fun _ => fun
  | [d] => { results := [.lit (.bool true)], args := [d] }
  | _ => none }
def fnExactSortTolerancesRow : OpenClaim := { program := "ytmhlnbihppojmaa", sum := "387f471742565f754b30950f689b8f04d19d4aaf92d73f77b4653f83f3793678", func := "loop.example/g00968/laws.FnExactSortTolerances", spec := "fnExactSortTolerances", inPlace := ["internal/bytealg.abigen_runtime_cmpstring", "internal/bytealg.IndexByteString"], unfollowed := true, recurses := true, apart := false }
def FnExactSortTolerancesSaid : Prop := fnExactSortTolerancesRow.holds Try.pinned (OpenSpec.ofChange fnExactSortTolerancesSpec)

/-- ITS FALSE NEIGHBOUR: 'it returns false'. Refute it at one input. -/
def fnExactSortTolerancesWrong : ChangeSpec := { name := "fnExactSortTolerances", fn := fun _ => fun
  | [d] => { results := [.lit (.bool false)], args := [d] }
  | _ => none }
def FnExactSortTolerancesWrongFalsely : Prop := fnExactSortTolerancesRow.holds Try.pinned (OpenSpec.ofChange fnExactSortTolerancesWrong)

/-- 'laws.FnTaints': WHATEVER THE INPUT: true; the input reads as it did. -/
def fnTaintsSpec : ChangeSpec := { name := "fnTaints", fn := fun _ => fun
  | [d] => { results := [.lit (.bool true)], args := [d] }
  | _ => none }
def fnTaintsRow : OpenClaim := { program := "ytmhlnbihppojmaa", sum := "387f471742565f754b30950f689b8f04d19d4aaf92d73f77b4653f83f3793678", func := "loop.example/g00968/laws.FnTaints", spec := "fnTaints", inPlace := ["internal/bytealg.abigen_runtime_cmpstring", "internal/bytealg.IndexByteString"], unfollowed := true, recurses := true, apart := false }
def FnTaintsSaid : Prop := fnTaintsRow.holds Try.pinned (OpenSpec.ofChange fnTaintsSpec)

/-- ITS FALSE NEIGHBOUR: 'it returns false'. Refute it at one input. -/
def fnTaintsWrong : ChangeSpec := { name := "fnTaints", fn := fun _ => fun
  | [d] => { results := [.lit (.bool false)], args := [d] }
  | _ => none }
def FnTaintsWrongFalsely : Prop := fnTaintsRow.holds Try.pinned (OpenSpec.ofChange fnTaintsWrong)

/-- 'laws.FnExactSortNeeds': WHATEVER THE INPUT: true; the input reads as it did. -/
def fnExactSortNeedsSpec : ChangeSpec := { name := "fnExactSortNeeds", fn := fun _ => fun
  | [d] => { results := [.lit (.bool true)], args := [d] }
  | _ => none }
def fnExactSortNeedsRow : OpenClaim := { program := "ytmhlnbihppojmaa", sum := "387f471742565f754b30950f689b8f04d19d4aaf92d73f77b4653f83f3793678", func := "loop.example/g00968/laws.FnExactSortNeeds", spec := "fnExactSortNeeds", inPlace := ["internal/bytealg.abigen_runtime_cmpstring", "internal/bytealg.IndexByteString"], unfollowed := true, recurses := true, apart := false }
def FnExactSortNeedsSaid : Prop := fnExactSortNeedsRow.holds Try.pinned (OpenSpec.ofChange fnExactSortNeedsSpec)

/-- ITS FALSE NEIGHBOUR: 'it returns false'. Refute it at one input. -/
def fnExactSortNeedsWrong : ChangeSpec := { name := "fnExactSortNeeds", fn := fun _ => fun
  | [d] => { results := [.lit (.bool false)], args := [d] }
  | _ => none }
def FnExactSortNeedsWrongFalsely : Prop := fnExactSortNeedsRow.holds Try.pinned (OpenSpec.ofChange fnExactSortNeedsWrong)

/-- 'laws.FnExactHostNormal': WHATEVER THE INPUT: true; the input reads as it did. -/
def fnExactHostNormalSpec : ChangeSpec := { name := "fnExactHostNormal", fn := fun _ => fun
  | [d] => { results := [.lit (.bool true)], args := [d] }
  | _ => none }
def fnExactHostNormalRow : OpenClaim := { program := "ytmhlnbihppojmaa", sum := "387f471742565f754b30950f689b8f04d19d4aaf92d73f77b4653f83f3793678", func := "loop.example/g00968/laws.FnExactHostNormal", spec := "fnExactHostNormal", inPlace := ["internal/bytealg.abigen_runtime_cmpstring", "internal/bytealg.IndexByteString"], unfollowed := true, recurses := true, apart := false }
def FnExactHostNormalSaid : Prop := fnExactHostNormalRow.holds Try.pinned (OpenSpec.ofChange fnExactHostNormalSpec)

/-- ITS FALSE NEIGHBOUR: 'it returns false'. Refute it at one input. -/
def fnExactHostNormalWrong : ChangeSpec := { name := "fnExactHostNormal", fn := fun _ => fun
  | [d] => { results := [.lit (.bool false)], args := [d] }
  | _ => none }
def FnExactHostNormalWrongFalsely : Prop := fnExactHostNormalRow.holds Try.pinned (OpenSpec.ofChange fnExactHostNormalWrong)

/- THE SECOND FORM. 'bulk': how many values and letters a reading holds, each counted each time it is reached (what is shared counts as often as it is met; a slice's spare places count too). A statement '..UptoSaid' is the law's where the arguments, and the package variables that the reading takes, are together of bulk at most 1048576: NARROWER than '..Said'. Prove '..Said' where nothing that the law and all that it calls make is longer than what came in: it says more and counts as full. Else prove '..UptoSaid'. A law counts once. -/
mutual
def uptoBulk {H : Type} : DataW H → Nat
  | .lit (.string bytes) => bytes.length + 1
  | .lit _ => 1
  | .nil => 1
  | .ptr d => uptoBulk d + 1
  | .slice elems spare => uptoBulkAll elems + uptoBulkAll spare + 1
  | .agg parts => uptoBulkAll parts + 1
  | .iface _ d => uptoBulk d + 1
  | .map entries => uptoBulkEntries entries + 1
  | .held _ => 1
def uptoBulkAll {H : Type} : List (DataW H) → Nat
  | [] => 0
  | d :: r => uptoBulk d + uptoBulkAll r
def uptoBulkEntries {H : Type} : List (Lit × DataW H) → Nat
  | [] => 0
  | x :: r => uptoBulkEntry x + uptoBulkEntries r
def uptoBulkEntry {H : Type} : Lit × DataW H → Nat
  | (.string bytes, d) => bytes.length + uptoBulk d + 1
  | (_, d) => uptoBulk d + 1
 end
def uptoSmall : (H : Type) → List (DataW H) → Bool := fun _ ds => decide (uptoBulkAll ds ≤ 1048576)
def OpenSpec.upto (s : _root_.Go.ChangeSpec) : _root_.Go.OpenSpec := { _root_.Go.OpenSpec.ofChange s with cond := some uptoSmall }

/-- 'laws.FnExactSortTaints', WHERE WHAT IT READS IS OF BULK AT MOST 1048576: true; the input reads as it did. -/
def fnExactSortTaintsUptoRow : OpenClaim := { program := "ytmhlnbihppojmaa", sum := "387f471742565f754b30950f689b8f04d19d4aaf92d73f77b4653f83f3793678", func := "loop.example/g00968/laws.FnExactSortTaints", spec := "fnExactSortTaints", inPlace := ["internal/bytealg.abigen_runtime_cmpstring", "internal/bytealg.IndexByteString"], unfollowed := true, recurses := true, apart := false, narrowed := true }
def FnExactSortTaintsUptoSaid : Prop := fnExactSortTaintsUptoRow.holds Try.pinned (OpenSpec.upto fnExactSortTaintsSpec)

/-- 'laws.FnExactSortTolerances', WHERE WHAT IT READS IS OF BULK AT MOST 1048576: true; the input reads as it did. -/
def fnExactSortTolerancesUptoRow : OpenClaim := { program := "ytmhlnbihppojmaa", sum := "387f471742565f754b30950f689b8f04d19d4aaf92d73f77b4653f83f3793678", func := "loop.example/g00968/laws.FnExactSortTolerances", spec := "fnExactSortTolerances", inPlace := ["internal/bytealg.abigen_runtime_cmpstring", "internal/bytealg.IndexByteString"], unfollowed := true, recurses := true, apart := false, narrowed := true }
def FnExactSortTolerancesUptoSaid : Prop := fnExactSortTolerancesUptoRow.holds Try.pinned (OpenSpec.upto fnExactSortTolerancesSpec)

/-- 'laws.FnTaints', WHERE WHAT IT READS IS OF BULK AT MOST 1048576: true; the input reads as it did. -/
def fnTaintsUptoRow : OpenClaim := { program := "ytmhlnbihppojmaa", sum := "387f471742565f754b30950f689b8f04d19d4aaf92d73f77b4653f83f3793678", func := "loop.example/g00968/laws.FnTaints", spec := "fnTaints", inPlace := ["internal/bytealg.abigen_runtime_cmpstring", "internal/bytealg.IndexByteString"], unfollowed := true, recurses := true, apart := false, narrowed := true }
def FnTaintsUptoSaid : Prop := fnTaintsUptoRow.holds Try.pinned (OpenSpec.upto fnTaintsSpec)

/-- 'laws.FnExactSortNeeds', WHERE WHAT IT READS IS OF BULK AT MOST 1048576: true; the input reads as it did. -/
def fnExactSortNeedsUptoRow : OpenClaim := { program := "ytmhlnbihppojmaa", sum := "387f471742565f754b30950f689b8f04d19d4aaf92d73f77b4653f83f3793678", func := "loop.example/g00968/laws.FnExactSortNeeds", spec := "fnExactSortNeeds", inPlace := ["internal/bytealg.abigen_runtime_cmpstring", "internal/bytealg.IndexByteString"], unfollowed := true, recurses := true, apart := false, narrowed := true }
def FnExactSortNeedsUptoSaid : Prop := fnExactSortNeedsUptoRow.holds Try.pinned (OpenSpec.upto fnExactSortNeedsSpec)

/-- 'laws.FnExactHostNormal', WHERE WHAT IT READS IS OF BULK AT MOST 1048576: true; the input reads as it did. -/
def fnExactHostNormalUptoRow : OpenClaim := { program := "ytmhlnbihppojmaa", sum := "387f471742565f754b30950f689b8f04d19d4aaf92d73f77b4653f83f3793678", func := "loop.example/g00968/laws.FnExactHostNormal", spec := "fnExactHostNormal", inPlace := ["internal/bytealg.abigen_runtime_cmpstring", "internal/bytealg.IndexByteString"], unfollowed := true, recurses := true, apart := false, narrowed := true }
def FnExactHostNormalUptoSaid : Prop := fnExactHostNormalUptoRow.holds Try.pinned (OpenSpec.upto fnExactHostNormalSpec)

end Rows
end Go.Proofs.Ytmhlnbihppojmaa
