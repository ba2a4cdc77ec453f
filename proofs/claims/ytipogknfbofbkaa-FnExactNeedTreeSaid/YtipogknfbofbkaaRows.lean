/-
  NARROWER THAN 'FOR EVERY INPUT', by the rows' own cells (each row's printed sentence says how): FnExactListField: loops · FnExactMapField: loops.
  DERIVED. THE GIVEN ROWS OF THIS SEAT. 12 by the template 'for every input the law returns true; each argument reads behind the call as it read before'; 0 by the template 'total and deterministic' (their statements: YtipogknfbofbkaaTotals.lean).
  GIVEN WITH THE SEED: the statements are not yours to turn. If you find one false, say at which input.
  Laid BY PROGRAM, IN A SANDBOX (cutbox-rows.mjs): the forced cells as the released guide's own fill.sh prints them over the translation e3b4147f423fc7a8… (all of the seat's roots in one cut). By AI agents, Wed Nov 11 2026. No macro, syntax, notation, axiom, sorry.
-/
import Derived.Test.YtipogknfbofbkaaChecked
import GoSem.Claim
import GoSem.ClaimJoined
import GoSem.ClaimMapViews
import Derived.JoinedTies
import Derived.KernelRfl
namespace Go.Proofs.Ytipogknfbofbkaa
/- THE CELL 'sum', in the pinned program and in every row, IS THE sha256 OF THE DUMP (.gsa) THAT YtipogknfbofbkaaProg.lean LOADS. Nothing in Lean hashes anything: it is a label: what it is worth is what the hold of that sum in a sandbox is worth. -/
noncomputable def Try.pinned : Pinned := { name := "ytipogknfbofbkaa", sum := "e3b4147f423fc7a8012eb0cfe587cbafbd0039ef18fad4b3ac445e29a7c61f5c", checked := Try.checked }
namespace Rows
def none {H : Type} : Left H := { results := [], args := [] }

/-- 'laws.FnExactUntolerated': WHATEVER THE INPUT: true; the input reads as it did. -/
def fnExactUntoleratedSpec : ChangeSpec := { name := "fnExactUntolerated", fn := fun _ => fun
  | [d1, d2, d3] => { results := [.lit (.bool true)], args := [d1, d2, d3] }
  | _ => none }
def fnExactUntoleratedRow : OpenClaim := { program := "ytipogknfbofbkaa", sum := "e3b4147f423fc7a8012eb0cfe587cbafbd0039ef18fad4b3ac445e29a7c61f5c", func := "loop.example/g00968/laws.FnExactUntolerated", spec := "fnExactUntolerated", inPlace := ["internal/bytealg.IndexByteString"], unfollowed := true, recurses := true, apart := false }
def FnExactUntoleratedSaid : Prop := fnExactUntoleratedRow.holds Try.pinned (OpenSpec.ofChange fnExactUntoleratedSpec)

/-- ITS FALSE NEIGHBOUR: 'it returns false'. Refute it at one input. -/
def fnExactUntoleratedWrong : ChangeSpec := { name := "fnExactUntolerated", fn := fun _ => fun
  | [d1, d2, d3] => { results := [.lit (.bool false)], args := [d1, d2, d3] }
  | _ => none }
def FnExactUntoleratedWrongFalsely : Prop := fnExactUntoleratedRow.holds Try.pinned (OpenSpec.ofChange fnExactUntoleratedWrong)

/-- 'laws.FnExactTaintTree': WHATEVER THE INPUT: true; the input reads as it did. -/
def fnExactTaintTreeSpec : ChangeSpec := { name := "fnExactTaintTree", fn := fun _ => fun
  | [d] => { results := [.lit (.bool true)], args := [d] }
  | _ => none }
def fnExactTaintTreeRow : OpenClaim := { program := "ytipogknfbofbkaa", sum := "e3b4147f423fc7a8012eb0cfe587cbafbd0039ef18fad4b3ac445e29a7c61f5c", func := "loop.example/g00968/laws.FnExactTaintTree", spec := "fnExactTaintTree", inPlace := ["internal/bytealg.IndexByteString"], unfollowed := true, recurses := true, apart := false }
def FnExactTaintTreeSaid : Prop := fnExactTaintTreeRow.holds Try.pinned (OpenSpec.ofChange fnExactTaintTreeSpec)

/-- ITS FALSE NEIGHBOUR: 'it returns false'. Refute it at one input. -/
def fnExactTaintTreeWrong : ChangeSpec := { name := "fnExactTaintTree", fn := fun _ => fun
  | [d] => { results := [.lit (.bool false)], args := [d] }
  | _ => none }
def FnExactTaintTreeWrongFalsely : Prop := fnExactTaintTreeRow.holds Try.pinned (OpenSpec.ofChange fnExactTaintTreeWrong)

/-- 'laws.FnExactNeedMet': WHATEVER THE INPUT: true; the input reads as it did. -/
def fnExactNeedMetSpec : ChangeSpec := { name := "fnExactNeedMet", fn := fun _ => fun
  | [d1, d2] => { results := [.lit (.bool true)], args := [d1, d2] }
  | _ => none }
def fnExactNeedMetRow : OpenClaim := { program := "ytipogknfbofbkaa", sum := "e3b4147f423fc7a8012eb0cfe587cbafbd0039ef18fad4b3ac445e29a7c61f5c", func := "loop.example/g00968/laws.FnExactNeedMet", spec := "fnExactNeedMet", inPlace := ["internal/bytealg.IndexByteString"], unfollowed := true, recurses := true, apart := false }
def FnExactNeedMetSaid : Prop := fnExactNeedMetRow.holds Try.pinned (OpenSpec.ofChange fnExactNeedMetSpec)

/-- ITS FALSE NEIGHBOUR: 'it returns false'. Refute it at one input. -/
def fnExactNeedMetWrong : ChangeSpec := { name := "fnExactNeedMet", fn := fun _ => fun
  | [d1, d2] => { results := [.lit (.bool false)], args := [d1, d2] }
  | _ => none }
def FnExactNeedMetWrongFalsely : Prop := fnExactNeedMetRow.holds Try.pinned (OpenSpec.ofChange fnExactNeedMetWrong)

/-- 'laws.FnExactSelectorOk': WHATEVER THE INPUT: true; the input reads as it did. -/
def fnExactSelectorOkSpec : ChangeSpec := { name := "fnExactSelectorOk", fn := fun _ => fun
  | [d] => { results := [.lit (.bool true)], args := [d] }
  | _ => none }
def fnExactSelectorOkRow : OpenClaim := { program := "ytipogknfbofbkaa", sum := "e3b4147f423fc7a8012eb0cfe587cbafbd0039ef18fad4b3ac445e29a7c61f5c", func := "loop.example/g00968/laws.FnExactSelectorOk", spec := "fnExactSelectorOk", inPlace := ["internal/bytealg.IndexByteString", "internal/bytealg.abigen_runtime_cmpstring"], unfollowed := true, recurses := true, apart := false }
def FnExactSelectorOkSaid : Prop := fnExactSelectorOkRow.holds Try.pinned (OpenSpec.ofChange fnExactSelectorOkSpec)

/-- ITS FALSE NEIGHBOUR: 'it returns false'. Refute it at one input. -/
def fnExactSelectorOkWrong : ChangeSpec := { name := "fnExactSelectorOk", fn := fun _ => fun
  | [d] => { results := [.lit (.bool false)], args := [d] }
  | _ => none }
def FnExactSelectorOkWrongFalsely : Prop := fnExactSelectorOkRow.holds Try.pinned (OpenSpec.ofChange fnExactSelectorOkWrong)

/-- 'laws.FnExactToleranceTree': WHATEVER THE INPUT: true; the input reads as it did. -/
def fnExactToleranceTreeSpec : ChangeSpec := { name := "fnExactToleranceTree", fn := fun _ => fun
  | [d] => { results := [.lit (.bool true)], args := [d] }
  | _ => none }
def fnExactToleranceTreeRow : OpenClaim := { program := "ytipogknfbofbkaa", sum := "e3b4147f423fc7a8012eb0cfe587cbafbd0039ef18fad4b3ac445e29a7c61f5c", func := "loop.example/g00968/laws.FnExactToleranceTree", spec := "fnExactToleranceTree", inPlace := ["internal/bytealg.IndexByteString"], unfollowed := true, recurses := true, apart := false }
def FnExactToleranceTreeSaid : Prop := fnExactToleranceTreeRow.holds Try.pinned (OpenSpec.ofChange fnExactToleranceTreeSpec)

/-- ITS FALSE NEIGHBOUR: 'it returns false'. Refute it at one input. -/
def fnExactToleranceTreeWrong : ChangeSpec := { name := "fnExactToleranceTree", fn := fun _ => fun
  | [d] => { results := [.lit (.bool false)], args := [d] }
  | _ => none }
def FnExactToleranceTreeWrongFalsely : Prop := fnExactToleranceTreeRow.holds Try.pinned (OpenSpec.ofChange fnExactToleranceTreeWrong)

/-- 'laws.FnExactLabelsTree': WHATEVER THE INPUT: true; the input reads as it did. -/
def fnExactLabelsTreeSpec : ChangeSpec := { name := "fnExactLabelsTree", fn := fun _ => fun
  | [d] => { results := [.lit (.bool true)], args := [d] }
  | _ => none }
def fnExactLabelsTreeRow : OpenClaim := { program := "ytipogknfbofbkaa", sum := "e3b4147f423fc7a8012eb0cfe587cbafbd0039ef18fad4b3ac445e29a7c61f5c", func := "loop.example/g00968/laws.FnExactLabelsTree", spec := "fnExactLabelsTree", inPlace := ["internal/bytealg.IndexByteString"], unfollowed := true, recurses := true, apart := false }
def FnExactLabelsTreeSaid : Prop := fnExactLabelsTreeRow.holds Try.pinned (OpenSpec.ofChange fnExactLabelsTreeSpec)

/-- ITS FALSE NEIGHBOUR: 'it returns false'. Refute it at one input. -/
def fnExactLabelsTreeWrong : ChangeSpec := { name := "fnExactLabelsTree", fn := fun _ => fun
  | [d] => { results := [.lit (.bool false)], args := [d] }
  | _ => none }
def FnExactLabelsTreeWrongFalsely : Prop := fnExactLabelsTreeRow.holds Try.pinned (OpenSpec.ofChange fnExactLabelsTreeWrong)

/-- 'laws.FnExactListField': WHATEVER THE INPUT: true; the input reads as it did. -/
def fnExactListFieldSpec : ChangeSpec := { name := "fnExactListField", fn := fun _ => fun
  | [d1, d2, d3, d4] => { results := [.lit (.bool true)], args := [d1, d2, d3, d4] }
  | _ => none }
def fnExactListFieldRow : OpenClaim := { program := "ytipogknfbofbkaa", sum := "e3b4147f423fc7a8012eb0cfe587cbafbd0039ef18fad4b3ac445e29a7c61f5c", func := "loop.example/g00968/laws.FnExactListField", spec := "fnExactListField", recurses := true, loops := true, apart := false }
def FnExactListFieldSaid : Prop := fnExactListFieldRow.holds Try.pinned (OpenSpec.ofChange fnExactListFieldSpec)

/-- ITS FALSE NEIGHBOUR: 'it returns false'. Refute it at one input. -/
def fnExactListFieldWrong : ChangeSpec := { name := "fnExactListField", fn := fun _ => fun
  | [d1, d2, d3, d4] => { results := [.lit (.bool false)], args := [d1, d2, d3, d4] }
  | _ => none }
def FnExactListFieldWrongFalsely : Prop := fnExactListFieldRow.holds Try.pinned (OpenSpec.ofChange fnExactListFieldWrong)

/-- 'laws.FnExactMapField': WHATEVER THE INPUT: true; the input reads as it did. -/
def fnExactMapFieldSpec : ChangeSpec := { name := "fnExactMapField", fn := fun _ => fun
  | [d1, d2, d3] => { results := [.lit (.bool true)], args := [d1, d2, d3] }
  | _ => none }
def fnExactMapFieldRow : OpenClaim := { program := "ytipogknfbofbkaa", sum := "e3b4147f423fc7a8012eb0cfe587cbafbd0039ef18fad4b3ac445e29a7c61f5c", func := "loop.example/g00968/laws.FnExactMapField", spec := "fnExactMapField", recurses := true, loops := true, apart := false }
def FnExactMapFieldSaid : Prop := fnExactMapFieldRow.holds Try.pinned (OpenSpec.ofChange fnExactMapFieldSpec)

/-- ITS FALSE NEIGHBOUR: 'it returns false'. Refute it at one input. -/
def fnExactMapFieldWrong : ChangeSpec := { name := "fnExactMapField", fn := fun _ => fun
  | [d1, d2, d3] => { results := [.lit (.bool false)], args := [d1, d2, d3] }
  | _ => none }
def FnExactMapFieldWrongFalsely : Prop := fnExactMapFieldRow.holds Try.pinned (OpenSpec.ofChange fnExactMapFieldWrong)

/-- 'laws.FnExactSelects': WHATEVER THE INPUT: true; the input reads as it did. -/
def fnExactSelectsSpec : ChangeSpec := { name := "fnExactSelects", fn := fun _ => fun
  | [d1, d2] => { results := [.lit (.bool true)], args := [d1, d2] }
  | _ => none }
def fnExactSelectsRow : OpenClaim := { program := "ytipogknfbofbkaa", sum := "e3b4147f423fc7a8012eb0cfe587cbafbd0039ef18fad4b3ac445e29a7c61f5c", func := "loop.example/g00968/laws.FnExactSelects", spec := "fnExactSelects", inPlace := ["internal/bytealg.IndexByteString"], unfollowed := true, recurses := true, apart := false }
def FnExactSelectsSaid : Prop := fnExactSelectsRow.holds Try.pinned (OpenSpec.ofChange fnExactSelectsSpec)

/-- ITS FALSE NEIGHBOUR: 'it returns false'. Refute it at one input. -/
def fnExactSelectsWrong : ChangeSpec := { name := "fnExactSelects", fn := fun _ => fun
  | [d1, d2] => { results := [.lit (.bool false)], args := [d1, d2] }
  | _ => none }
def FnExactSelectsWrongFalsely : Prop := fnExactSelectsRow.holds Try.pinned (OpenSpec.ofChange fnExactSelectsWrong)

/-- 'laws.FnTolerates': WHATEVER THE INPUT: true; the input reads as it did. -/
def fnToleratesSpec : ChangeSpec := { name := "fnTolerates", fn := fun _ => fun
  | [d] => { results := [.lit (.bool true)], args := [d] }
  | _ => none }
def fnToleratesRow : OpenClaim := { program := "ytipogknfbofbkaa", sum := "e3b4147f423fc7a8012eb0cfe587cbafbd0039ef18fad4b3ac445e29a7c61f5c", func := "loop.example/g00968/laws.FnTolerates", spec := "fnTolerates", inPlace := ["internal/bytealg.IndexByteString"], unfollowed := true, recurses := true, apart := false }
def FnToleratesSaid : Prop := fnToleratesRow.holds Try.pinned (OpenSpec.ofChange fnToleratesSpec)

/-- ITS FALSE NEIGHBOUR: 'it returns false'. Refute it at one input. -/
def fnToleratesWrong : ChangeSpec := { name := "fnTolerates", fn := fun _ => fun
  | [d] => { results := [.lit (.bool false)], args := [d] }
  | _ => none }
def FnToleratesWrongFalsely : Prop := fnToleratesRow.holds Try.pinned (OpenSpec.ofChange fnToleratesWrong)

/-- 'laws.FnExactHostOk': WHATEVER THE INPUT: true; the input reads as it did. -/
def fnExactHostOkSpec : ChangeSpec := { name := "fnExactHostOk", fn := fun _ => fun
  | [d] => { results := [.lit (.bool true)], args := [d] }
  | _ => none }
def fnExactHostOkRow : OpenClaim := { program := "ytipogknfbofbkaa", sum := "e3b4147f423fc7a8012eb0cfe587cbafbd0039ef18fad4b3ac445e29a7c61f5c", func := "loop.example/g00968/laws.FnExactHostOk", spec := "fnExactHostOk", inPlace := ["internal/bytealg.IndexByteString", "internal/bytealg.abigen_runtime_cmpstring"], unfollowed := true, recurses := true, apart := false }
def FnExactHostOkSaid : Prop := fnExactHostOkRow.holds Try.pinned (OpenSpec.ofChange fnExactHostOkSpec)

/-- ITS FALSE NEIGHBOUR: 'it returns false'. Refute it at one input. -/
def fnExactHostOkWrong : ChangeSpec := { name := "fnExactHostOk", fn := fun _ => fun
  | [d] => { results := [.lit (.bool false)], args := [d] }
  | _ => none }
def FnExactHostOkWrongFalsely : Prop := fnExactHostOkRow.holds Try.pinned (OpenSpec.ofChange fnExactHostOkWrong)

/-- 'laws.FnExactNeedTree': WHATEVER THE INPUT: true; the input reads as it did. -/
def fnExactNeedTreeSpec : ChangeSpec := { name := "fnExactNeedTree", fn := fun _ => fun
  | [d] => { results := [.lit (.bool true)], args := [d] }
  | _ => none }
def fnExactNeedTreeRow : OpenClaim := { program := "ytipogknfbofbkaa", sum := "e3b4147f423fc7a8012eb0cfe587cbafbd0039ef18fad4b3ac445e29a7c61f5c", func := "loop.example/g00968/laws.FnExactNeedTree", spec := "fnExactNeedTree", inPlace := ["internal/bytealg.IndexByteString"], unfollowed := true, recurses := true, apart := false }
def FnExactNeedTreeSaid : Prop := fnExactNeedTreeRow.holds Try.pinned (OpenSpec.ofChange fnExactNeedTreeSpec)

/-- ITS FALSE NEIGHBOUR: 'it returns false'. Refute it at one input. -/
def fnExactNeedTreeWrong : ChangeSpec := { name := "fnExactNeedTree", fn := fun _ => fun
  | [d] => { results := [.lit (.bool false)], args := [d] }
  | _ => none }
def FnExactNeedTreeWrongFalsely : Prop := fnExactNeedTreeRow.holds Try.pinned (OpenSpec.ofChange fnExactNeedTreeWrong)

/- THE SECOND FORM. 'bulk': how many values and letters a reading holds, each counted each time it is reached (what is shared counts as often as it is met; a slice's spare places count too). A statement '..UptoSaid' is the law's where the arguments, and the package variables that the reading takes, are together of bulk at most 1048576: NARROWER than '..Said'. Prove '..Said' where nothing that the law and all that it calls make is longer than what came in: it says more and counts as full. Else prove '..UptoSaid'. A law counts once. -/
mutual
def uptoBulk {H : Type} : DataW H → Nat
  | .lit (.string bytes) => bytes.length + 1
  | .lit _ => 1
  | .nil => 1
  | .ptr d => uptoBulk d + 1
  | .slice elems spare => uptoBulkAll elems + uptoBulkAll spare + 1
  | .agg parts => uptoBulkAll parts + 1
  | .iface _ d => uptoBulk d + 1
  | .map entries => uptoBulkEntries entries + 1
  | .held _ => 1
def uptoBulkAll {H : Type} : List (DataW H) → Nat
  | [] => 0
  | d :: r => uptoBulk d + uptoBulkAll r
def uptoBulkEntries {H : Type} : List (Lit × DataW H) → Nat
  | [] => 0
  | x :: r => uptoBulkEntry x + uptoBulkEntries r
def uptoBulkEntry {H : Type} : Lit × DataW H → Nat
  | (.string bytes, d) => bytes.length + uptoBulk d + 1
  | (_, d) => uptoBulk d + 1
 end
def uptoSmall : (H : Type) → List (DataW H) → Bool := fun _ ds => decide (uptoBulkAll ds ≤ 1048576)
def OpenSpec.upto (s : _root_.Go.ChangeSpec) : _root_.Go.OpenSpec := { _root_.Go.OpenSpec.ofChange s with cond := some uptoSmall }

/-- 'laws.FnExactUntolerated', WHERE WHAT IT READS IS OF BULK AT MOST 1048576: true; the input reads as it did. -/
def fnExactUntoleratedUptoRow : OpenClaim := { program := "ytipogknfbofbkaa", sum := "e3b4147f423fc7a8012eb0cfe587cbafbd0039ef18fad4b3ac445e29a7c61f5c", func := "loop.example/g00968/laws.FnExactUntolerated", spec := "fnExactUntolerated", inPlace := ["internal/bytealg.IndexByteString"], unfollowed := true, recurses := true, apart := false, narrowed := true }
def FnExactUntoleratedUptoSaid : Prop := fnExactUntoleratedUptoRow.holds Try.pinned (OpenSpec.upto fnExactUntoleratedSpec)

/-- 'laws.FnExactTaintTree', WHERE WHAT IT READS IS OF BULK AT MOST 1048576: true; the input reads as it did. -/
def fnExactTaintTreeUptoRow : OpenClaim := { program := "ytipogknfbofbkaa", sum := "e3b4147f423fc7a8012eb0cfe587cbafbd0039ef18fad4b3ac445e29a7c61f5c", func := "loop.example/g00968/laws.FnExactTaintTree", spec := "fnExactTaintTree", inPlace := ["internal/bytealg.IndexByteString"], unfollowed := true, recurses := true, apart := false, narrowed := true }
def FnExactTaintTreeUptoSaid : Prop := fnExactTaintTreeUptoRow.holds Try.pinned (OpenSpec.upto fnExactTaintTreeSpec)

/-- 'laws.FnExactNeedMet', WHERE WHAT IT READS IS OF BULK AT MOST 1048576: true; the input reads as it did. -/
def fnExactNeedMetUptoRow : OpenClaim := { program := "ytipogknfbofbkaa", sum := "e3b4147f423fc7a8012eb0cfe587cbafbd0039ef18fad4b3ac445e29a7c61f5c", func := "loop.example/g00968/laws.FnExactNeedMet", spec := "fnExactNeedMet", inPlace := ["internal/bytealg.IndexByteString"], unfollowed := true, recurses := true, apart := false, narrowed := true }
def FnExactNeedMetUptoSaid : Prop := fnExactNeedMetUptoRow.holds Try.pinned (OpenSpec.upto fnExactNeedMetSpec)

/-- 'laws.FnExactSelectorOk', WHERE WHAT IT READS IS OF BULK AT MOST 1048576: true; the input reads as it did. -/
def fnExactSelectorOkUptoRow : OpenClaim := { program := "ytipogknfbofbkaa", sum := "e3b4147f423fc7a8012eb0cfe587cbafbd0039ef18fad4b3ac445e29a7c61f5c", func := "loop.example/g00968/laws.FnExactSelectorOk", spec := "fnExactSelectorOk", inPlace := ["internal/bytealg.IndexByteString", "internal/bytealg.abigen_runtime_cmpstring"], unfollowed := true, recurses := true, apart := false, narrowed := true }
def FnExactSelectorOkUptoSaid : Prop := fnExactSelectorOkUptoRow.holds Try.pinned (OpenSpec.upto fnExactSelectorOkSpec)

/-- 'laws.FnExactToleranceTree', WHERE WHAT IT READS IS OF BULK AT MOST 1048576: true; the input reads as it did. -/
def fnExactToleranceTreeUptoRow : OpenClaim := { program := "ytipogknfbofbkaa", sum := "e3b4147f423fc7a8012eb0cfe587cbafbd0039ef18fad4b3ac445e29a7c61f5c", func := "loop.example/g00968/laws.FnExactToleranceTree", spec := "fnExactToleranceTree", inPlace := ["internal/bytealg.IndexByteString"], unfollowed := true, recurses := true, apart := false, narrowed := true }
def FnExactToleranceTreeUptoSaid : Prop := fnExactToleranceTreeUptoRow.holds Try.pinned (OpenSpec.upto fnExactToleranceTreeSpec)

/-- 'laws.FnExactLabelsTree', WHERE WHAT IT READS IS OF BULK AT MOST 1048576: true; the input reads as it did. -/
def fnExactLabelsTreeUptoRow : OpenClaim := { program := "ytipogknfbofbkaa", sum := "e3b4147f423fc7a8012eb0cfe587cbafbd0039ef18fad4b3ac445e29a7c61f5c", func := "loop.example/g00968/laws.FnExactLabelsTree", spec := "fnExactLabelsTree", inPlace := ["internal/bytealg.IndexByteString"], unfollowed := true, recurses := true, apart := false, narrowed := true }
def FnExactLabelsTreeUptoSaid : Prop := fnExactLabelsTreeUptoRow.holds Try.pinned (OpenSpec.upto fnExactLabelsTreeSpec)

/-- 'laws.FnExactListField', WHERE WHAT IT READS IS OF BULK AT MOST 1048576: true; the input reads as it did. -/
def fnExactListFieldUptoRow : OpenClaim := { program := "ytipogknfbofbkaa", sum := "e3b4147f423fc7a8012eb0cfe587cbafbd0039ef18fad4b3ac445e29a7c61f5c", func := "loop.example/g00968/laws.FnExactListField", spec := "fnExactListField", recurses := true, loops := true, apart := false, narrowed := true }
def FnExactListFieldUptoSaid : Prop := fnExactListFieldUptoRow.holds Try.pinned (OpenSpec.upto fnExactListFieldSpec)

/-- 'laws.FnExactMapField', WHERE WHAT IT READS IS OF BULK AT MOST 1048576: true; the input reads as it did. -/
def fnExactMapFieldUptoRow : OpenClaim := { program := "ytipogknfbofbkaa", sum := "e3b4147f423fc7a8012eb0cfe587cbafbd0039ef18fad4b3ac445e29a7c61f5c", func := "loop.example/g00968/laws.FnExactMapField", spec := "fnExactMapField", recurses := true, loops := true, apart := false, narrowed := true }
def FnExactMapFieldUptoSaid : Prop := fnExactMapFieldUptoRow.holds Try.pinned (OpenSpec.upto fnExactMapFieldSpec)

/-- 'laws.FnExactSelects', WHERE WHAT IT READS IS OF BULK AT MOST 1048576: true; the input reads as it did. -/
def fnExactSelectsUptoRow : OpenClaim := { program := "ytipogknfbofbkaa", sum := "e3b4147f423fc7a8012eb0cfe587cbafbd0039ef18fad4b3ac445e29a7c61f5c", func := "loop.example/g00968/laws.FnExactSelects", spec := "fnExactSelects", inPlace := ["internal/bytealg.IndexByteString"], unfollowed := true, recurses := true, apart := false, narrowed := true }
def FnExactSelectsUptoSaid : Prop := fnExactSelectsUptoRow.holds Try.pinned (OpenSpec.upto fnExactSelectsSpec)

/-- 'laws.FnTolerates', WHERE WHAT IT READS IS OF BULK AT MOST 1048576: true; the input reads as it did. -/
def fnToleratesUptoRow : OpenClaim := { program := "ytipogknfbofbkaa", sum := "e3b4147f423fc7a8012eb0cfe587cbafbd0039ef18fad4b3ac445e29a7c61f5c", func := "loop.example/g00968/laws.FnTolerates", spec := "fnTolerates", inPlace := ["internal/bytealg.IndexByteString"], unfollowed := true, recurses := true, apart := false, narrowed := true }
def FnToleratesUptoSaid : Prop := fnToleratesUptoRow.holds Try.pinned (OpenSpec.upto fnToleratesSpec)

/-- 'laws.FnExactHostOk', WHERE WHAT IT READS IS OF BULK AT MOST 1048576: true; the input reads as it did. -/
def fnExactHostOkUptoRow : OpenClaim := { program := "ytipogknfbofbkaa", sum := "e3b4147f423fc7a8012eb0cfe587cbafbd0039ef18fad4b3ac445e29a7c61f5c", func := "loop.example/g00968/laws.FnExactHostOk", spec := "fnExactHostOk", inPlace := ["internal/bytealg.IndexByteString", "internal/bytealg.abigen_runtime_cmpstring"], unfollowed := true, recurses := true, apart := false, narrowed := true }
def FnExactHostOkUptoSaid : Prop := fnExactHostOkUptoRow.holds Try.pinned (OpenSpec.upto fnExactHostOkSpec)

/-- 'laws.FnExactNeedTree', WHERE WHAT IT READS IS OF BULK AT MOST 1048576: true; the input reads as it did. -/
def fnExactNeedTreeUptoRow : OpenClaim := { program := "ytipogknfbofbkaa", sum := "e3b4147f423fc7a8012eb0cfe587cbafbd0039ef18fad4b3ac445e29a7c61f5c", func := "loop.example/g00968/laws.FnExactNeedTree", spec := "fnExactNeedTree", inPlace := ["internal/bytealg.IndexByteString"], unfollowed := true, recurses := true, apart := false, narrowed := true }
def FnExactNeedTreeUptoSaid : Prop := fnExactNeedTreeUptoRow.holds Try.pinned (OpenSpec.upto fnExactNeedTreeSpec)

end Rows
end Go.Proofs.Ytipogknfbofbkaa
