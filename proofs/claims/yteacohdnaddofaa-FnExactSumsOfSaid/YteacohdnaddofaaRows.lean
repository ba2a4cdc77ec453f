/-
  NARROWER THAN 'FOR EVERY INPUT', by the rows' own cells (each row's printed sentence says how): FnExactKnownKeys: loops · FnExactTextField: loops · FnExactWholeField: loops.
  DERIVED. THE GIVEN ROWS OF THIS SEAT. 8 by the template 'for every input the law returns true; each argument reads behind the call as it read before'; 0 by the template 'total and deterministic' (their statements: YteacohdnaddofaaTotals.lean).
  GIVEN WITH THE SEED: the statements are not yours to turn. If you find one false, say at which input.
  Laid BY PROGRAM, IN A SANDBOX (cutbox-rows.mjs): the forced cells as the released guide's own fill.sh prints them over the translation f7d6c8ca1cdbba4e… (all of the seat's roots in one cut). By AI agents, Wed Nov 11 2026. No macro, syntax, notation, axiom, sorry.
-/
import Derived.Test.YteacohdnaddofaaChecked
import GoSem.Claim
import GoSem.ClaimJoined
import GoSem.ClaimMapViews
import Derived.JoinedTies
import Derived.KernelRfl
namespace Go.Proofs.Yteacohdnaddofaa
/- THE CELL 'sum', in the pinned program and in every row, IS THE sha256 OF THE DUMP (.gsa) THAT YteacohdnaddofaaProg.lean LOADS. Nothing in Lean hashes anything: it is a label: what it is worth is what the hold of that sum in a sandbox is worth. -/
noncomputable def Try.pinned : Pinned := { name := "yteacohdnaddofaa", sum := "f7d6c8ca1cdbba4e16d88087c042671ffbee07241007762684dd14a6c95743f8", checked := Try.checked }
namespace Rows
def none {H : Type} : Left H := { results := [], args := [] }

/-- 'laws.FnExactKnownKeys': WHATEVER THE INPUT: true; the input reads as it did. -/
def fnExactKnownKeysSpec : ChangeSpec := { name := "fnExactKnownKeys", fn := fun _ => fun
  | [d1, d2, d3] => { results := [.lit (.bool true)], args := [d1, d2, d3] }
  | _ => none }
def fnExactKnownKeysRow : OpenClaim := { program := "yteacohdnaddofaa", sum := "f7d6c8ca1cdbba4e16d88087c042671ffbee07241007762684dd14a6c95743f8", func := "loop.example/g00968/laws.FnExactKnownKeys", spec := "fnExactKnownKeys", recurses := true, loops := true, apart := false }
def FnExactKnownKeysSaid : Prop := fnExactKnownKeysRow.holds Try.pinned (OpenSpec.ofChange fnExactKnownKeysSpec)

/-- ITS FALSE NEIGHBOUR: 'it returns false'. Refute it at one input. -/
def fnExactKnownKeysWrong : ChangeSpec := { name := "fnExactKnownKeys", fn := fun _ => fun
  | [d1, d2, d3] => { results := [.lit (.bool false)], args := [d1, d2, d3] }
  | _ => none }
def FnExactKnownKeysWrongFalsely : Prop := fnExactKnownKeysRow.holds Try.pinned (OpenSpec.ofChange fnExactKnownKeysWrong)

/-- 'laws.FnExactTextField': WHATEVER THE INPUT: true; the input reads as it did. -/
def fnExactTextFieldSpec : ChangeSpec := { name := "fnExactTextField", fn := fun _ => fun
  | [d1, d2, d3] => { results := [.lit (.bool true)], args := [d1, d2, d3] }
  | _ => none }
def fnExactTextFieldRow : OpenClaim := { program := "yteacohdnaddofaa", sum := "f7d6c8ca1cdbba4e16d88087c042671ffbee07241007762684dd14a6c95743f8", func := "loop.example/g00968/laws.FnExactTextField", spec := "fnExactTextField", recurses := true, loops := true, apart := false }
def FnExactTextFieldSaid : Prop := fnExactTextFieldRow.holds Try.pinned (OpenSpec.ofChange fnExactTextFieldSpec)

/-- ITS FALSE NEIGHBOUR: 'it returns false'. Refute it at one input. -/
def fnExactTextFieldWrong : ChangeSpec := { name := "fnExactTextField", fn := fun _ => fun
  | [d1, d2, d3] => { results := [.lit (.bool false)], args := [d1, d2, d3] }
  | _ => none }
def FnExactTextFieldWrongFalsely : Prop := fnExactTextFieldRow.holds Try.pinned (OpenSpec.ofChange fnExactTextFieldWrong)

/-- 'laws.FnExactWholeField': WHATEVER THE INPUT: true; the input reads as it did. -/
def fnExactWholeFieldSpec : ChangeSpec := { name := "fnExactWholeField", fn := fun _ => fun
  | [d1, d2, d3, d4, d5, d6] => { results := [.lit (.bool true)], args := [d1, d2, d3, d4, d5, d6] }
  | _ => none }
def fnExactWholeFieldRow : OpenClaim := { program := "yteacohdnaddofaa", sum := "f7d6c8ca1cdbba4e16d88087c042671ffbee07241007762684dd14a6c95743f8", func := "loop.example/g00968/laws.FnExactWholeField", spec := "fnExactWholeField", recurses := true, loops := true, apart := false }
def FnExactWholeFieldSaid : Prop := fnExactWholeFieldRow.holds Try.pinned (OpenSpec.ofChange fnExactWholeFieldSpec)

/-- ITS FALSE NEIGHBOUR: 'it returns false'. Refute it at one input. -/
def fnExactWholeFieldWrong : ChangeSpec := { name := "fnExactWholeField", fn := fun _ => fun
  | [d1, d2, d3, d4, d5, d6] => { results := [.lit (.bool false)], args := [d1, d2, d3, d4, d5, d6] }
  | _ => none }
def FnExactWholeFieldWrongFalsely : Prop := fnExactWholeFieldRow.holds Try.pinned (OpenSpec.ofChange fnExactWholeFieldWrong)

/-- 'laws.FnExactSumsOf': WHATEVER THE INPUT: true; the input reads as it did. -/
def fnExactSumsOfSpec : ChangeSpec := { name := "fnExactSumsOf", fn := fun _ => fun
  | [d] => { results := [.lit (.bool true)], args := [d] }
  | _ => none }
def fnExactSumsOfRow : OpenClaim := { program := "yteacohdnaddofaa", sum := "f7d6c8ca1cdbba4e16d88087c042671ffbee07241007762684dd14a6c95743f8", func := "loop.example/g00968/laws.FnExactSumsOf", spec := "fnExactSumsOf", apart := false }
def FnExactSumsOfSaid : Prop := fnExactSumsOfRow.holds Try.pinned (OpenSpec.ofChange fnExactSumsOfSpec)

/-- ITS FALSE NEIGHBOUR: 'it returns false'. Refute it at one input. -/
def fnExactSumsOfWrong : ChangeSpec := { name := "fnExactSumsOf", fn := fun _ => fun
  | [d] => { results := [.lit (.bool false)], args := [d] }
  | _ => none }
def FnExactSumsOfWrongFalsely : Prop := fnExactSumsOfRow.holds Try.pinned (OpenSpec.ofChange fnExactSumsOfWrong)

/-- 'laws.FnExactSamePod': WHATEVER THE INPUT: true; the input reads as it did. -/
def fnExactSamePodSpec : ChangeSpec := { name := "fnExactSamePod", fn := fun _ => fun
  | [d1, d2] => { results := [.lit (.bool true)], args := [d1, d2] }
  | _ => none }
def fnExactSamePodRow : OpenClaim := { program := "yteacohdnaddofaa", sum := "f7d6c8ca1cdbba4e16d88087c042671ffbee07241007762684dd14a6c95743f8", func := "loop.example/g00968/laws.FnExactSamePod", spec := "fnExactSamePod", inPlace := ["internal/bytealg.abigen_runtime_cmpstring"], unfollowed := true, recurses := true, apart := false }
def FnExactSamePodSaid : Prop := fnExactSamePodRow.holds Try.pinned (OpenSpec.ofChange fnExactSamePodSpec)

/-- ITS FALSE NEIGHBOUR: 'it returns false'. Refute it at one input. -/
def fnExactSamePodWrong : ChangeSpec := { name := "fnExactSamePod", fn := fun _ => fun
  | [d1, d2] => { results := [.lit (.bool false)], args := [d1, d2] }
  | _ => none }
def FnExactSamePodWrongFalsely : Prop := fnExactSamePodRow.holds Try.pinned (OpenSpec.ofChange fnExactSamePodWrong)

/-- 'laws.FnExactPodOk': WHATEVER THE INPUT: true; the input reads as it did. -/
def fnExactPodOkSpec : ChangeSpec := { name := "fnExactPodOk", fn := fun _ => fun
  | [d] => { results := [.lit (.bool true)], args := [d] }
  | _ => none }
def fnExactPodOkRow : OpenClaim := { program := "yteacohdnaddofaa", sum := "f7d6c8ca1cdbba4e16d88087c042671ffbee07241007762684dd14a6c95743f8", func := "loop.example/g00968/laws.FnExactPodOk", spec := "fnExactPodOk", inPlace := ["internal/bytealg.IndexByteString", "internal/bytealg.abigen_runtime_cmpstring"], unfollowed := true, recurses := true, apart := false }
def FnExactPodOkSaid : Prop := fnExactPodOkRow.holds Try.pinned (OpenSpec.ofChange fnExactPodOkSpec)

/-- ITS FALSE NEIGHBOUR: 'it returns false'. Refute it at one input. -/
def fnExactPodOkWrong : ChangeSpec := { name := "fnExactPodOk", fn := fun _ => fun
  | [d] => { results := [.lit (.bool false)], args := [d] }
  | _ => none }
def FnExactPodOkWrongFalsely : Prop := fnExactPodOkRow.holds Try.pinned (OpenSpec.ofChange fnExactPodOkWrong)

/-- 'laws.FnExactSameManifest': WHATEVER THE INPUT: true; the input reads as it did. -/
def fnExactSameManifestSpec : ChangeSpec := { name := "fnExactSameManifest", fn := fun _ => fun
  | [d1, d2] => { results := [.lit (.bool true)], args := [d1, d2] }
  | _ => none }
def fnExactSameManifestRow : OpenClaim := { program := "yteacohdnaddofaa", sum := "f7d6c8ca1cdbba4e16d88087c042671ffbee07241007762684dd14a6c95743f8", func := "loop.example/g00968/laws.FnExactSameManifest", spec := "fnExactSameManifest", inPlace := ["internal/bytealg.abigen_runtime_cmpstring"], unfollowed := true, recurses := true, apart := false }
def FnExactSameManifestSaid : Prop := fnExactSameManifestRow.holds Try.pinned (OpenSpec.ofChange fnExactSameManifestSpec)

/-- ITS FALSE NEIGHBOUR: 'it returns false'. Refute it at one input. -/
def fnExactSameManifestWrong : ChangeSpec := { name := "fnExactSameManifest", fn := fun _ => fun
  | [d1, d2] => { results := [.lit (.bool false)], args := [d1, d2] }
  | _ => none }
def FnExactSameManifestWrongFalsely : Prop := fnExactSameManifestRow.holds Try.pinned (OpenSpec.ofChange fnExactSameManifestWrong)

/-- 'laws.FnSelects': WHATEVER THE INPUT: true; the input reads as it did. -/
def fnSelectsSpec : ChangeSpec := { name := "fnSelects", fn := fun _ => fun
  | [d] => { results := [.lit (.bool true)], args := [d] }
  | _ => none }
def fnSelectsRow : OpenClaim := { program := "yteacohdnaddofaa", sum := "f7d6c8ca1cdbba4e16d88087c042671ffbee07241007762684dd14a6c95743f8", func := "loop.example/g00968/laws.FnSelects", spec := "fnSelects", inPlace := ["internal/bytealg.IndexByteString"], unfollowed := true, recurses := true, apart := false }
def FnSelectsSaid : Prop := fnSelectsRow.holds Try.pinned (OpenSpec.ofChange fnSelectsSpec)

/-- ITS FALSE NEIGHBOUR: 'it returns false'. Refute it at one input. -/
def fnSelectsWrong : ChangeSpec := { name := "fnSelects", fn := fun _ => fun
  | [d] => { results := [.lit (.bool false)], args := [d] }
  | _ => none }
def FnSelectsWrongFalsely : Prop := fnSelectsRow.holds Try.pinned (OpenSpec.ofChange fnSelectsWrong)

/- THE SECOND FORM. 'bulk': how many values and letters a reading holds, each counted each time it is reached (what is shared counts as often as it is met; a slice's spare places count too). A statement '..UptoSaid' is the law's where the arguments, and the package variables that the reading takes, are together of bulk at most 1048576: NARROWER than '..Said'. Prove '..Said' where nothing that the law and all that it calls make is longer than what came in: it says more and counts as full. Else prove '..UptoSaid'. A law counts once. -/
mutual
def uptoBulk {H : Type} : DataW H → Nat
  | .lit (.string bytes) => bytes.length + 1
  | .lit _ => 1
  | .nil => 1
  | .ptr d => uptoBulk d + 1
  | .slice elems spare => uptoBulkAll elems + uptoBulkAll spare + 1
  | .agg parts => uptoBulkAll parts + 1
  | .iface _ d => uptoBulk d + 1
  | .map entries => uptoBulkEntries entries + 1
  | .held _ => 1
def uptoBulkAll {H : Type} : List (DataW H) → Nat
  | [] => 0
  | d :: r => uptoBulk d + uptoBulkAll r
def uptoBulkEntries {H : Type} : List (Lit × DataW H) → Nat
  | [] => 0
  | x :: r => uptoBulkEntry x + uptoBulkEntries r
def uptoBulkEntry {H : Type} : Lit × DataW H → Nat
  | (.string bytes, d) => bytes.length + uptoBulk d + 1
  | (_, d) => uptoBulk d + 1
 end
def uptoSmall : (H : Type) → List (DataW H) → Bool := fun _ ds => decide (uptoBulkAll ds ≤ 1048576)
def OpenSpec.upto (s : _root_.Go.ChangeSpec) : _root_.Go.OpenSpec := { _root_.Go.OpenSpec.ofChange s with cond := some uptoSmall }

/-- 'laws.FnExactKnownKeys', WHERE WHAT IT READS IS OF BULK AT MOST 1048576: true; the input reads as it did. -/
def fnExactKnownKeysUptoRow : OpenClaim := { program := "yteacohdnaddofaa", sum := "f7d6c8ca1cdbba4e16d88087c042671ffbee07241007762684dd14a6c95743f8", func := "loop.example/g00968/laws.FnExactKnownKeys", spec := "fnExactKnownKeys", recurses := true, loops := true, apart := false, narrowed := true }
def FnExactKnownKeysUptoSaid : Prop := fnExactKnownKeysUptoRow.holds Try.pinned (OpenSpec.upto fnExactKnownKeysSpec)

/-- 'laws.FnExactTextField', WHERE WHAT IT READS IS OF BULK AT MOST 1048576: true; the input reads as it did. -/
def fnExactTextFieldUptoRow : OpenClaim := { program := "yteacohdnaddofaa", sum := "f7d6c8ca1cdbba4e16d88087c042671ffbee07241007762684dd14a6c95743f8", func := "loop.example/g00968/laws.FnExactTextField", spec := "fnExactTextField", recurses := true, loops := true, apart := false, narrowed := true }
def FnExactTextFieldUptoSaid : Prop := fnExactTextFieldUptoRow.holds Try.pinned (OpenSpec.upto fnExactTextFieldSpec)

/-- 'laws.FnExactWholeField', WHERE WHAT IT READS IS OF BULK AT MOST 1048576: true; the input reads as it did. -/
def fnExactWholeFieldUptoRow : OpenClaim := { program := "yteacohdnaddofaa", sum := "f7d6c8ca1cdbba4e16d88087c042671ffbee07241007762684dd14a6c95743f8", func := "loop.example/g00968/laws.FnExactWholeField", spec := "fnExactWholeField", recurses := true, loops := true, apart := false, narrowed := true }
def FnExactWholeFieldUptoSaid : Prop := fnExactWholeFieldUptoRow.holds Try.pinned (OpenSpec.upto fnExactWholeFieldSpec)

/-- 'laws.FnExactSumsOf', WHERE WHAT IT READS IS OF BULK AT MOST 1048576: true; the input reads as it did. -/
def fnExactSumsOfUptoRow : OpenClaim := { program := "yteacohdnaddofaa", sum := "f7d6c8ca1cdbba4e16d88087c042671ffbee07241007762684dd14a6c95743f8", func := "loop.example/g00968/laws.FnExactSumsOf", spec := "fnExactSumsOf", apart := false, narrowed := true }
def FnExactSumsOfUptoSaid : Prop := fnExactSumsOfUptoRow.holds Try.pinned (OpenSpec.upto fnExactSumsOfSpec)

/-- 'laws.FnExactSamePod', WHERE WHAT IT READS IS OF BULK AT MOST 1048576: true; the input reads as it did. -/
def fnExactSamePodUptoRow : OpenClaim := { program := "yteacohdnaddofaa", sum := "f7d6c8ca1cdbba4e16d88087c042671ffbee07241007762684dd14a6c95743f8", func := "loop.example/g00968/laws.FnExactSamePod", spec := "fnExactSamePod", inPlace := ["internal/bytealg.abigen_runtime_cmpstring"], unfollowed := true, recurses := true, apart := false, narrowed := true }
def FnExactSamePodUptoSaid : Prop := fnExactSamePodUptoRow.holds Try.pinned (OpenSpec.upto fnExactSamePodSpec)

/-- 'laws.FnExactPodOk', WHERE WHAT IT READS IS OF BULK AT MOST 1048576: true; the input reads as it did. -/
def fnExactPodOkUptoRow : OpenClaim := { program := "yteacohdnaddofaa", sum := "f7d6c8ca1cdbba4e16d88087c042671ffbee07241007762684dd14a6c95743f8", func := "loop.example/g00968/laws.FnExactPodOk", spec := "fnExactPodOk", inPlace := ["internal/bytealg.IndexByteString", "internal/bytealg.abigen_runtime_cmpstring"], unfollowed := true, recurses := true, apart := false, narrowed := true }
def FnExactPodOkUptoSaid : Prop := fnExactPodOkUptoRow.holds Try.pinned (OpenSpec.upto fnExactPodOkSpec)

/-- 'laws.FnExactSameManifest', WHERE WHAT IT READS IS OF BULK AT MOST 1048576: true; the input reads as it did. -/
def fnExactSameManifestUptoRow : OpenClaim := { program := "yteacohdnaddofaa", sum := "f7d6c8ca1cdbba4e16d88087c042671ffbee07241007762684dd14a6c95743f8", func := "loop.example/g00968/laws.FnExactSameManifest", spec := "fnExactSameManifest", inPlace := ["internal/bytealg.abigen_runtime_cmpstring"], unfollowed := true, recurses := true, apart := false, narrowed := true }
def FnExactSameManifestUptoSaid : Prop := fnExactSameManifestUptoRow.holds Try.pinned (OpenSpec.upto fnExactSameManifestSpec)

/-- 'laws.FnSelects', WHERE WHAT IT READS IS OF BULK AT MOST 1048576: true; the input reads as it did. -/
def fnSelectsUptoRow : OpenClaim := { program := "yteacohdnaddofaa", sum := "f7d6c8ca1cdbba4e16d88087c042671ffbee07241007762684dd14a6c95743f8", func := "loop.example/g00968/laws.FnSelects", spec := "fnSelects", inPlace := ["internal/bytealg.IndexByteString"], unfollowed := true, recurses := true, apart := false, narrowed := true }
def FnSelectsUptoSaid : Prop := fnSelectsUptoRow.holds Try.pinned (OpenSpec.upto fnSelectsSpec)

end Rows
end Go.Proofs.Yteacohdnaddofaa
