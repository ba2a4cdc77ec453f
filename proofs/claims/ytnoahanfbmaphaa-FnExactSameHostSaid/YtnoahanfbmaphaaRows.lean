/-
  NARROWER THAN 'FOR EVERY INPUT', by the rows' own cells (each row's printed sentence says how): FnExactKnownKeys: loops · FnExactTextField: loops · FnExactWholeField: loops.
  DERIVED. THE GIVEN ROWS OF THIS SEAT. 10 by the template 'for every input the law returns true; each argument reads behind the call as it read before'; 0 by the template 'total and deterministic' (their statements: YtnoahanfbmaphaaTotals.lean).
  GIVEN WITH THE SEED: the statements are not yours to turn. If you find one false, say at which input.
  Laid BY PROGRAM, IN A SANDBOX (cutbox-rows.mjs): the forced cells as the released guide's own fill.sh prints them over the translation 9eb8053447663be8… (all of the seat's roots in one cut). By AI agents, Wed Nov 11 2026. No macro, syntax, notation, axiom, sorry.
-/
import Derived.Test.YtnoahanfbmaphaaChecked
import GoSem.Claim
import GoSem.ClaimJoined
import GoSem.ClaimMapViews
import Derived.JoinedTies
import Derived.KernelRfl
namespace Go.Proofs.Ytnoahanfbmaphaa
/- THE CELL 'sum', in the pinned program and in every row, IS THE sha256 OF THE DUMP (.gsa) THAT YtnoahanfbmaphaaProg.lean LOADS. Nothing in Lean hashes anything: it is a label: what it is worth is what the hold of that sum in a sandbox is worth. -/
noncomputable def Try.pinned : Pinned := { name := "ytnoahanfbmaphaa", sum := "9eb8053447663be85cf7ceec52ec2735dae993fb7828a01c62392d77bcd17ac8", checked := Try.checked }
namespace Rows
def none {H : Type} : Left H := { results := [], args := [] }

/-- 'laws.FnExactPathKey': WHATEVER THE INPUT: true; the input reads as it did. -/
def fnExactPathKeySpec : ChangeSpec := { name := "fnExactPathKey", fn := fun _ => fun
  | [d1, d2] => { results := [.lit (.bool true)], args := [d1, d2] }
  | _ => none }
def fnExactPathKeyRow : OpenClaim := { program := "ytnoahanfbmaphaa", sum := "9eb8053447663be85cf7ceec52ec2735dae993fb7828a01c62392d77bcd17ac8", func := "loop.example/g00968/laws.FnExactPathKey", spec := "fnExactPathKey", apart := false }
def FnExactPathKeySaid : Prop := fnExactPathKeyRow.holds Try.pinned (OpenSpec.ofChange fnExactPathKeySpec)

/-- ITS FALSE NEIGHBOUR: 'it returns false'. Refute it at one input. -/
def fnExactPathKeyWrong : ChangeSpec := { name := "fnExactPathKey", fn := fun _ => fun
  | [d1, d2] => { results := [.lit (.bool false)], args := [d1, d2] }
  | _ => none }
def FnExactPathKeyWrongFalsely : Prop := fnExactPathKeyRow.holds Try.pinned (OpenSpec.ofChange fnExactPathKeyWrong)

/-- 'laws.FnExactTaintOk': WHATEVER THE INPUT: true; the input reads as it did. -/
def fnExactTaintOkSpec : ChangeSpec := { name := "fnExactTaintOk", fn := fun _ => fun
  | [d] => { results := [.lit (.bool true)], args := [d] }
  | _ => none }
def fnExactTaintOkRow : OpenClaim := { program := "ytnoahanfbmaphaa", sum := "9eb8053447663be85cf7ceec52ec2735dae993fb7828a01c62392d77bcd17ac8", func := "loop.example/g00968/laws.FnExactTaintOk", spec := "fnExactTaintOk", inPlace := ["internal/bytealg.IndexByteString"], unfollowed := true, recurses := true, apart := false }
def FnExactTaintOkSaid : Prop := fnExactTaintOkRow.holds Try.pinned (OpenSpec.ofChange fnExactTaintOkSpec)

/-- ITS FALSE NEIGHBOUR: 'it returns false'. Refute it at one input. -/
def fnExactTaintOkWrong : ChangeSpec := { name := "fnExactTaintOk", fn := fun _ => fun
  | [d] => { results := [.lit (.bool false)], args := [d] }
  | _ => none }
def FnExactTaintOkWrongFalsely : Prop := fnExactTaintOkRow.holds Try.pinned (OpenSpec.ofChange fnExactTaintOkWrong)

/-- 'laws.FnExactToleranceOk': WHATEVER THE INPUT: true; the input reads as it did. -/
def fnExactToleranceOkSpec : ChangeSpec := { name := "fnExactToleranceOk", fn := fun _ => fun
  | [d] => { results := [.lit (.bool true)], args := [d] }
  | _ => none }
def fnExactToleranceOkRow : OpenClaim := { program := "ytnoahanfbmaphaa", sum := "9eb8053447663be85cf7ceec52ec2735dae993fb7828a01c62392d77bcd17ac8", func := "loop.example/g00968/laws.FnExactToleranceOk", spec := "fnExactToleranceOk", inPlace := ["internal/bytealg.IndexByteString"], unfollowed := true, recurses := true, apart := false }
def FnExactToleranceOkSaid : Prop := fnExactToleranceOkRow.holds Try.pinned (OpenSpec.ofChange fnExactToleranceOkSpec)

/-- ITS FALSE NEIGHBOUR: 'it returns false'. Refute it at one input. -/
def fnExactToleranceOkWrong : ChangeSpec := { name := "fnExactToleranceOk", fn := fun _ => fun
  | [d] => { results := [.lit (.bool false)], args := [d] }
  | _ => none }
def FnExactToleranceOkWrongFalsely : Prop := fnExactToleranceOkRow.holds Try.pinned (OpenSpec.ofChange fnExactToleranceOkWrong)

/-- 'laws.FnExactTolerates': WHATEVER THE INPUT: true; the input reads as it did. -/
def fnExactToleratesSpec : ChangeSpec := { name := "fnExactTolerates", fn := fun _ => fun
  | [d1, d2] => { results := [.lit (.bool true)], args := [d1, d2] }
  | _ => none }
def fnExactToleratesRow : OpenClaim := { program := "ytnoahanfbmaphaa", sum := "9eb8053447663be85cf7ceec52ec2735dae993fb7828a01c62392d77bcd17ac8", func := "loop.example/g00968/laws.FnExactTolerates", spec := "fnExactTolerates", inPlace := ["internal/bytealg.IndexByteString"], unfollowed := true, recurses := true, apart := false }
def FnExactToleratesSaid : Prop := fnExactToleratesRow.holds Try.pinned (OpenSpec.ofChange fnExactToleratesSpec)

/-- ITS FALSE NEIGHBOUR: 'it returns false'. Refute it at one input. -/
def fnExactToleratesWrong : ChangeSpec := { name := "fnExactTolerates", fn := fun _ => fun
  | [d1, d2] => { results := [.lit (.bool false)], args := [d1, d2] }
  | _ => none }
def FnExactToleratesWrongFalsely : Prop := fnExactToleratesRow.holds Try.pinned (OpenSpec.ofChange fnExactToleratesWrong)

/-- 'laws.FnExactKnownKeys': WHATEVER THE INPUT: true; the input reads as it did. -/
def fnExactKnownKeysSpec : ChangeSpec := { name := "fnExactKnownKeys", fn := fun _ => fun
  | [d1, d2, d3] => { results := [.lit (.bool true)], args := [d1, d2, d3] }
  | _ => none }
def fnExactKnownKeysRow : OpenClaim := { program := "ytnoahanfbmaphaa", sum := "9eb8053447663be85cf7ceec52ec2735dae993fb7828a01c62392d77bcd17ac8", func := "loop.example/g00968/laws.FnExactKnownKeys", spec := "fnExactKnownKeys", recurses := true, loops := true, apart := false }
def FnExactKnownKeysSaid : Prop := fnExactKnownKeysRow.holds Try.pinned (OpenSpec.ofChange fnExactKnownKeysSpec)

/-- ITS FALSE NEIGHBOUR: 'it returns false'. Refute it at one input. -/
def fnExactKnownKeysWrong : ChangeSpec := { name := "fnExactKnownKeys", fn := fun _ => fun
  | [d1, d2, d3] => { results := [.lit (.bool false)], args := [d1, d2, d3] }
  | _ => none }
def FnExactKnownKeysWrongFalsely : Prop := fnExactKnownKeysRow.holds Try.pinned (OpenSpec.ofChange fnExactKnownKeysWrong)

/-- 'laws.FnExactTaintsOk': WHATEVER THE INPUT: true; the input reads as it did. -/
def fnExactTaintsOkSpec : ChangeSpec := { name := "fnExactTaintsOk", fn := fun _ => fun
  | [d] => { results := [.lit (.bool true)], args := [d] }
  | _ => none }
def fnExactTaintsOkRow : OpenClaim := { program := "ytnoahanfbmaphaa", sum := "9eb8053447663be85cf7ceec52ec2735dae993fb7828a01c62392d77bcd17ac8", func := "loop.example/g00968/laws.FnExactTaintsOk", spec := "fnExactTaintsOk", inPlace := ["internal/bytealg.IndexByteString", "internal/bytealg.abigen_runtime_cmpstring"], unfollowed := true, recurses := true, apart := false }
def FnExactTaintsOkSaid : Prop := fnExactTaintsOkRow.holds Try.pinned (OpenSpec.ofChange fnExactTaintsOkSpec)

/-- ITS FALSE NEIGHBOUR: 'it returns false'. Refute it at one input. -/
def fnExactTaintsOkWrong : ChangeSpec := { name := "fnExactTaintsOk", fn := fun _ => fun
  | [d] => { results := [.lit (.bool false)], args := [d] }
  | _ => none }
def FnExactTaintsOkWrongFalsely : Prop := fnExactTaintsOkRow.holds Try.pinned (OpenSpec.ofChange fnExactTaintsOkWrong)

/-- 'laws.FnExactSameHost': WHATEVER THE INPUT: true; the input reads as it did. -/
def fnExactSameHostSpec : ChangeSpec := { name := "fnExactSameHost", fn := fun _ => fun
  | [d1, d2] => { results := [.lit (.bool true)], args := [d1, d2] }
  | _ => none }
def fnExactSameHostRow : OpenClaim := { program := "ytnoahanfbmaphaa", sum := "9eb8053447663be85cf7ceec52ec2735dae993fb7828a01c62392d77bcd17ac8", func := "loop.example/g00968/laws.FnExactSameHost", spec := "fnExactSameHost", apart := false }
def FnExactSameHostSaid : Prop := fnExactSameHostRow.holds Try.pinned (OpenSpec.ofChange fnExactSameHostSpec)

/-- ITS FALSE NEIGHBOUR: 'it returns false'. Refute it at one input. -/
def fnExactSameHostWrong : ChangeSpec := { name := "fnExactSameHost", fn := fun _ => fun
  | [d1, d2] => { results := [.lit (.bool false)], args := [d1, d2] }
  | _ => none }
def FnExactSameHostWrongFalsely : Prop := fnExactSameHostRow.holds Try.pinned (OpenSpec.ofChange fnExactSameHostWrong)

/-- 'laws.FnExactTolerancesOk': WHATEVER THE INPUT: true; the input reads as it did. -/
def fnExactTolerancesOkSpec : ChangeSpec := { name := "fnExactTolerancesOk", fn := fun _ => fun
  | [d] => { results := [.lit (.bool true)], args := [d] }
  | _ => none }
def fnExactTolerancesOkRow : OpenClaim := { program := "ytnoahanfbmaphaa", sum := "9eb8053447663be85cf7ceec52ec2735dae993fb7828a01c62392d77bcd17ac8", func := "loop.example/g00968/laws.FnExactTolerancesOk", spec := "fnExactTolerancesOk", inPlace := ["internal/bytealg.IndexByteString", "internal/bytealg.abigen_runtime_cmpstring"], unfollowed := true, recurses := true, apart := false }
def FnExactTolerancesOkSaid : Prop := fnExactTolerancesOkRow.holds Try.pinned (OpenSpec.ofChange fnExactTolerancesOkSpec)

/-- ITS FALSE NEIGHBOUR: 'it returns false'. Refute it at one input. -/
def fnExactTolerancesOkWrong : ChangeSpec := { name := "fnExactTolerancesOk", fn := fun _ => fun
  | [d] => { results := [.lit (.bool false)], args := [d] }
  | _ => none }
def FnExactTolerancesOkWrongFalsely : Prop := fnExactTolerancesOkRow.holds Try.pinned (OpenSpec.ofChange fnExactTolerancesOkWrong)

/-- 'laws.FnExactTextField': WHATEVER THE INPUT: true; the input reads as it did. -/
def fnExactTextFieldSpec : ChangeSpec := { name := "fnExactTextField", fn := fun _ => fun
  | [d1, d2, d3] => { results := [.lit (.bool true)], args := [d1, d2, d3] }
  | _ => none }
def fnExactTextFieldRow : OpenClaim := { program := "ytnoahanfbmaphaa", sum := "9eb8053447663be85cf7ceec52ec2735dae993fb7828a01c62392d77bcd17ac8", func := "loop.example/g00968/laws.FnExactTextField", spec := "fnExactTextField", recurses := true, loops := true, apart := false }
def FnExactTextFieldSaid : Prop := fnExactTextFieldRow.holds Try.pinned (OpenSpec.ofChange fnExactTextFieldSpec)

/-- ITS FALSE NEIGHBOUR: 'it returns false'. Refute it at one input. -/
def fnExactTextFieldWrong : ChangeSpec := { name := "fnExactTextField", fn := fun _ => fun
  | [d1, d2, d3] => { results := [.lit (.bool false)], args := [d1, d2, d3] }
  | _ => none }
def FnExactTextFieldWrongFalsely : Prop := fnExactTextFieldRow.holds Try.pinned (OpenSpec.ofChange fnExactTextFieldWrong)

/-- 'laws.FnExactWholeField': WHATEVER THE INPUT: true; the input reads as it did. -/
def fnExactWholeFieldSpec : ChangeSpec := { name := "fnExactWholeField", fn := fun _ => fun
  | [d1, d2, d3, d4, d5, d6] => { results := [.lit (.bool true)], args := [d1, d2, d3, d4, d5, d6] }
  | _ => none }
def fnExactWholeFieldRow : OpenClaim := { program := "ytnoahanfbmaphaa", sum := "9eb8053447663be85cf7ceec52ec2735dae993fb7828a01c62392d77bcd17ac8", func := "loop.example/g00968/laws.FnExactWholeField", spec := "fnExactWholeField", recurses := true, loops := true, apart := false }
def FnExactWholeFieldSaid : Prop := fnExactWholeFieldRow.holds Try.pinned (OpenSpec.ofChange fnExactWholeFieldSpec)

/-- ITS FALSE NEIGHBOUR: 'it returns false'. Refute it at one input. -/
def fnExactWholeFieldWrong : ChangeSpec := { name := "fnExactWholeField", fn := fun _ => fun
  | [d1, d2, d3, d4, d5, d6] => { results := [.lit (.bool false)], args := [d1, d2, d3, d4, d5, d6] }
  | _ => none }
def FnExactWholeFieldWrongFalsely : Prop := fnExactWholeFieldRow.holds Try.pinned (OpenSpec.ofChange fnExactWholeFieldWrong)

/- THE SECOND FORM. 'bulk': how many values and letters a reading holds, each counted each time it is reached (what is shared counts as often as it is met; a slice's spare places count too). A statement '..UptoSaid' is the law's where the arguments, and the package variables that the reading takes, are together of bulk at most 1048576: NARROWER than '..Said'. Prove '..Said' where nothing that the law and all that it calls make is longer than what came in: it says more and counts as full. Else prove '..UptoSaid'. A law counts once. -/
mutual
def uptoBulk {H : Type} : DataW H → Nat
  | .lit (.string bytes) => bytes.length + 1
  | .lit _ => 1
  | .nil => 1
  | .ptr d => uptoBulk d + 1
  | .slice elems spare => uptoBulkAll elems + uptoBulkAll spare + 1
  | .agg parts => uptoBulkAll parts + 1
  | .iface _ d => uptoBulk d + 1
  | .map entries => uptoBulkEntries entries + 1
  | .held _ => 1
def uptoBulkAll {H : Type} : List (DataW H) → Nat
  | [] => 0
  | d :: r => uptoBulk d + uptoBulkAll r
def uptoBulkEntries {H : Type} : List (Lit × DataW H) → Nat
  | [] => 0
  | x :: r => uptoBulkEntry x + uptoBulkEntries r
def uptoBulkEntry {H : Type} : Lit × DataW H → Nat
  | (.string bytes, d) => bytes.length + uptoBulk d + 1
  | (_, d) => uptoBulk d + 1
 end
def uptoSmall : (H : Type) → List (DataW H) → Bool := fun _ ds => decide (uptoBulkAll ds ≤ 1048576)
def OpenSpec.upto (s : _root_.Go.ChangeSpec) : _root_.Go.OpenSpec := { _root_.Go.OpenSpec.ofChange s with cond := some uptoSmall }

/-- 'laws.FnExactPathKey', WHERE WHAT IT READS IS OF BULK AT MOST 1048576: true; the input reads as it did. -/
def fnExactPathKeyUptoRow : OpenClaim := { program := "ytnoahanfbmaphaa", sum := "9eb8053447663be85cf7ceec52ec2735dae993fb7828a01c62392d77bcd17ac8", func := "loop.example/g00968/laws.FnExactPathKey", spec := "fnExactPathKey", apart := false, narrowed := true }
def FnExactPathKeyUptoSaid : Prop := fnExactPathKeyUptoRow.holds Try.pinned (OpenSpec.upto fnExactPathKeySpec)

/-- 'laws.FnExactTaintOk', WHERE WHAT IT READS IS OF BULK AT MOST 1048576: true; the input reads as it did. -/
def fnExactTaintOkUptoRow : OpenClaim := { program := "ytnoahanfbmaphaa", sum := "9eb8053447663be85cf7ceec52ec2735dae993fb7828a01c62392d77bcd17ac8", func := "loop.example/g00968/laws.FnExactTaintOk", spec := "fnExactTaintOk", inPlace := ["internal/bytealg.IndexByteString"], unfollowed := true, recurses := true, apart := false, narrowed := true }
def FnExactTaintOkUptoSaid : Prop := fnExactTaintOkUptoRow.holds Try.pinned (OpenSpec.upto fnExactTaintOkSpec)

/-- 'laws.FnExactToleranceOk', WHERE WHAT IT READS IS OF BULK AT MOST 1048576: true; the input reads as it did. -/
def fnExactToleranceOkUptoRow : OpenClaim := { program := "ytnoahanfbmaphaa", sum := "9eb8053447663be85cf7ceec52ec2735dae993fb7828a01c62392d77bcd17ac8", func := "loop.example/g00968/laws.FnExactToleranceOk", spec := "fnExactToleranceOk", inPlace := ["internal/bytealg.IndexByteString"], unfollowed := true, recurses := true, apart := false, narrowed := true }
def FnExactToleranceOkUptoSaid : Prop := fnExactToleranceOkUptoRow.holds Try.pinned (OpenSpec.upto fnExactToleranceOkSpec)

/-- 'laws.FnExactTolerates', WHERE WHAT IT READS IS OF BULK AT MOST 1048576: true; the input reads as it did. -/
def fnExactToleratesUptoRow : OpenClaim := { program := "ytnoahanfbmaphaa", sum := "9eb8053447663be85cf7ceec52ec2735dae993fb7828a01c62392d77bcd17ac8", func := "loop.example/g00968/laws.FnExactTolerates", spec := "fnExactTolerates", inPlace := ["internal/bytealg.IndexByteString"], unfollowed := true, recurses := true, apart := false, narrowed := true }
def FnExactToleratesUptoSaid : Prop := fnExactToleratesUptoRow.holds Try.pinned (OpenSpec.upto fnExactToleratesSpec)

/-- 'laws.FnExactKnownKeys', WHERE WHAT IT READS IS OF BULK AT MOST 1048576: true; the input reads as it did. -/
def fnExactKnownKeysUptoRow : OpenClaim := { program := "ytnoahanfbmaphaa", sum := "9eb8053447663be85cf7ceec52ec2735dae993fb7828a01c62392d77bcd17ac8", func := "loop.example/g00968/laws.FnExactKnownKeys", spec := "fnExactKnownKeys", recurses := true, loops := true, apart := false, narrowed := true }
def FnExactKnownKeysUptoSaid : Prop := fnExactKnownKeysUptoRow.holds Try.pinned (OpenSpec.upto fnExactKnownKeysSpec)

/-- 'laws.FnExactTaintsOk', WHERE WHAT IT READS IS OF BULK AT MOST 1048576: true; the input reads as it did. -/
def fnExactTaintsOkUptoRow : OpenClaim := { program := "ytnoahanfbmaphaa", sum := "9eb8053447663be85cf7ceec52ec2735dae993fb7828a01c62392d77bcd17ac8", func := "loop.example/g00968/laws.FnExactTaintsOk", spec := "fnExactTaintsOk", inPlace := ["internal/bytealg.IndexByteString", "internal/bytealg.abigen_runtime_cmpstring"], unfollowed := true, recurses := true, apart := false, narrowed := true }
def FnExactTaintsOkUptoSaid : Prop := fnExactTaintsOkUptoRow.holds Try.pinned (OpenSpec.upto fnExactTaintsOkSpec)

/-- 'laws.FnExactSameHost', WHERE WHAT IT READS IS OF BULK AT MOST 1048576: true; the input reads as it did. -/
def fnExactSameHostUptoRow : OpenClaim := { program := "ytnoahanfbmaphaa", sum := "9eb8053447663be85cf7ceec52ec2735dae993fb7828a01c62392d77bcd17ac8", func := "loop.example/g00968/laws.FnExactSameHost", spec := "fnExactSameHost", apart := false, narrowed := true }
def FnExactSameHostUptoSaid : Prop := fnExactSameHostUptoRow.holds Try.pinned (OpenSpec.upto fnExactSameHostSpec)

/-- 'laws.FnExactTolerancesOk', WHERE WHAT IT READS IS OF BULK AT MOST 1048576: true; the input reads as it did. -/
def fnExactTolerancesOkUptoRow : OpenClaim := { program := "ytnoahanfbmaphaa", sum := "9eb8053447663be85cf7ceec52ec2735dae993fb7828a01c62392d77bcd17ac8", func := "loop.example/g00968/laws.FnExactTolerancesOk", spec := "fnExactTolerancesOk", inPlace := ["internal/bytealg.IndexByteString", "internal/bytealg.abigen_runtime_cmpstring"], unfollowed := true, recurses := true, apart := false, narrowed := true }
def FnExactTolerancesOkUptoSaid : Prop := fnExactTolerancesOkUptoRow.holds Try.pinned (OpenSpec.upto fnExactTolerancesOkSpec)

/-- 'laws.FnExactTextField', WHERE WHAT IT READS IS OF BULK AT MOST 1048576: true; the input reads as it did. -/
def fnExactTextFieldUptoRow : OpenClaim := { program := "ytnoahanfbmaphaa", sum := "9eb8053447663be85cf7ceec52ec2735dae993fb7828a01c62392d77bcd17ac8", func := "loop.example/g00968/laws.FnExactTextField", spec := "fnExactTextField", recurses := true, loops := true, apart := false, narrowed := true }
def FnExactTextFieldUptoSaid : Prop := fnExactTextFieldUptoRow.holds Try.pinned (OpenSpec.upto fnExactTextFieldSpec)

/-- 'laws.FnExactWholeField', WHERE WHAT IT READS IS OF BULK AT MOST 1048576: true; the input reads as it did. -/
def fnExactWholeFieldUptoRow : OpenClaim := { program := "ytnoahanfbmaphaa", sum := "9eb8053447663be85cf7ceec52ec2735dae993fb7828a01c62392d77bcd17ac8", func := "loop.example/g00968/laws.FnExactWholeField", spec := "fnExactWholeField", recurses := true, loops := true, apart := false, narrowed := true }
def FnExactWholeFieldUptoSaid : Prop := fnExactWholeFieldUptoRow.holds Try.pinned (OpenSpec.upto fnExactWholeFieldSpec)

end Rows
end Go.Proofs.Ytnoahanfbmaphaa
