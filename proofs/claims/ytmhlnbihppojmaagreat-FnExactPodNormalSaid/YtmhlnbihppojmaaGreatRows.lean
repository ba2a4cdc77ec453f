/-
  No cell of these rows narrows 'for every input' (looked for: loops, veiled, ifaces, maps, wideKeys, modest, calm, conditions, laid).
  DERIVED. THE GIVEN ROWS OF THIS SEAT. 3 by the template 'for every input the law returns true; each argument reads behind the call as it read before'; 0 by the template 'total and deterministic' (their statements: YtmhlnbihppojmaaGreatTotals.lean).
  GIVEN WITH THE SEED: the statements are not yours to turn. If you find one false, say at which input.
  Laid BY PROGRAM, IN A SANDBOX (cutbox-rows.mjs): the forced cells as the released guide's own fill.sh prints them over the translation 9bdfc7f6298a0919… (all of the seat's roots in one cut). By AI agents, Wed Nov 11 2026. No macro, syntax, notation, axiom, sorry.
-/
import Derived.Test.YtmhlnbihppojmaaGreatChecked
import GoSem.Claim
import GoSem.ClaimJoined
import GoSem.ClaimMapViews
import Derived.JoinedTies
import Derived.KernelRfl
namespace Go.Proofs.YtmhlnbihppojmaaGreat
/- THE CELL 'sum', in the pinned program and in every row, IS THE sha256 OF THE DUMP (.gsa) THAT YtmhlnbihppojmaaGreatProg.lean LOADS. Nothing in Lean hashes anything: it is a label: what it is worth is what the hold of that sum in a sandbox is worth. -/
noncomputable def Tryz.pinned : Pinned := { name := "ytmhlnbihppojmaagreat", sum := "9bdfc7f6298a091965bebfa770f3684c8c96c3d77bc7909c08db39bb7feea95c", checked := Tryz.checked }
namespace Rows
def none {H : Type} : Left H := { results := [], args := [] }

/-- 'laws.FnNeeds': WHATEVER THE INPUT: true; the input reads as it did. -/
def fnNeedsSpec : ChangeSpec := { name := "fnNeeds", fn := fun _ => fun
  | [d] => { results := [.lit (.bool true)], args := [d] }
  | _ => none }
def fnNeedsRow : OpenClaim := { program := "ytmhlnbihppojmaagreat", sum := "9bdfc7f6298a091965bebfa770f3684c8c96c3d77bc7909c08db39bb7feea95c", func := "loop.example/g00968/laws.FnNeeds", spec := "fnNeeds", inPlace := ["internal/bytealg.abigen_runtime_cmpstring", "internal/bytealg.IndexByteString", "internal/abi.NoEscape", "internal/bytealg.MakeNoZero"], unfollowed := true, recurses := true, apart := false }
def FnNeedsSaid : Prop := fnNeedsRow.holds Tryz.pinned (OpenSpec.ofChange fnNeedsSpec)

/-- ITS FALSE NEIGHBOUR: 'it returns false'. Refute it at one input. -/
def fnNeedsWrong : ChangeSpec := { name := "fnNeeds", fn := fun _ => fun
  | [d] => { results := [.lit (.bool false)], args := [d] }
  | _ => none }
def FnNeedsWrongFalsely : Prop := fnNeedsRow.holds Tryz.pinned (OpenSpec.ofChange fnNeedsWrong)

/-- 'laws.FnExactPodNormal': WHATEVER THE INPUT: true; the input reads as it did. -/
def fnExactPodNormalSpec : ChangeSpec := { name := "fnExactPodNormal", fn := fun _ => fun
  | [d] => { results := [.lit (.bool true)], args := [d] }
  | _ => none }
def fnExactPodNormalRow : OpenClaim := { program := "ytmhlnbihppojmaagreat", sum := "9bdfc7f6298a091965bebfa770f3684c8c96c3d77bc7909c08db39bb7feea95c", func := "loop.example/g00968/laws.FnExactPodNormal", spec := "fnExactPodNormal", inPlace := ["internal/bytealg.abigen_runtime_cmpstring", "internal/bytealg.IndexByteString"], unfollowed := true, recurses := true, apart := false }
def FnExactPodNormalSaid : Prop := fnExactPodNormalRow.holds Tryz.pinned (OpenSpec.ofChange fnExactPodNormalSpec)

/-- ITS FALSE NEIGHBOUR: 'it returns false'. Refute it at one input. -/
def fnExactPodNormalWrong : ChangeSpec := { name := "fnExactPodNormal", fn := fun _ => fun
  | [d] => { results := [.lit (.bool false)], args := [d] }
  | _ => none }
def FnExactPodNormalWrongFalsely : Prop := fnExactPodNormalRow.holds Tryz.pinned (OpenSpec.ofChange fnExactPodNormalWrong)

/-- 'laws.FnPods': WHATEVER THE INPUT: true; the input reads as it did. -/
def fnPodsSpec : ChangeSpec := { name := "fnPods", fn := fun _ => fun
  | [d] => { results := [.lit (.bool true)], args := [d] }
  | _ => none }
def fnPodsRow : OpenClaim := { program := "ytmhlnbihppojmaagreat", sum := "9bdfc7f6298a091965bebfa770f3684c8c96c3d77bc7909c08db39bb7feea95c", func := "loop.example/g00968/laws.FnPods", spec := "fnPods", inPlace := ["internal/bytealg.abigen_runtime_cmpstring", "internal/bytealg.IndexByteString"], unfollowed := true, recurses := true, apart := false }
def FnPodsSaid : Prop := fnPodsRow.holds Tryz.pinned (OpenSpec.ofChange fnPodsSpec)

/-- ITS FALSE NEIGHBOUR: 'it returns false'. Refute it at one input. -/
def fnPodsWrong : ChangeSpec := { name := "fnPods", fn := fun _ => fun
  | [d] => { results := [.lit (.bool false)], args := [d] }
  | _ => none }
def FnPodsWrongFalsely : Prop := fnPodsRow.holds Tryz.pinned (OpenSpec.ofChange fnPodsWrong)

/- THE SECOND FORM. 'bulk': how many values and letters a reading holds, each counted each time it is reached (what is shared counts as often as it is met; a slice's spare places count too). A statement '..UptoSaid' is the law's where the arguments, and the package variables that the reading takes, are together of bulk at most 1048576: NARROWER than '..Said'. Prove '..Said' where nothing that the law and all that it calls make is longer than what came in: it says more and counts as full. Else prove '..UptoSaid'. A law counts once. -/
mutual
def uptoBulk {H : Type} : DataW H → Nat
  | .lit (.string bytes) => bytes.length + 1
  | .lit _ => 1
  | .nil => 1
  | .ptr d => uptoBulk d + 1
  | .slice elems spare => uptoBulkAll elems + uptoBulkAll spare + 1
  | .agg parts => uptoBulkAll parts + 1
  | .iface _ d => uptoBulk d + 1
  | .map entries => uptoBulkEntries entries + 1
  | .held _ => 1
def uptoBulkAll {H : Type} : List (DataW H) → Nat
  | [] => 0
  | d :: r => uptoBulk d + uptoBulkAll r
def uptoBulkEntries {H : Type} : List (Lit × DataW H) → Nat
  | [] => 0
  | x :: r => uptoBulkEntry x + uptoBulkEntries r
def uptoBulkEntry {H : Type} : Lit × DataW H → Nat
  | (.string bytes, d) => bytes.length + uptoBulk d + 1
  | (_, d) => uptoBulk d + 1
 end
def uptoSmall : (H : Type) → List (DataW H) → Bool := fun _ ds => decide (uptoBulkAll ds ≤ 1048576)
def OpenSpec.upto (s : _root_.Go.ChangeSpec) : _root_.Go.OpenSpec := { _root_.Go.OpenSpec.ofChange s with cond := some uptoSmall }

/-- 'laws.FnNeeds', WHERE WHAT IT READS IS OF BULK AT MOST 1048576: true; the input reads as it did. -/
def fnNeedsUptoRow : OpenClaim := { program := "ytmhlnbihppojmaagreat", sum := "9bdfc7f6298a091965bebfa770f3684c8c96c3d77bc7909c08db39bb7feea95c", func := "loop.example/g00968/laws.FnNeeds", spec := "fnNeeds", inPlace := ["internal/bytealg.abigen_runtime_cmpstring", "internal/bytealg.IndexByteString", "internal/abi.NoEscape", "internal/bytealg.MakeNoZero"], unfollowed := true, recurses := true, apart := false, narrowed := true }
def FnNeedsUptoSaid : Prop := fnNeedsUptoRow.holds Tryz.pinned (OpenSpec.upto fnNeedsSpec)

/-- 'laws.FnExactPodNormal', WHERE WHAT IT READS IS OF BULK AT MOST 1048576: true; the input reads as it did. -/
def fnExactPodNormalUptoRow : OpenClaim := { program := "ytmhlnbihppojmaagreat", sum := "9bdfc7f6298a091965bebfa770f3684c8c96c3d77bc7909c08db39bb7feea95c", func := "loop.example/g00968/laws.FnExactPodNormal", spec := "fnExactPodNormal", inPlace := ["internal/bytealg.abigen_runtime_cmpstring", "internal/bytealg.IndexByteString"], unfollowed := true, recurses := true, apart := false, narrowed := true }
def FnExactPodNormalUptoSaid : Prop := fnExactPodNormalUptoRow.holds Tryz.pinned (OpenSpec.upto fnExactPodNormalSpec)

/-- 'laws.FnPods', WHERE WHAT IT READS IS OF BULK AT MOST 1048576: true; the input reads as it did. -/
def fnPodsUptoRow : OpenClaim := { program := "ytmhlnbihppojmaagreat", sum := "9bdfc7f6298a091965bebfa770f3684c8c96c3d77bc7909c08db39bb7feea95c", func := "loop.example/g00968/laws.FnPods", spec := "fnPods", inPlace := ["internal/bytealg.abigen_runtime_cmpstring", "internal/bytealg.IndexByteString"], unfollowed := true, recurses := true, apart := false, narrowed := true }
def FnPodsUptoSaid : Prop := fnPodsUptoRow.holds Tryz.pinned (OpenSpec.upto fnPodsSpec)

end Rows
end Go.Proofs.YtmhlnbihppojmaaGreat
