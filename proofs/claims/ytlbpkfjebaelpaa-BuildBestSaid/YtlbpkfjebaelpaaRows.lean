/-
  No cell of these rows narrows 'for every input' (looked for: loops, veiled, ifaces, maps, wideKeys, modest, calm, conditions, laid).
  DERIVED. THE GIVEN ROWS OF THIS SEAT. 3 by the template 'for every input the law returns true; each argument reads behind the call as it read before'; 0 by the template 'total and deterministic' (their statements: YtlbpkfjebaelpaaTotals.lean).
  GIVEN WITH THE SEED: the statements are not yours to turn. If you find one false, say at which input.
  Laid BY PROGRAM, IN A SANDBOX (cutbox-rows.mjs): the forced cells as the released guide's own fill.sh prints them over the translation aa7d59e9b732ab6f… (all of the seat's roots in one cut). By AI agents, Wed Nov 11 2026. No macro, syntax, notation, axiom, sorry.
-/
import Derived.Test.YtlbpkfjebaelpaaChecked
import GoSem.Claim
import GoSem.ClaimJoined
import GoSem.ClaimMapViews
import Derived.JoinedTies
import Derived.KernelRfl
namespace Go.Proofs.Ytlbpkfjebaelpaa
/- THE CELL 'sum', in the pinned program and in every row, IS THE sha256 OF THE DUMP (.gsa) THAT YtlbpkfjebaelpaaProg.lean LOADS. Nothing in Lean hashes anything: it is a label: what it is worth is what the hold of that sum in a sandbox is worth. -/
noncomputable def Try.pinned : Pinned := { name := "ytlbpkfjebaelpaa", sum := "aa7d59e9b732ab6f88883eb07eb73d3b0f02fc2e80b4cb561c78b9649c0a02be", checked := Try.checked }
namespace Rows
def none {H : Type} : Left H := { results := [], args := [] }

/-- 'gabletlaw19.BuildPlays': WHATEVER THE INPUT: true; the input reads as it did. -/
def buildPlaysSpec : ChangeSpec := { name := "buildPlays", fn := fun _ => fun
  | [d1, d2, d3, d4, d5] => { results := [.lit (.bool true)], args := [d1, d2, d3, d4, d5] }
  | _ => none }
def buildPlaysRow : OpenClaim := { program := "ytlbpkfjebaelpaa", sum := "aa7d59e9b732ab6f88883eb07eb73d3b0f02fc2e80b4cb561c78b9649c0a02be", func := "gablet/gabletlaw19.BuildPlays", spec := "buildPlays", unfollowed := true, recurses := true, apart := false }
def BuildPlaysSaid : Prop := buildPlaysRow.holds Try.pinned (OpenSpec.ofChange buildPlaysSpec)

/-- ITS FALSE NEIGHBOUR: 'it returns false'. Refute it at one input. -/
def buildPlaysWrong : ChangeSpec := { name := "buildPlays", fn := fun _ => fun
  | [d1, d2, d3, d4, d5] => { results := [.lit (.bool false)], args := [d1, d2, d3, d4, d5] }
  | _ => none }
def BuildPlaysWrongFalsely : Prop := buildPlaysRow.holds Try.pinned (OpenSpec.ofChange buildPlaysWrong)

/-- 'gabletlaw19.BuildFlows': WHATEVER THE INPUT: true; the input reads as it did. -/
def buildFlowsSpec : ChangeSpec := { name := "buildFlows", fn := fun _ => fun
  | [d1, d2, d3, d4] => { results := [.lit (.bool true)], args := [d1, d2, d3, d4] }
  | _ => none }
def buildFlowsRow : OpenClaim := { program := "ytlbpkfjebaelpaa", sum := "aa7d59e9b732ab6f88883eb07eb73d3b0f02fc2e80b4cb561c78b9649c0a02be", func := "gablet/gabletlaw19.BuildFlows", spec := "buildFlows", unfollowed := true, recurses := true, apart := false }
def BuildFlowsSaid : Prop := buildFlowsRow.holds Try.pinned (OpenSpec.ofChange buildFlowsSpec)

/-- ITS FALSE NEIGHBOUR: 'it returns false'. Refute it at one input. -/
def buildFlowsWrong : ChangeSpec := { name := "buildFlows", fn := fun _ => fun
  | [d1, d2, d3, d4] => { results := [.lit (.bool false)], args := [d1, d2, d3, d4] }
  | _ => none }
def BuildFlowsWrongFalsely : Prop := buildFlowsRow.holds Try.pinned (OpenSpec.ofChange buildFlowsWrong)

/-- 'gabletlaw19.BuildBest': WHATEVER THE INPUT: true; the input reads as it did. -/
def buildBestSpec : ChangeSpec := { name := "buildBest", fn := fun _ => fun
  | [d1, d2, d3, d4] => { results := [.lit (.bool true)], args := [d1, d2, d3, d4] }
  | _ => none }
def buildBestRow : OpenClaim := { program := "ytlbpkfjebaelpaa", sum := "aa7d59e9b732ab6f88883eb07eb73d3b0f02fc2e80b4cb561c78b9649c0a02be", func := "gablet/gabletlaw19.BuildBest", spec := "buildBest", unfollowed := true, recurses := true, apart := false }
def BuildBestSaid : Prop := buildBestRow.holds Try.pinned (OpenSpec.ofChange buildBestSpec)

/-- ITS FALSE NEIGHBOUR: 'it returns false'. Refute it at one input. -/
def buildBestWrong : ChangeSpec := { name := "buildBest", fn := fun _ => fun
  | [d1, d2, d3, d4] => { results := [.lit (.bool false)], args := [d1, d2, d3, d4] }
  | _ => none }
def BuildBestWrongFalsely : Prop := buildBestRow.holds Try.pinned (OpenSpec.ofChange buildBestWrong)

/- THE SECOND FORM. 'bulk': how many values and letters a reading holds, each counted each time it is reached (what is shared counts as often as it is met; a slice's spare places count too). A statement '..UptoSaid' is the law's where the arguments, and the package variables that the reading takes, are together of bulk at most 1048576: NARROWER than '..Said'. Prove '..Said' where nothing that the law and all that it calls make is longer than what came in: it says more and counts as full. Else prove '..UptoSaid'. A law counts once. -/
mutual
def uptoBulk {H : Type} : DataW H → Nat
  | .lit (.string bytes) => bytes.length + 1
  | .lit _ => 1
  | .nil => 1
  | .ptr d => uptoBulk d + 1
  | .slice elems spare => uptoBulkAll elems + uptoBulkAll spare + 1
  | .agg parts => uptoBulkAll parts + 1
  | .iface _ d => uptoBulk d + 1
  | .map entries => uptoBulkEntries entries + 1
  | .held _ => 1
def uptoBulkAll {H : Type} : List (DataW H) → Nat
  | [] => 0
  | d :: r => uptoBulk d + uptoBulkAll r
def uptoBulkEntries {H : Type} : List (Lit × DataW H) → Nat
  | [] => 0
  | x :: r => uptoBulkEntry x + uptoBulkEntries r
def uptoBulkEntry {H : Type} : Lit × DataW H → Nat
  | (.string bytes, d) => bytes.length + uptoBulk d + 1
  | (_, d) => uptoBulk d + 1
 end
def uptoSmall : (H : Type) → List (DataW H) → Bool := fun _ ds => decide (uptoBulkAll ds ≤ 1048576)
def OpenSpec.upto (s : _root_.Go.ChangeSpec) : _root_.Go.OpenSpec := { _root_.Go.OpenSpec.ofChange s with cond := some uptoSmall }

/-- 'gabletlaw19.BuildPlays', WHERE WHAT IT READS IS OF BULK AT MOST 1048576: true; the input reads as it did. -/
def buildPlaysUptoRow : OpenClaim := { program := "ytlbpkfjebaelpaa", sum := "aa7d59e9b732ab6f88883eb07eb73d3b0f02fc2e80b4cb561c78b9649c0a02be", func := "gablet/gabletlaw19.BuildPlays", spec := "buildPlays", unfollowed := true, recurses := true, apart := false, narrowed := true }
def BuildPlaysUptoSaid : Prop := buildPlaysUptoRow.holds Try.pinned (OpenSpec.upto buildPlaysSpec)

/-- 'gabletlaw19.BuildFlows', WHERE WHAT IT READS IS OF BULK AT MOST 1048576: true; the input reads as it did. -/
def buildFlowsUptoRow : OpenClaim := { program := "ytlbpkfjebaelpaa", sum := "aa7d59e9b732ab6f88883eb07eb73d3b0f02fc2e80b4cb561c78b9649c0a02be", func := "gablet/gabletlaw19.BuildFlows", spec := "buildFlows", unfollowed := true, recurses := true, apart := false, narrowed := true }
def BuildFlowsUptoSaid : Prop := buildFlowsUptoRow.holds Try.pinned (OpenSpec.upto buildFlowsSpec)

/-- 'gabletlaw19.BuildBest', WHERE WHAT IT READS IS OF BULK AT MOST 1048576: true; the input reads as it did. -/
def buildBestUptoRow : OpenClaim := { program := "ytlbpkfjebaelpaa", sum := "aa7d59e9b732ab6f88883eb07eb73d3b0f02fc2e80b4cb561c78b9649c0a02be", func := "gablet/gabletlaw19.BuildBest", spec := "buildBest", unfollowed := true, recurses := true, apart := false, narrowed := true }
def BuildBestUptoSaid : Prop := buildBestUptoRow.holds Try.pinned (OpenSpec.upto buildBestSpec)

end Rows
end Go.Proofs.Ytlbpkfjebaelpaa
