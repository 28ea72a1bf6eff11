/-
  No cell of these rows narrows 'for every input' (looked for: loops, veiled, ifaces, maps, wideKeys, modest, calm, conditions, laid).
  DERIVED. THE GIVEN ROWS OF THIS SEAT. 4 by the template 'for every input the law returns true; each argument reads behind the call as it read before'; 0 by the template 'total and deterministic' (their statements: YtfafecgnjjkagaaTotals.lean).
  GIVEN WITH THE SEED: the statements are not yours to turn. If you find one false, say at which input.
  Laid BY PROGRAM, IN A SANDBOX (cutbox-rows.mjs): the forced cells as the released guide's own fill.sh prints them over the translation 1f56ebb718e6c35d… (all of the seat's roots in one cut). By AI agents, Wed Nov 11 2026. No macro, syntax, notation, axiom, sorry.
-/
import Derived.Test.YtfafecgnjjkagaaChecked
import GoSem.Claim
import GoSem.ClaimJoined
import GoSem.ClaimMapViews
import Derived.JoinedTies
import Derived.KernelRfl
namespace Go.Proofs.Ytfafecgnjjkagaa
/- THE CELL 'sum', in the pinned program and in every row, IS THE sha256 OF THE DUMP (.gsa) THAT YtfafecgnjjkagaaProg.lean LOADS. Nothing in Lean hashes anything: it is a label: what it is worth is what the hold of that sum in a sandbox is worth. -/
noncomputable def Try.pinned : Pinned := { name := "ytfafecgnjjkagaa", sum := "1f56ebb718e6c35d6f1d76a21e572305b4e707935ef9bf4c3b5e076798731d77", checked := Try.checked }
namespace Rows
def none {H : Type} : Left H := { results := [], args := [] }

/-- 'gabletlaw13.PathsPlays': WHATEVER THE INPUT: true; the input reads as it did. -/
def pathsPlaysSpec : ChangeSpec := { name := "pathsPlays", fn := fun _ => fun
  | [d1, d2, d3, d4] => { results := [.lit (.bool true)], args := [d1, d2, d3, d4] }
  | _ => none }
def pathsPlaysRow : OpenClaim := { program := "ytfafecgnjjkagaa", sum := "1f56ebb718e6c35d6f1d76a21e572305b4e707935ef9bf4c3b5e076798731d77", func := "gablet/gabletlaw13.PathsPlays", spec := "pathsPlays", unfollowed := true, recurses := true, apart := false }
def PathsPlaysSaid : Prop := pathsPlaysRow.holds Try.pinned (OpenSpec.ofChange pathsPlaysSpec)

/-- ITS FALSE NEIGHBOUR: 'it returns false'. Refute it at one input. -/
def pathsPlaysWrong : ChangeSpec := { name := "pathsPlays", fn := fun _ => fun
  | [d1, d2, d3, d4] => { results := [.lit (.bool false)], args := [d1, d2, d3, d4] }
  | _ => none }
def PathsPlaysWrongFalsely : Prop := pathsPlaysRow.holds Try.pinned (OpenSpec.ofChange pathsPlaysWrong)

/-- 'gabletlaw13.PathsRaise': WHATEVER THE INPUT: true; the input reads as it did. -/
def pathsRaiseSpec : ChangeSpec := { name := "pathsRaise", fn := fun _ => fun
  | [d1, d2, d3, d4] => { results := [.lit (.bool true)], args := [d1, d2, d3, d4] }
  | _ => none }
def pathsRaiseRow : OpenClaim := { program := "ytfafecgnjjkagaa", sum := "1f56ebb718e6c35d6f1d76a21e572305b4e707935ef9bf4c3b5e076798731d77", func := "gablet/gabletlaw13.PathsRaise", spec := "pathsRaise", unfollowed := true, recurses := true, apart := false }
def PathsRaiseSaid : Prop := pathsRaiseRow.holds Try.pinned (OpenSpec.ofChange pathsRaiseSpec)

/-- ITS FALSE NEIGHBOUR: 'it returns false'. Refute it at one input. -/
def pathsRaiseWrong : ChangeSpec := { name := "pathsRaise", fn := fun _ => fun
  | [d1, d2, d3, d4] => { results := [.lit (.bool false)], args := [d1, d2, d3, d4] }
  | _ => none }
def PathsRaiseWrongFalsely : Prop := pathsRaiseRow.holds Try.pinned (OpenSpec.ofChange pathsRaiseWrong)

/-- 'gabletlaw13.PathsLeast': WHATEVER THE INPUT: true; the input reads as it did. -/
def pathsLeastSpec : ChangeSpec := { name := "pathsLeast", fn := fun _ => fun
  | [d1, d2, d3, d4, d5] => { results := [.lit (.bool true)], args := [d1, d2, d3, d4, d5] }
  | _ => none }
def pathsLeastRow : OpenClaim := { program := "ytfafecgnjjkagaa", sum := "1f56ebb718e6c35d6f1d76a21e572305b4e707935ef9bf4c3b5e076798731d77", func := "gablet/gabletlaw13.PathsLeast", spec := "pathsLeast", unfollowed := true, recurses := true, apart := false }
def PathsLeastSaid : Prop := pathsLeastRow.holds Try.pinned (OpenSpec.ofChange pathsLeastSpec)

/-- ITS FALSE NEIGHBOUR: 'it returns false'. Refute it at one input. -/
def pathsLeastWrong : ChangeSpec := { name := "pathsLeast", fn := fun _ => fun
  | [d1, d2, d3, d4, d5] => { results := [.lit (.bool false)], args := [d1, d2, d3, d4, d5] }
  | _ => none }
def PathsLeastWrongFalsely : Prop := pathsLeastRow.holds Try.pinned (OpenSpec.ofChange pathsLeastWrong)

/-- 'gabletlaw13.PathsTight': WHATEVER THE INPUT: true; the input reads as it did. -/
def pathsTightSpec : ChangeSpec := { name := "pathsTight", fn := fun _ => fun
  | [d1, d2, d3, d4] => { results := [.lit (.bool true)], args := [d1, d2, d3, d4] }
  | _ => none }
def pathsTightRow : OpenClaim := { program := "ytfafecgnjjkagaa", sum := "1f56ebb718e6c35d6f1d76a21e572305b4e707935ef9bf4c3b5e076798731d77", func := "gablet/gabletlaw13.PathsTight", spec := "pathsTight", unfollowed := true, recurses := true, apart := false }
def PathsTightSaid : Prop := pathsTightRow.holds Try.pinned (OpenSpec.ofChange pathsTightSpec)

/-- ITS FALSE NEIGHBOUR: 'it returns false'. Refute it at one input. -/
def pathsTightWrong : ChangeSpec := { name := "pathsTight", fn := fun _ => fun
  | [d1, d2, d3, d4] => { results := [.lit (.bool false)], args := [d1, d2, d3, d4] }
  | _ => none }
def PathsTightWrongFalsely : Prop := pathsTightRow.holds Try.pinned (OpenSpec.ofChange pathsTightWrong)

/- THE SECOND FORM. 'bulk': how many values and letters a reading holds, each counted each time it is reached (what is shared counts as often as it is met; a slice's spare places count too). A statement '..UptoSaid' is the law's where the arguments, and the package variables that the reading takes, are together of bulk at most 1048576: NARROWER than '..Said'. Prove '..Said' where nothing that the law and all that it calls make is longer than what came in: it says more and counts as full. Else prove '..UptoSaid'. A law counts once. -/
mutual
def uptoBulk {H : Type} : DataW H → Nat
  | .lit (.string bytes) => bytes.length + 1
  | .lit _ => 1
  | .nil => 1
  | .ptr d => uptoBulk d + 1
  | .slice elems spare => uptoBulkAll elems + uptoBulkAll spare + 1
  | .agg parts => uptoBulkAll parts + 1
  | .iface _ d => uptoBulk d + 1
  | .map entries => uptoBulkEntries entries + 1
  | .held _ => 1
def uptoBulkAll {H : Type} : List (DataW H) → Nat
  | [] => 0
  | d :: r => uptoBulk d + uptoBulkAll r
def uptoBulkEntries {H : Type} : List (Lit × DataW H) → Nat
  | [] => 0
  | x :: r => uptoBulkEntry x + uptoBulkEntries r
def uptoBulkEntry {H : Type} : Lit × DataW H → Nat
  | (.string bytes, d) => bytes.length + uptoBulk d + 1
  | (_, d) => uptoBulk d + 1
 end
def uptoSmall : (H : Type) → List (DataW H) → Bool := fun _ ds => decide (uptoBulkAll ds ≤ 1048576)
def OpenSpec.upto (s : _root_.Go.ChangeSpec) : _root_.Go.OpenSpec := { _root_.Go.OpenSpec.ofChange s with cond := some uptoSmall }

/-- 'gabletlaw13.PathsPlays', WHERE WHAT IT READS IS OF BULK AT MOST 1048576: true; the input reads as it did. -/
def pathsPlaysUptoRow : OpenClaim := { program := "ytfafecgnjjkagaa", sum := "1f56ebb718e6c35d6f1d76a21e572305b4e707935ef9bf4c3b5e076798731d77", func := "gablet/gabletlaw13.PathsPlays", spec := "pathsPlays", unfollowed := true, recurses := true, apart := false, narrowed := true }
def PathsPlaysUptoSaid : Prop := pathsPlaysUptoRow.holds Try.pinned (OpenSpec.upto pathsPlaysSpec)

/-- 'gabletlaw13.PathsRaise', WHERE WHAT IT READS IS OF BULK AT MOST 1048576: true; the input reads as it did. -/
def pathsRaiseUptoRow : OpenClaim := { program := "ytfafecgnjjkagaa", sum := "1f56ebb718e6c35d6f1d76a21e572305b4e707935ef9bf4c3b5e076798731d77", func := "gablet/gabletlaw13.PathsRaise", spec := "pathsRaise", unfollowed := true, recurses := true, apart := false, narrowed := true }
def PathsRaiseUptoSaid : Prop := pathsRaiseUptoRow.holds Try.pinned (OpenSpec.upto pathsRaiseSpec)

/-- 'gabletlaw13.PathsLeast', WHERE WHAT IT READS IS OF BULK AT MOST 1048576: true; the input reads as it did. -/
def pathsLeastUptoRow : OpenClaim := { program := "ytfafecgnjjkagaa", sum := "1f56ebb718e6c35d6f1d76a21e572305b4e707935ef9bf4c3b5e076798731d77", func := "gablet/gabletlaw13.PathsLeast", spec := "pathsLeast", unfollowed := true, recurses := true, apart := false, narrowed := true }
def PathsLeastUptoSaid : Prop := pathsLeastUptoRow.holds Try.pinned (OpenSpec.upto pathsLeastSpec)

/-- 'gabletlaw13.PathsTight', WHERE WHAT IT READS IS OF BULK AT MOST 1048576: true; the input reads as it did. -/
def pathsTightUptoRow : OpenClaim := { program := "ytfafecgnjjkagaa", sum := "1f56ebb718e6c35d6f1d76a21e572305b4e707935ef9bf4c3b5e076798731d77", func := "gablet/gabletlaw13.PathsTight", spec := "pathsTight", unfollowed := true, recurses := true, apart := false, narrowed := true }
def PathsTightUptoSaid : Prop := pathsTightUptoRow.holds Try.pinned (OpenSpec.upto pathsTightSpec)

end Rows
end Go.Proofs.Ytfafecgnjjkagaa
