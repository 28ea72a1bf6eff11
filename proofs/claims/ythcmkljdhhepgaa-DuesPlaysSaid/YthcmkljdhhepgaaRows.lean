/-
  No cell of these rows narrows 'for every input' (looked for: loops, veiled, ifaces, maps, wideKeys, modest, calm, conditions, laid).
  DERIVED. THE GIVEN ROWS OF THIS SEAT. 4 by the template 'for every input the law returns true; each argument reads behind the call as it read before'; 0 by the template 'total and deterministic' (their statements: YthcmkljdhhepgaaTotals.lean).
  GIVEN WITH THE SEED: the statements are not yours to turn. If you find one false, say at which input.
  Laid BY PROGRAM, IN A SANDBOX (cutbox-rows.mjs): the forced cells as the released guide's own fill.sh prints them over the translation c4428bc2a27902f7… (all of the seat's roots in one cut). By AI agents, Wed Nov 11 2026. No macro, syntax, notation, axiom, sorry.
-/
import Derived.Test.YthcmkljdhhepgaaChecked
import GoSem.Claim
import GoSem.ClaimJoined
import GoSem.ClaimMapViews
import Derived.JoinedTies
import Derived.KernelRfl
namespace Go.Proofs.Ythcmkljdhhepgaa
/- THE CELL 'sum', in the pinned program and in every row, IS THE sha256 OF THE DUMP (.gsa) THAT YthcmkljdhhepgaaProg.lean LOADS. Nothing in Lean hashes anything: it is a label: what it is worth is what the hold of that sum in a sandbox is worth. -/
noncomputable def Try.pinned : Pinned := { name := "ythcmkljdhhepgaa", sum := "c4428bc2a27902f7071b45b55e264e774d61cc34f8cc6d24649c3760f1440ade", checked := Try.checked }
namespace Rows
def none {H : Type} : Left H := { results := [], args := [] }

/-- 'gabletlaw18.DuesParts': WHATEVER THE INPUT: true; the input reads as it did. -/
def duesPartsSpec : ChangeSpec := { name := "duesParts", fn := fun _ => fun
  | [d1, d2, d3, d4] => { results := [.lit (.bool true)], args := [d1, d2, d3, d4] }
  | _ => none }
def duesPartsRow : OpenClaim := { program := "ythcmkljdhhepgaa", sum := "c4428bc2a27902f7071b45b55e264e774d61cc34f8cc6d24649c3760f1440ade", func := "gablet/gabletlaw18.DuesParts", spec := "duesParts", unfollowed := true, recurses := true, apart := false }
def DuesPartsSaid : Prop := duesPartsRow.holds Try.pinned (OpenSpec.ofChange duesPartsSpec)

/-- ITS FALSE NEIGHBOUR: 'it returns false'. Refute it at one input. -/
def duesPartsWrong : ChangeSpec := { name := "duesParts", fn := fun _ => fun
  | [d1, d2, d3, d4] => { results := [.lit (.bool false)], args := [d1, d2, d3, d4] }
  | _ => none }
def DuesPartsWrongFalsely : Prop := duesPartsRow.holds Try.pinned (OpenSpec.ofChange duesPartsWrong)

/-- 'gabletlaw18.DuesGross': WHATEVER THE INPUT: true; the input reads as it did. -/
def duesGrossSpec : ChangeSpec := { name := "duesGross", fn := fun _ => fun
  | [d] => { results := [.lit (.bool true)], args := [d] }
  | _ => none }
def duesGrossRow : OpenClaim := { program := "ythcmkljdhhepgaa", sum := "c4428bc2a27902f7071b45b55e264e774d61cc34f8cc6d24649c3760f1440ade", func := "gablet/gabletlaw18.DuesGross", spec := "duesGross", unfollowed := true, recurses := true, apart := false }
def DuesGrossSaid : Prop := duesGrossRow.holds Try.pinned (OpenSpec.ofChange duesGrossSpec)

/-- ITS FALSE NEIGHBOUR: 'it returns false'. Refute it at one input. -/
def duesGrossWrong : ChangeSpec := { name := "duesGross", fn := fun _ => fun
  | [d] => { results := [.lit (.bool false)], args := [d] }
  | _ => none }
def DuesGrossWrongFalsely : Prop := duesGrossRow.holds Try.pinned (OpenSpec.ofChange duesGrossWrong)

/-- 'gabletlaw18.DuesNil': WHATEVER THE INPUT: true; the input reads as it did. -/
def duesNilSpec : ChangeSpec := { name := "duesNil", fn := fun _ => fun
  | [d1, d2] => { results := [.lit (.bool true)], args := [d1, d2] }
  | _ => none }
def duesNilRow : OpenClaim := { program := "ythcmkljdhhepgaa", sum := "c4428bc2a27902f7071b45b55e264e774d61cc34f8cc6d24649c3760f1440ade", func := "gablet/gabletlaw18.DuesNil", spec := "duesNil", unfollowed := true, recurses := true, apart := false }
def DuesNilSaid : Prop := duesNilRow.holds Try.pinned (OpenSpec.ofChange duesNilSpec)

/-- ITS FALSE NEIGHBOUR: 'it returns false'. Refute it at one input. -/
def duesNilWrong : ChangeSpec := { name := "duesNil", fn := fun _ => fun
  | [d1, d2] => { results := [.lit (.bool false)], args := [d1, d2] }
  | _ => none }
def DuesNilWrongFalsely : Prop := duesNilRow.holds Try.pinned (OpenSpec.ofChange duesNilWrong)

/-- 'gabletlaw18.DuesPlays': WHATEVER THE INPUT: true; the input reads as it did. -/
def duesPlaysSpec : ChangeSpec := { name := "duesPlays", fn := fun _ => fun
  | [d1, d2, d3] => { results := [.lit (.bool true)], args := [d1, d2, d3] }
  | _ => none }
def duesPlaysRow : OpenClaim := { program := "ythcmkljdhhepgaa", sum := "c4428bc2a27902f7071b45b55e264e774d61cc34f8cc6d24649c3760f1440ade", func := "gablet/gabletlaw18.DuesPlays", spec := "duesPlays", unfollowed := true, recurses := true, apart := false }
def DuesPlaysSaid : Prop := duesPlaysRow.holds Try.pinned (OpenSpec.ofChange duesPlaysSpec)

/-- ITS FALSE NEIGHBOUR: 'it returns false'. Refute it at one input. -/
def duesPlaysWrong : ChangeSpec := { name := "duesPlays", fn := fun _ => fun
  | [d1, d2, d3] => { results := [.lit (.bool false)], args := [d1, d2, d3] }
  | _ => none }
def DuesPlaysWrongFalsely : Prop := duesPlaysRow.holds Try.pinned (OpenSpec.ofChange duesPlaysWrong)

/- THE SECOND FORM. 'bulk': how many values and letters a reading holds, each counted each time it is reached (what is shared counts as often as it is met; a slice's spare places count too). A statement '..UptoSaid' is the law's where the arguments, and the package variables that the reading takes, are together of bulk at most 1048576: NARROWER than '..Said'. Prove '..Said' where nothing that the law and all that it calls make is longer than what came in: it says more and counts as full. Else prove '..UptoSaid'. A law counts once. -/
mutual
def uptoBulk {H : Type} : DataW H → Nat
  | .lit (.string bytes) => bytes.length + 1
  | .lit _ => 1
  | .nil => 1
  | .ptr d => uptoBulk d + 1
  | .slice elems spare => uptoBulkAll elems + uptoBulkAll spare + 1
  | .agg parts => uptoBulkAll parts + 1
  | .iface _ d => uptoBulk d + 1
  | .map entries => uptoBulkEntries entries + 1
  | .held _ => 1
def uptoBulkAll {H : Type} : List (DataW H) → Nat
  | [] => 0
  | d :: r => uptoBulk d + uptoBulkAll r
def uptoBulkEntries {H : Type} : List (Lit × DataW H) → Nat
  | [] => 0
  | x :: r => uptoBulkEntry x + uptoBulkEntries r
def uptoBulkEntry {H : Type} : Lit × DataW H → Nat
  | (.string bytes, d) => bytes.length + uptoBulk d + 1
  | (_, d) => uptoBulk d + 1
 end
def uptoSmall : (H : Type) → List (DataW H) → Bool := fun _ ds => decide (uptoBulkAll ds ≤ 1048576)
def OpenSpec.upto (s : _root_.Go.ChangeSpec) : _root_.Go.OpenSpec := { _root_.Go.OpenSpec.ofChange s with cond := some uptoSmall }

/-- 'gabletlaw18.DuesParts', WHERE WHAT IT READS IS OF BULK AT MOST 1048576: true; the input reads as it did. -/
def duesPartsUptoRow : OpenClaim := { program := "ythcmkljdhhepgaa", sum := "c4428bc2a27902f7071b45b55e264e774d61cc34f8cc6d24649c3760f1440ade", func := "gablet/gabletlaw18.DuesParts", spec := "duesParts", unfollowed := true, recurses := true, apart := false, narrowed := true }
def DuesPartsUptoSaid : Prop := duesPartsUptoRow.holds Try.pinned (OpenSpec.upto duesPartsSpec)

/-- 'gabletlaw18.DuesGross', WHERE WHAT IT READS IS OF BULK AT MOST 1048576: true; the input reads as it did. -/
def duesGrossUptoRow : OpenClaim := { program := "ythcmkljdhhepgaa", sum := "c4428bc2a27902f7071b45b55e264e774d61cc34f8cc6d24649c3760f1440ade", func := "gablet/gabletlaw18.DuesGross", spec := "duesGross", unfollowed := true, recurses := true, apart := false, narrowed := true }
def DuesGrossUptoSaid : Prop := duesGrossUptoRow.holds Try.pinned (OpenSpec.upto duesGrossSpec)

/-- 'gabletlaw18.DuesNil', WHERE WHAT IT READS IS OF BULK AT MOST 1048576: true; the input reads as it did. -/
def duesNilUptoRow : OpenClaim := { program := "ythcmkljdhhepgaa", sum := "c4428bc2a27902f7071b45b55e264e774d61cc34f8cc6d24649c3760f1440ade", func := "gablet/gabletlaw18.DuesNil", spec := "duesNil", unfollowed := true, recurses := true, apart := false, narrowed := true }
def DuesNilUptoSaid : Prop := duesNilUptoRow.holds Try.pinned (OpenSpec.upto duesNilSpec)

/-- 'gabletlaw18.DuesPlays', WHERE WHAT IT READS IS OF BULK AT MOST 1048576: true; the input reads as it did. -/
def duesPlaysUptoRow : OpenClaim := { program := "ythcmkljdhhepgaa", sum := "c4428bc2a27902f7071b45b55e264e774d61cc34f8cc6d24649c3760f1440ade", func := "gablet/gabletlaw18.DuesPlays", spec := "duesPlays", unfollowed := true, recurses := true, apart := false, narrowed := true }
def DuesPlaysUptoSaid : Prop := duesPlaysUptoRow.holds Try.pinned (OpenSpec.upto duesPlaysSpec)

end Rows
end Go.Proofs.Ythcmkljdhhepgaa
