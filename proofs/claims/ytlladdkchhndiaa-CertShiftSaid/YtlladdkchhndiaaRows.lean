/-
  No cell of these rows narrows 'for every input' (looked for: loops, veiled, ifaces, maps, wideKeys, modest, calm, conditions, laid).
  DERIVED. THE GIVEN ROWS OF THIS SEAT. 3 by the template 'for every input the law returns true; each argument reads behind the call as it read before'; 0 by the template 'total and deterministic' (their statements: YtlladdkchhndiaaTotals.lean).
  GIVEN WITH THE SEED: the statements are not yours to turn. If you find one false, say at which input.
  Laid BY PROGRAM, IN A SANDBOX (cutbox-rows.mjs): the forced cells as the released guide's own fill.sh prints them over the translation e0cacb318b3b3879… (all of the seat's roots in one cut). By AI agents, Wed Nov 11 2026. No macro, syntax, notation, axiom, sorry.
-/
import Derived.Test.YtlladdkchhndiaaChecked
import GoSem.Claim
import GoSem.ClaimJoined
import GoSem.ClaimMapViews
import Derived.JoinedTies
import Derived.KernelRfl
namespace Go.Proofs.Ytlladdkchhndiaa
/- THE CELL 'sum', in the pinned program and in every row, IS THE sha256 OF THE DUMP (.gsa) THAT YtlladdkchhndiaaProg.lean LOADS. Nothing in Lean hashes anything: it is a label: what it is worth is what the hold of that sum in a sandbox is worth. -/
noncomputable def Try.pinned : Pinned := { name := "ytlladdkchhndiaa", sum := "e0cacb318b3b3879e58e56b6df20119b3fe554a32394235b95f4c9e2fe7e8f9c", checked := Try.checked }
namespace Rows
def none {H : Type} : Left H := { results := [], args := [] }

/-- 'gabletlaw14.CertPlays': WHATEVER THE INPUT: true; the input reads as it did. -/
def certPlaysSpec : ChangeSpec := { name := "certPlays", fn := fun _ => fun
  | [d1, d2, d3] => { results := [.lit (.bool true)], args := [d1, d2, d3] }
  | _ => none }
def certPlaysRow : OpenClaim := { program := "ytlladdkchhndiaa", sum := "e0cacb318b3b3879e58e56b6df20119b3fe554a32394235b95f4c9e2fe7e8f9c", func := "gablet/gabletlaw14.CertPlays", spec := "certPlays", unfollowed := true, recurses := true, apart := false }
def CertPlaysSaid : Prop := certPlaysRow.holds Try.pinned (OpenSpec.ofChange certPlaysSpec)

/-- ITS FALSE NEIGHBOUR: 'it returns false'. Refute it at one input. -/
def certPlaysWrong : ChangeSpec := { name := "certPlays", fn := fun _ => fun
  | [d1, d2, d3] => { results := [.lit (.bool false)], args := [d1, d2, d3] }
  | _ => none }
def CertPlaysWrongFalsely : Prop := certPlaysRow.holds Try.pinned (OpenSpec.ofChange certPlaysWrong)

/-- 'gabletlaw14.CertBest': WHATEVER THE INPUT: true; the input reads as it did. -/
def certBestSpec : ChangeSpec := { name := "certBest", fn := fun _ => fun
  | [d1, d2, d3] => { results := [.lit (.bool true)], args := [d1, d2, d3] }
  | _ => none }
def certBestRow : OpenClaim := { program := "ytlladdkchhndiaa", sum := "e0cacb318b3b3879e58e56b6df20119b3fe554a32394235b95f4c9e2fe7e8f9c", func := "gablet/gabletlaw14.CertBest", spec := "certBest", unfollowed := true, recurses := true, apart := false }
def CertBestSaid : Prop := certBestRow.holds Try.pinned (OpenSpec.ofChange certBestSpec)

/-- ITS FALSE NEIGHBOUR: 'it returns false'. Refute it at one input. -/
def certBestWrong : ChangeSpec := { name := "certBest", fn := fun _ => fun
  | [d1, d2, d3] => { results := [.lit (.bool false)], args := [d1, d2, d3] }
  | _ => none }
def CertBestWrongFalsely : Prop := certBestRow.holds Try.pinned (OpenSpec.ofChange certBestWrong)

/-- 'gabletlaw14.CertShift': WHATEVER THE INPUT: true; the input reads as it did. -/
def certShiftSpec : ChangeSpec := { name := "certShift", fn := fun _ => fun
  | [d1, d2, d3, d4] => { results := [.lit (.bool true)], args := [d1, d2, d3, d4] }
  | _ => none }
def certShiftRow : OpenClaim := { program := "ytlladdkchhndiaa", sum := "e0cacb318b3b3879e58e56b6df20119b3fe554a32394235b95f4c9e2fe7e8f9c", func := "gablet/gabletlaw14.CertShift", spec := "certShift", unfollowed := true, recurses := true, apart := false }
def CertShiftSaid : Prop := certShiftRow.holds Try.pinned (OpenSpec.ofChange certShiftSpec)

/-- ITS FALSE NEIGHBOUR: 'it returns false'. Refute it at one input. -/
def certShiftWrong : ChangeSpec := { name := "certShift", fn := fun _ => fun
  | [d1, d2, d3, d4] => { results := [.lit (.bool false)], args := [d1, d2, d3, d4] }
  | _ => none }
def CertShiftWrongFalsely : Prop := certShiftRow.holds Try.pinned (OpenSpec.ofChange certShiftWrong)

/- THE SECOND FORM. 'bulk': how many values and letters a reading holds, each counted each time it is reached (what is shared counts as often as it is met; a slice's spare places count too). A statement '..UptoSaid' is the law's where the arguments, and the package variables that the reading takes, are together of bulk at most 1048576: NARROWER than '..Said'. Prove '..Said' where nothing that the law and all that it calls make is longer than what came in: it says more and counts as full. Else prove '..UptoSaid'. A law counts once. -/
mutual
def uptoBulk {H : Type} : DataW H → Nat
  | .lit (.string bytes) => bytes.length + 1
  | .lit _ => 1
  | .nil => 1
  | .ptr d => uptoBulk d + 1
  | .slice elems spare => uptoBulkAll elems + uptoBulkAll spare + 1
  | .agg parts => uptoBulkAll parts + 1
  | .iface _ d => uptoBulk d + 1
  | .map entries => uptoBulkEntries entries + 1
  | .held _ => 1
def uptoBulkAll {H : Type} : List (DataW H) → Nat
  | [] => 0
  | d :: r => uptoBulk d + uptoBulkAll r
def uptoBulkEntries {H : Type} : List (Lit × DataW H) → Nat
  | [] => 0
  | x :: r => uptoBulkEntry x + uptoBulkEntries r
def uptoBulkEntry {H : Type} : Lit × DataW H → Nat
  | (.string bytes, d) => bytes.length + uptoBulk d + 1
  | (_, d) => uptoBulk d + 1
 end
def uptoSmall : (H : Type) → List (DataW H) → Bool := fun _ ds => decide (uptoBulkAll ds ≤ 1048576)
def OpenSpec.upto (s : _root_.Go.ChangeSpec) : _root_.Go.OpenSpec := { _root_.Go.OpenSpec.ofChange s with cond := some uptoSmall }

/-- 'gabletlaw14.CertPlays', WHERE WHAT IT READS IS OF BULK AT MOST 1048576: true; the input reads as it did. -/
def certPlaysUptoRow : OpenClaim := { program := "ytlladdkchhndiaa", sum := "e0cacb318b3b3879e58e56b6df20119b3fe554a32394235b95f4c9e2fe7e8f9c", func := "gablet/gabletlaw14.CertPlays", spec := "certPlays", unfollowed := true, recurses := true, apart := false, narrowed := true }
def CertPlaysUptoSaid : Prop := certPlaysUptoRow.holds Try.pinned (OpenSpec.upto certPlaysSpec)

/-- 'gabletlaw14.CertBest', WHERE WHAT IT READS IS OF BULK AT MOST 1048576: true; the input reads as it did. -/
def certBestUptoRow : OpenClaim := { program := "ytlladdkchhndiaa", sum := "e0cacb318b3b3879e58e56b6df20119b3fe554a32394235b95f4c9e2fe7e8f9c", func := "gablet/gabletlaw14.CertBest", spec := "certBest", unfollowed := true, recurses := true, apart := false, narrowed := true }
def CertBestUptoSaid : Prop := certBestUptoRow.holds Try.pinned (OpenSpec.upto certBestSpec)

/-- 'gabletlaw14.CertShift', WHERE WHAT IT READS IS OF BULK AT MOST 1048576: true; the input reads as it did. -/
def certShiftUptoRow : OpenClaim := { program := "ytlladdkchhndiaa", sum := "e0cacb318b3b3879e58e56b6df20119b3fe554a32394235b95f4c9e2fe7e8f9c", func := "gablet/gabletlaw14.CertShift", spec := "certShift", unfollowed := true, recurses := true, apart := false, narrowed := true }
def CertShiftUptoSaid : Prop := certShiftUptoRow.holds Try.pinned (OpenSpec.upto certShiftSpec)

end Rows
end Go.Proofs.Ytlladdkchhndiaa
