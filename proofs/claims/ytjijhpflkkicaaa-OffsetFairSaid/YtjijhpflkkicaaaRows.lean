/-
  No cell of these rows narrows 'for every input' (looked for: loops, veiled, ifaces, maps, wideKeys, modest, calm, conditions, laid).
  DERIVED. THE GIVEN ROWS OF THIS SEAT. 4 by the template 'for every input the law returns true; each argument reads behind the call as it read before'; 0 by the template 'total and deterministic' (their statements: YtjijhpflkkicaaaTotals.lean).
  GIVEN WITH THE SEED: the statements are not yours to turn. If you find one false, say at which input.
  Laid BY PROGRAM, IN A SANDBOX (cutbox-rows.mjs): the forced cells as the released guide's own fill.sh prints them over the translation cf85dd0af4ab933f… (all of the seat's roots in one cut). By AI agents, Wed Nov 11 2026. No macro, syntax, notation, axiom, sorry.
-/
import Derived.Test.YtjijhpflkkicaaaChecked
import GoSem.Claim
import GoSem.ClaimJoined
import GoSem.ClaimMapViews
import Derived.JoinedTies
import Derived.KernelRfl
namespace Go.Proofs.Ytjijhpflkkicaaa
/- THE CELL 'sum', in the pinned program and in every row, IS THE sha256 OF THE DUMP (.gsa) THAT YtjijhpflkkicaaaProg.lean LOADS. Nothing in Lean hashes anything: it is a label: what it is worth is what the hold of that sum in a sandbox is worth. -/
noncomputable def Try.pinned : Pinned := { name := "ytjijhpflkkicaaa", sum := "cf85dd0af4ab933f36ee444ce367df14a1b1c8c669498a168d786d8a1c732e0b", checked := Try.checked }
namespace Rows
def none {H : Type} : Left H := { results := [], args := [] }

/-- 'gabletlaw32.OffsetPlays': WHATEVER THE INPUT: true; the input reads as it did. -/
def offsetPlaysSpec : ChangeSpec := { name := "offsetPlays", fn := fun _ => fun
  | [d1, d2, d3] => { results := [.lit (.bool true)], args := [d1, d2, d3] }
  | _ => none }
def offsetPlaysRow : OpenClaim := { program := "ytjijhpflkkicaaa", sum := "cf85dd0af4ab933f36ee444ce367df14a1b1c8c669498a168d786d8a1c732e0b", func := "gablet/gabletlaw32.OffsetPlays", spec := "offsetPlays", unfollowed := true, recurses := true, apart := false }
def OffsetPlaysSaid : Prop := offsetPlaysRow.holds Try.pinned (OpenSpec.ofChange offsetPlaysSpec)

/-- ITS FALSE NEIGHBOUR: 'it returns false'. Refute it at one input. -/
def offsetPlaysWrong : ChangeSpec := { name := "offsetPlays", fn := fun _ => fun
  | [d1, d2, d3] => { results := [.lit (.bool false)], args := [d1, d2, d3] }
  | _ => none }
def OffsetPlaysWrongFalsely : Prop := offsetPlaysRow.holds Try.pinned (OpenSpec.ofChange offsetPlaysWrong)

/-- 'gabletlaw32.OffsetAgain': WHATEVER THE INPUT: true; the input reads as it did. -/
def offsetAgainSpec : ChangeSpec := { name := "offsetAgain", fn := fun _ => fun
  | [d1, d2] => { results := [.lit (.bool true)], args := [d1, d2] }
  | _ => none }
def offsetAgainRow : OpenClaim := { program := "ytjijhpflkkicaaa", sum := "cf85dd0af4ab933f36ee444ce367df14a1b1c8c669498a168d786d8a1c732e0b", func := "gablet/gabletlaw32.OffsetAgain", spec := "offsetAgain", unfollowed := true, recurses := true, apart := false }
def OffsetAgainSaid : Prop := offsetAgainRow.holds Try.pinned (OpenSpec.ofChange offsetAgainSpec)

/-- ITS FALSE NEIGHBOUR: 'it returns false'. Refute it at one input. -/
def offsetAgainWrong : ChangeSpec := { name := "offsetAgain", fn := fun _ => fun
  | [d1, d2] => { results := [.lit (.bool false)], args := [d1, d2] }
  | _ => none }
def OffsetAgainWrongFalsely : Prop := offsetAgainRow.holds Try.pinned (OpenSpec.ofChange offsetAgainWrong)

/-- 'gabletlaw32.OffsetTurned': WHATEVER THE INPUT: true; the input reads as it did. -/
def offsetTurnedSpec : ChangeSpec := { name := "offsetTurned", fn := fun _ => fun
  | [d] => { results := [.lit (.bool true)], args := [d] }
  | _ => none }
def offsetTurnedRow : OpenClaim := { program := "ytjijhpflkkicaaa", sum := "cf85dd0af4ab933f36ee444ce367df14a1b1c8c669498a168d786d8a1c732e0b", func := "gablet/gabletlaw32.OffsetTurned", spec := "offsetTurned", unfollowed := true, recurses := true, apart := false }
def OffsetTurnedSaid : Prop := offsetTurnedRow.holds Try.pinned (OpenSpec.ofChange offsetTurnedSpec)

/-- ITS FALSE NEIGHBOUR: 'it returns false'. Refute it at one input. -/
def offsetTurnedWrong : ChangeSpec := { name := "offsetTurned", fn := fun _ => fun
  | [d] => { results := [.lit (.bool false)], args := [d] }
  | _ => none }
def OffsetTurnedWrongFalsely : Prop := offsetTurnedRow.holds Try.pinned (OpenSpec.ofChange offsetTurnedWrong)

/-- 'gabletlaw32.OffsetFair': WHATEVER THE INPUT: true; the input reads as it did. -/
def offsetFairSpec : ChangeSpec := { name := "offsetFair", fn := fun _ => fun
  | [d] => { results := [.lit (.bool true)], args := [d] }
  | _ => none }
def offsetFairRow : OpenClaim := { program := "ytjijhpflkkicaaa", sum := "cf85dd0af4ab933f36ee444ce367df14a1b1c8c669498a168d786d8a1c732e0b", func := "gablet/gabletlaw32.OffsetFair", spec := "offsetFair", unfollowed := true, recurses := true, apart := false }
def OffsetFairSaid : Prop := offsetFairRow.holds Try.pinned (OpenSpec.ofChange offsetFairSpec)

/-- ITS FALSE NEIGHBOUR: 'it returns false'. Refute it at one input. -/
def offsetFairWrong : ChangeSpec := { name := "offsetFair", fn := fun _ => fun
  | [d] => { results := [.lit (.bool false)], args := [d] }
  | _ => none }
def OffsetFairWrongFalsely : Prop := offsetFairRow.holds Try.pinned (OpenSpec.ofChange offsetFairWrong)

/- THE SECOND FORM. 'bulk': how many values and letters a reading holds, each counted each time it is reached (what is shared counts as often as it is met; a slice's spare places count too). A statement '..UptoSaid' is the law's where the arguments, and the package variables that the reading takes, are together of bulk at most 1048576: NARROWER than '..Said'. Prove '..Said' where nothing that the law and all that it calls make is longer than what came in: it says more and counts as full. Else prove '..UptoSaid'. A law counts once. -/
mutual
def uptoBulk {H : Type} : DataW H → Nat
  | .lit (.string bytes) => bytes.length + 1
  | .lit _ => 1
  | .nil => 1
  | .ptr d => uptoBulk d + 1
  | .slice elems spare => uptoBulkAll elems + uptoBulkAll spare + 1
  | .agg parts => uptoBulkAll parts + 1
  | .iface _ d => uptoBulk d + 1
  | .map entries => uptoBulkEntries entries + 1
  | .held _ => 1
def uptoBulkAll {H : Type} : List (DataW H) → Nat
  | [] => 0
  | d :: r => uptoBulk d + uptoBulkAll r
def uptoBulkEntries {H : Type} : List (Lit × DataW H) → Nat
  | [] => 0
  | x :: r => uptoBulkEntry x + uptoBulkEntries r
def uptoBulkEntry {H : Type} : Lit × DataW H → Nat
  | (.string bytes, d) => bytes.length + uptoBulk d + 1
  | (_, d) => uptoBulk d + 1
 end
def uptoSmall : (H : Type) → List (DataW H) → Bool := fun _ ds => decide (uptoBulkAll ds ≤ 1048576)
def OpenSpec.upto (s : _root_.Go.ChangeSpec) : _root_.Go.OpenSpec := { _root_.Go.OpenSpec.ofChange s with cond := some uptoSmall }

/-- 'gabletlaw32.OffsetPlays', WHERE WHAT IT READS IS OF BULK AT MOST 1048576: true; the input reads as it did. -/
def offsetPlaysUptoRow : OpenClaim := { program := "ytjijhpflkkicaaa", sum := "cf85dd0af4ab933f36ee444ce367df14a1b1c8c669498a168d786d8a1c732e0b", func := "gablet/gabletlaw32.OffsetPlays", spec := "offsetPlays", unfollowed := true, recurses := true, apart := false, narrowed := true }
def OffsetPlaysUptoSaid : Prop := offsetPlaysUptoRow.holds Try.pinned (OpenSpec.upto offsetPlaysSpec)

/-- 'gabletlaw32.OffsetAgain', WHERE WHAT IT READS IS OF BULK AT MOST 1048576: true; the input reads as it did. -/
def offsetAgainUptoRow : OpenClaim := { program := "ytjijhpflkkicaaa", sum := "cf85dd0af4ab933f36ee444ce367df14a1b1c8c669498a168d786d8a1c732e0b", func := "gablet/gabletlaw32.OffsetAgain", spec := "offsetAgain", unfollowed := true, recurses := true, apart := false, narrowed := true }
def OffsetAgainUptoSaid : Prop := offsetAgainUptoRow.holds Try.pinned (OpenSpec.upto offsetAgainSpec)

/-- 'gabletlaw32.OffsetTurned', WHERE WHAT IT READS IS OF BULK AT MOST 1048576: true; the input reads as it did. -/
def offsetTurnedUptoRow : OpenClaim := { program := "ytjijhpflkkicaaa", sum := "cf85dd0af4ab933f36ee444ce367df14a1b1c8c669498a168d786d8a1c732e0b", func := "gablet/gabletlaw32.OffsetTurned", spec := "offsetTurned", unfollowed := true, recurses := true, apart := false, narrowed := true }
def OffsetTurnedUptoSaid : Prop := offsetTurnedUptoRow.holds Try.pinned (OpenSpec.upto offsetTurnedSpec)

/-- 'gabletlaw32.OffsetFair', WHERE WHAT IT READS IS OF BULK AT MOST 1048576: true; the input reads as it did. -/
def offsetFairUptoRow : OpenClaim := { program := "ytjijhpflkkicaaa", sum := "cf85dd0af4ab933f36ee444ce367df14a1b1c8c669498a168d786d8a1c732e0b", func := "gablet/gabletlaw32.OffsetFair", spec := "offsetFair", unfollowed := true, recurses := true, apart := false, narrowed := true }
def OffsetFairUptoSaid : Prop := offsetFairUptoRow.holds Try.pinned (OpenSpec.upto offsetFairSpec)

end Rows
end Go.Proofs.Ytjijhpflkkicaaa
