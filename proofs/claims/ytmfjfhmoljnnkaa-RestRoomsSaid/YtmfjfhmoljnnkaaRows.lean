/-
  No cell of these rows narrows 'for every input' (looked for: loops, veiled, ifaces, maps, wideKeys, modest, calm, conditions, laid).
  DERIVED. THE GIVEN ROWS OF THIS SEAT. 6 by the template 'for every input the law returns true; each argument reads behind the call as it read before'; 0 by the template 'total and deterministic' (their statements: YtmfjfhmoljnnkaaTotals.lean).
  GIVEN WITH THE SEED: the statements are not yours to turn. If you find one false, say at which input.
  Laid BY PROGRAM, IN A SANDBOX (cutbox-rows.mjs): the forced cells as the released guide's own fill.sh prints them over the translation 1a7f023bee273a15… (all of the seat's roots in one cut). By AI agents, Wed Nov 11 2026. No macro, syntax, notation, axiom, sorry.
-/
import Derived.Test.YtmfjfhmoljnnkaaChecked
import GoSem.Claim
import GoSem.ClaimJoined
import GoSem.ClaimMapViews
import Derived.JoinedTies
import Derived.KernelRfl
namespace Go.Proofs.Ytmfjfhmoljnnkaa
/- THE CELL 'sum', in the pinned program and in every row, IS THE sha256 OF THE DUMP (.gsa) THAT YtmfjfhmoljnnkaaProg.lean LOADS. Nothing in Lean hashes anything: it is a label: what it is worth is what the hold of that sum in a sandbox is worth. -/
noncomputable def Try.pinned : Pinned := { name := "ytmfjfhmoljnnkaa", sum := "1a7f023bee273a15717b29e923563d27135e48c8309aad79a40f80d45077fa8c", checked := Try.checked }
namespace Rows
def none {H : Type} : Left H := { results := [], args := [] }

/-- 'gabletlaw12.RestPlays': WHATEVER THE INPUT: true; the input reads as it did. -/
def restPlaysSpec : ChangeSpec := { name := "restPlays", fn := fun _ => fun
  | [d1, d2, d3, d4] => { results := [.lit (.bool true)], args := [d1, d2, d3, d4] }
  | _ => none }
def restPlaysRow : OpenClaim := { program := "ytmfjfhmoljnnkaa", sum := "1a7f023bee273a15717b29e923563d27135e48c8309aad79a40f80d45077fa8c", func := "gablet/gabletlaw12.RestPlays", spec := "restPlays", apart := false }
def RestPlaysSaid : Prop := restPlaysRow.holds Try.pinned (OpenSpec.ofChange restPlaysSpec)

/-- ITS FALSE NEIGHBOUR: 'it returns false'. Refute it at one input. -/
def restPlaysWrong : ChangeSpec := { name := "restPlays", fn := fun _ => fun
  | [d1, d2, d3, d4] => { results := [.lit (.bool false)], args := [d1, d2, d3, d4] }
  | _ => none }
def RestPlaysWrongFalsely : Prop := restPlaysRow.holds Try.pinned (OpenSpec.ofChange restPlaysWrong)

/-- 'gabletlaw12.RestWays': WHATEVER THE INPUT: true; the input reads as it did. -/
def restWaysSpec : ChangeSpec := { name := "restWays", fn := fun _ => fun
  | [d1, d2, d3, d4] => { results := [.lit (.bool true)], args := [d1, d2, d3, d4] }
  | _ => none }
def restWaysRow : OpenClaim := { program := "ytmfjfhmoljnnkaa", sum := "1a7f023bee273a15717b29e923563d27135e48c8309aad79a40f80d45077fa8c", func := "gablet/gabletlaw12.RestWays", spec := "restWays", apart := false }
def RestWaysSaid : Prop := restWaysRow.holds Try.pinned (OpenSpec.ofChange restWaysSpec)

/-- ITS FALSE NEIGHBOUR: 'it returns false'. Refute it at one input. -/
def restWaysWrong : ChangeSpec := { name := "restWays", fn := fun _ => fun
  | [d1, d2, d3, d4] => { results := [.lit (.bool false)], args := [d1, d2, d3, d4] }
  | _ => none }
def RestWaysWrongFalsely : Prop := restWaysRow.holds Try.pinned (OpenSpec.ofChange restWaysWrong)

/-- 'gabletlaw12.RestBack': WHATEVER THE INPUT: true; the input reads as it did. -/
def restBackSpec : ChangeSpec := { name := "restBack", fn := fun _ => fun
  | [d1, d2, d3, d4] => { results := [.lit (.bool true)], args := [d1, d2, d3, d4] }
  | _ => none }
def restBackRow : OpenClaim := { program := "ytmfjfhmoljnnkaa", sum := "1a7f023bee273a15717b29e923563d27135e48c8309aad79a40f80d45077fa8c", func := "gablet/gabletlaw12.RestBack", spec := "restBack", apart := false }
def RestBackSaid : Prop := restBackRow.holds Try.pinned (OpenSpec.ofChange restBackSpec)

/-- ITS FALSE NEIGHBOUR: 'it returns false'. Refute it at one input. -/
def restBackWrong : ChangeSpec := { name := "restBack", fn := fun _ => fun
  | [d1, d2, d3, d4] => { results := [.lit (.bool false)], args := [d1, d2, d3, d4] }
  | _ => none }
def RestBackWrongFalsely : Prop := restBackRow.holds Try.pinned (OpenSpec.ofChange restBackWrong)

/-- 'gabletlaw12.RestBottle': WHATEVER THE INPUT: true; the input reads as it did. -/
def restBottleSpec : ChangeSpec := { name := "restBottle", fn := fun _ => fun
  | [d1, d2, d3] => { results := [.lit (.bool true)], args := [d1, d2, d3] }
  | _ => none }
def restBottleRow : OpenClaim := { program := "ytmfjfhmoljnnkaa", sum := "1a7f023bee273a15717b29e923563d27135e48c8309aad79a40f80d45077fa8c", func := "gablet/gabletlaw12.RestBottle", spec := "restBottle", apart := false }
def RestBottleSaid : Prop := restBottleRow.holds Try.pinned (OpenSpec.ofChange restBottleSpec)

/-- ITS FALSE NEIGHBOUR: 'it returns false'. Refute it at one input. -/
def restBottleWrong : ChangeSpec := { name := "restBottle", fn := fun _ => fun
  | [d1, d2, d3] => { results := [.lit (.bool false)], args := [d1, d2, d3] }
  | _ => none }
def RestBottleWrongFalsely : Prop := restBottleRow.holds Try.pinned (OpenSpec.ofChange restBottleWrong)

/-- 'gabletlaw12.RestRooms': WHATEVER THE INPUT: true; the input reads as it did. -/
def restRoomsSpec : ChangeSpec := { name := "restRooms", fn := fun _ => fun
  | [d1, d2, d3] => { results := [.lit (.bool true)], args := [d1, d2, d3] }
  | _ => none }
def restRoomsRow : OpenClaim := { program := "ytmfjfhmoljnnkaa", sum := "1a7f023bee273a15717b29e923563d27135e48c8309aad79a40f80d45077fa8c", func := "gablet/gabletlaw12.RestRooms", spec := "restRooms", apart := false }
def RestRoomsSaid : Prop := restRoomsRow.holds Try.pinned (OpenSpec.ofChange restRoomsSpec)

/-- ITS FALSE NEIGHBOUR: 'it returns false'. Refute it at one input. -/
def restRoomsWrong : ChangeSpec := { name := "restRooms", fn := fun _ => fun
  | [d1, d2, d3] => { results := [.lit (.bool false)], args := [d1, d2, d3] }
  | _ => none }
def RestRoomsWrongFalsely : Prop := restRoomsRow.holds Try.pinned (OpenSpec.ofChange restRoomsWrong)

/-- 'gabletlaw12.RestAlong': WHATEVER THE INPUT: true; the input reads as it did. -/
def restAlongSpec : ChangeSpec := { name := "restAlong", fn := fun _ => fun
  | [d1, d2, d3, d4] => { results := [.lit (.bool true)], args := [d1, d2, d3, d4] }
  | _ => none }
def restAlongRow : OpenClaim := { program := "ytmfjfhmoljnnkaa", sum := "1a7f023bee273a15717b29e923563d27135e48c8309aad79a40f80d45077fa8c", func := "gablet/gabletlaw12.RestAlong", spec := "restAlong", unfollowed := true, recurses := true, apart := false }
def RestAlongSaid : Prop := restAlongRow.holds Try.pinned (OpenSpec.ofChange restAlongSpec)

/-- ITS FALSE NEIGHBOUR: 'it returns false'. Refute it at one input. -/
def restAlongWrong : ChangeSpec := { name := "restAlong", fn := fun _ => fun
  | [d1, d2, d3, d4] => { results := [.lit (.bool false)], args := [d1, d2, d3, d4] }
  | _ => none }
def RestAlongWrongFalsely : Prop := restAlongRow.holds Try.pinned (OpenSpec.ofChange restAlongWrong)

/- THE SECOND FORM. 'bulk': how many values and letters a reading holds, each counted each time it is reached (what is shared counts as often as it is met; a slice's spare places count too). A statement '..UptoSaid' is the law's where the arguments, and the package variables that the reading takes, are together of bulk at most 1048576: NARROWER than '..Said'. Prove '..Said' where nothing that the law and all that it calls make is longer than what came in: it says more and counts as full. Else prove '..UptoSaid'. A law counts once. -/
mutual
def uptoBulk {H : Type} : DataW H → Nat
  | .lit (.string bytes) => bytes.length + 1
  | .lit _ => 1
  | .nil => 1
  | .ptr d => uptoBulk d + 1
  | .slice elems spare => uptoBulkAll elems + uptoBulkAll spare + 1
  | .agg parts => uptoBulkAll parts + 1
  | .iface _ d => uptoBulk d + 1
  | .map entries => uptoBulkEntries entries + 1
  | .held _ => 1
def uptoBulkAll {H : Type} : List (DataW H) → Nat
  | [] => 0
  | d :: r => uptoBulk d + uptoBulkAll r
def uptoBulkEntries {H : Type} : List (Lit × DataW H) → Nat
  | [] => 0
  | x :: r => uptoBulkEntry x + uptoBulkEntries r
def uptoBulkEntry {H : Type} : Lit × DataW H → Nat
  | (.string bytes, d) => bytes.length + uptoBulk d + 1
  | (_, d) => uptoBulk d + 1
 end
def uptoSmall : (H : Type) → List (DataW H) → Bool := fun _ ds => decide (uptoBulkAll ds ≤ 1048576)
def OpenSpec.upto (s : _root_.Go.ChangeSpec) : _root_.Go.OpenSpec := { _root_.Go.OpenSpec.ofChange s with cond := some uptoSmall }

/-- 'gabletlaw12.RestPlays', WHERE WHAT IT READS IS OF BULK AT MOST 1048576: true; the input reads as it did. -/
def restPlaysUptoRow : OpenClaim := { program := "ytmfjfhmoljnnkaa", sum := "1a7f023bee273a15717b29e923563d27135e48c8309aad79a40f80d45077fa8c", func := "gablet/gabletlaw12.RestPlays", spec := "restPlays", apart := false, narrowed := true }
def RestPlaysUptoSaid : Prop := restPlaysUptoRow.holds Try.pinned (OpenSpec.upto restPlaysSpec)

/-- 'gabletlaw12.RestWays', WHERE WHAT IT READS IS OF BULK AT MOST 1048576: true; the input reads as it did. -/
def restWaysUptoRow : OpenClaim := { program := "ytmfjfhmoljnnkaa", sum := "1a7f023bee273a15717b29e923563d27135e48c8309aad79a40f80d45077fa8c", func := "gablet/gabletlaw12.RestWays", spec := "restWays", apart := false, narrowed := true }
def RestWaysUptoSaid : Prop := restWaysUptoRow.holds Try.pinned (OpenSpec.upto restWaysSpec)

/-- 'gabletlaw12.RestBack', WHERE WHAT IT READS IS OF BULK AT MOST 1048576: true; the input reads as it did. -/
def restBackUptoRow : OpenClaim := { program := "ytmfjfhmoljnnkaa", sum := "1a7f023bee273a15717b29e923563d27135e48c8309aad79a40f80d45077fa8c", func := "gablet/gabletlaw12.RestBack", spec := "restBack", apart := false, narrowed := true }
def RestBackUptoSaid : Prop := restBackUptoRow.holds Try.pinned (OpenSpec.upto restBackSpec)

/-- 'gabletlaw12.RestBottle', WHERE WHAT IT READS IS OF BULK AT MOST 1048576: true; the input reads as it did. -/
def restBottleUptoRow : OpenClaim := { program := "ytmfjfhmoljnnkaa", sum := "1a7f023bee273a15717b29e923563d27135e48c8309aad79a40f80d45077fa8c", func := "gablet/gabletlaw12.RestBottle", spec := "restBottle", apart := false, narrowed := true }
def RestBottleUptoSaid : Prop := restBottleUptoRow.holds Try.pinned (OpenSpec.upto restBottleSpec)

/-- 'gabletlaw12.RestRooms', WHERE WHAT IT READS IS OF BULK AT MOST 1048576: true; the input reads as it did. -/
def restRoomsUptoRow : OpenClaim := { program := "ytmfjfhmoljnnkaa", sum := "1a7f023bee273a15717b29e923563d27135e48c8309aad79a40f80d45077fa8c", func := "gablet/gabletlaw12.RestRooms", spec := "restRooms", apart := false, narrowed := true }
def RestRoomsUptoSaid : Prop := restRoomsUptoRow.holds Try.pinned (OpenSpec.upto restRoomsSpec)

/-- 'gabletlaw12.RestAlong', WHERE WHAT IT READS IS OF BULK AT MOST 1048576: true; the input reads as it did. -/
def restAlongUptoRow : OpenClaim := { program := "ytmfjfhmoljnnkaa", sum := "1a7f023bee273a15717b29e923563d27135e48c8309aad79a40f80d45077fa8c", func := "gablet/gabletlaw12.RestAlong", spec := "restAlong", unfollowed := true, recurses := true, apart := false, narrowed := true }
def RestAlongUptoSaid : Prop := restAlongUptoRow.holds Try.pinned (OpenSpec.upto restAlongSpec)

end Rows
end Go.Proofs.Ytmfjfhmoljnnkaa
