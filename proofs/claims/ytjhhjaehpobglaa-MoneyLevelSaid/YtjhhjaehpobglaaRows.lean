/-
  No cell of these rows narrows 'for every input' (looked for: loops, veiled, ifaces, maps, wideKeys, modest, calm, conditions, laid).
  DERIVED. THE GIVEN ROWS OF THIS SEAT. 3 by the template 'for every input the law returns true; each argument reads behind the call as it read before'; 0 by the template 'total and deterministic' (their statements: YtjhhjaehpobglaaTotals.lean).
  GIVEN WITH THE SEED: the statements are not yours to turn. If you find one false, say at which input.
  Laid BY PROGRAM, IN A SANDBOX (cutbox-rows.mjs): the forced cells as the released guide's own fill.sh prints them over the translation 9999770cb5aa2efb… (all of the seat's roots in one cut). By AI agents, Wed Nov 11 2026. No macro, syntax, notation, axiom, sorry.
-/
import Derived.Test.YtjhhjaehpobglaaChecked
import GoSem.Claim
import GoSem.ClaimJoined
import GoSem.ClaimMapViews
import Derived.JoinedTies
import Derived.KernelRfl
namespace Go.Proofs.Ytjhhjaehpobglaa
/- THE CELL 'sum', in the pinned program and in every row, IS THE sha256 OF THE DUMP (.gsa) THAT YtjhhjaehpobglaaProg.lean LOADS. Nothing in Lean hashes anything: it is a label: what it is worth is what the hold of that sum in a sandbox is worth. -/
noncomputable def Try.pinned : Pinned := { name := "ytjhhjaehpobglaa", sum := "9999770cb5aa2efb95d3083c938e9dd1a6599ab90cdd5ce9e5be84a0e241b646", checked := Try.checked }
namespace Rows
def none {H : Type} : Left H := { results := [], args := [] }

/-- 'gabletlaw16.MoneyPlays': WHATEVER THE INPUT: true; the input reads as it did. -/
def moneyPlaysSpec : ChangeSpec := { name := "moneyPlays", fn := fun _ => fun
  | [d1, d2, d3, d4] => { results := [.lit (.bool true)], args := [d1, d2, d3, d4] }
  | _ => none }
def moneyPlaysRow : OpenClaim := { program := "ytjhhjaehpobglaa", sum := "9999770cb5aa2efb95d3083c938e9dd1a6599ab90cdd5ce9e5be84a0e241b646", func := "gablet/gabletlaw16.MoneyPlays", spec := "moneyPlays", apart := false }
def MoneyPlaysSaid : Prop := moneyPlaysRow.holds Try.pinned (OpenSpec.ofChange moneyPlaysSpec)

/-- ITS FALSE NEIGHBOUR: 'it returns false'. Refute it at one input. -/
def moneyPlaysWrong : ChangeSpec := { name := "moneyPlays", fn := fun _ => fun
  | [d1, d2, d3, d4] => { results := [.lit (.bool false)], args := [d1, d2, d3, d4] }
  | _ => none }
def MoneyPlaysWrongFalsely : Prop := moneyPlaysRow.holds Try.pinned (OpenSpec.ofChange moneyPlaysWrong)

/-- 'gabletlaw16.MoneyLevel': WHATEVER THE INPUT: true; the input reads as it did. -/
def moneyLevelSpec : ChangeSpec := { name := "moneyLevel", fn := fun _ => fun
  | [d1, d2] => { results := [.lit (.bool true)], args := [d1, d2] }
  | _ => none }
def moneyLevelRow : OpenClaim := { program := "ytjhhjaehpobglaa", sum := "9999770cb5aa2efb95d3083c938e9dd1a6599ab90cdd5ce9e5be84a0e241b646", func := "gablet/gabletlaw16.MoneyLevel", spec := "moneyLevel", apart := false }
def MoneyLevelSaid : Prop := moneyLevelRow.holds Try.pinned (OpenSpec.ofChange moneyLevelSpec)

/-- ITS FALSE NEIGHBOUR: 'it returns false'. Refute it at one input. -/
def moneyLevelWrong : ChangeSpec := { name := "moneyLevel", fn := fun _ => fun
  | [d1, d2] => { results := [.lit (.bool false)], args := [d1, d2] }
  | _ => none }
def MoneyLevelWrongFalsely : Prop := moneyLevelRow.holds Try.pinned (OpenSpec.ofChange moneyLevelWrong)

/-- 'gabletlaw16.MoneyBack': WHATEVER THE INPUT: true; the input reads as it did. -/
def moneyBackSpec : ChangeSpec := { name := "moneyBack", fn := fun _ => fun
  | [d1, d2, d3, d4, d5] => { results := [.lit (.bool true)], args := [d1, d2, d3, d4, d5] }
  | _ => none }
def moneyBackRow : OpenClaim := { program := "ytjhhjaehpobglaa", sum := "9999770cb5aa2efb95d3083c938e9dd1a6599ab90cdd5ce9e5be84a0e241b646", func := "gablet/gabletlaw16.MoneyBack", spec := "moneyBack", apart := false }
def MoneyBackSaid : Prop := moneyBackRow.holds Try.pinned (OpenSpec.ofChange moneyBackSpec)

/-- ITS FALSE NEIGHBOUR: 'it returns false'. Refute it at one input. -/
def moneyBackWrong : ChangeSpec := { name := "moneyBack", fn := fun _ => fun
  | [d1, d2, d3, d4, d5] => { results := [.lit (.bool false)], args := [d1, d2, d3, d4, d5] }
  | _ => none }
def MoneyBackWrongFalsely : Prop := moneyBackRow.holds Try.pinned (OpenSpec.ofChange moneyBackWrong)

/- THE SECOND FORM. 'bulk': how many values and letters a reading holds, each counted each time it is reached (what is shared counts as often as it is met; a slice's spare places count too). A statement '..UptoSaid' is the law's where the arguments, and the package variables that the reading takes, are together of bulk at most 1048576: NARROWER than '..Said'. Prove '..Said' where nothing that the law and all that it calls make is longer than what came in: it says more and counts as full. Else prove '..UptoSaid'. A law counts once. -/
mutual
def uptoBulk {H : Type} : DataW H → Nat
  | .lit (.string bytes) => bytes.length + 1
  | .lit _ => 1
  | .nil => 1
  | .ptr d => uptoBulk d + 1
  | .slice elems spare => uptoBulkAll elems + uptoBulkAll spare + 1
  | .agg parts => uptoBulkAll parts + 1
  | .iface _ d => uptoBulk d + 1
  | .map entries => uptoBulkEntries entries + 1
  | .held _ => 1
def uptoBulkAll {H : Type} : List (DataW H) → Nat
  | [] => 0
  | d :: r => uptoBulk d + uptoBulkAll r
def uptoBulkEntries {H : Type} : List (Lit × DataW H) → Nat
  | [] => 0
  | x :: r => uptoBulkEntry x + uptoBulkEntries r
def uptoBulkEntry {H : Type} : Lit × DataW H → Nat
  | (.string bytes, d) => bytes.length + uptoBulk d + 1
  | (_, d) => uptoBulk d + 1
 end
def uptoSmall : (H : Type) → List (DataW H) → Bool := fun _ ds => decide (uptoBulkAll ds ≤ 1048576)
def OpenSpec.upto (s : _root_.Go.ChangeSpec) : _root_.Go.OpenSpec := { _root_.Go.OpenSpec.ofChange s with cond := some uptoSmall }

/-- 'gabletlaw16.MoneyPlays', WHERE WHAT IT READS IS OF BULK AT MOST 1048576: true; the input reads as it did. -/
def moneyPlaysUptoRow : OpenClaim := { program := "ytjhhjaehpobglaa", sum := "9999770cb5aa2efb95d3083c938e9dd1a6599ab90cdd5ce9e5be84a0e241b646", func := "gablet/gabletlaw16.MoneyPlays", spec := "moneyPlays", apart := false, narrowed := true }
def MoneyPlaysUptoSaid : Prop := moneyPlaysUptoRow.holds Try.pinned (OpenSpec.upto moneyPlaysSpec)

/-- 'gabletlaw16.MoneyLevel', WHERE WHAT IT READS IS OF BULK AT MOST 1048576: true; the input reads as it did. -/
def moneyLevelUptoRow : OpenClaim := { program := "ytjhhjaehpobglaa", sum := "9999770cb5aa2efb95d3083c938e9dd1a6599ab90cdd5ce9e5be84a0e241b646", func := "gablet/gabletlaw16.MoneyLevel", spec := "moneyLevel", apart := false, narrowed := true }
def MoneyLevelUptoSaid : Prop := moneyLevelUptoRow.holds Try.pinned (OpenSpec.upto moneyLevelSpec)

/-- 'gabletlaw16.MoneyBack', WHERE WHAT IT READS IS OF BULK AT MOST 1048576: true; the input reads as it did. -/
def moneyBackUptoRow : OpenClaim := { program := "ytjhhjaehpobglaa", sum := "9999770cb5aa2efb95d3083c938e9dd1a6599ab90cdd5ce9e5be84a0e241b646", func := "gablet/gabletlaw16.MoneyBack", spec := "moneyBack", apart := false, narrowed := true }
def MoneyBackUptoSaid : Prop := moneyBackUptoRow.holds Try.pinned (OpenSpec.upto moneyBackSpec)

end Rows
end Go.Proofs.Ytjhhjaehpobglaa
