/-
  No cell of these rows narrows 'for every input' (looked for: loops, veiled, ifaces, maps, wideKeys, modest, calm, conditions, laid).
  DERIVED. THE GIVEN ROWS OF THIS SEAT. 4 by the template 'for every input the law returns true; each argument reads behind the call as it read before'; 0 by the template 'total and deterministic' (their statements: YtlpfojpfepfdgaaTotals.lean).
  GIVEN WITH THE SEED: the statements are not yours to turn. If you find one false, say at which input.
  Laid BY PROGRAM, IN A SANDBOX (cutbox-rows.mjs): the forced cells as the released guide's own fill.sh prints them over the translation 108fa836ef182463… (all of the seat's roots in one cut). By AI agents, Wed Nov 11 2026. No macro, syntax, notation, axiom, sorry.
-/
import Derived.Test.YtlpfojpfepfdgaaChecked
import GoSem.Claim
import GoSem.ClaimJoined
import GoSem.ClaimMapViews
import Derived.JoinedTies
import Derived.KernelRfl
namespace Go.Proofs.Ytlpfojpfepfdgaa
/- THE CELL 'sum', in the pinned program and in every row, IS THE sha256 OF THE DUMP (.gsa) THAT YtlpfojpfepfdgaaProg.lean LOADS. Nothing in Lean hashes anything: it is a label: what it is worth is what the hold of that sum in a sandbox is worth. -/
noncomputable def Try.pinned : Pinned := { name := "ytlpfojpfepfdgaa", sum := "108fa836ef182463d418d13087a001dc8e64e8f2bda951e99ed9b233451c3162", checked := Try.checked }
namespace Rows
def none {H : Type} : Left H := { results := [], args := [] }

/-- 'gabletlaw17.AccountsBack': WHATEVER THE INPUT: true; the input reads as it did. -/
def accountsBackSpec : ChangeSpec := { name := "accountsBack", fn := fun _ => fun
  | [d1, d2, d3, d4] => { results := [.lit (.bool true)], args := [d1, d2, d3, d4] }
  | _ => none }
def accountsBackRow : OpenClaim := { program := "ytlpfojpfepfdgaa", sum := "108fa836ef182463d418d13087a001dc8e64e8f2bda951e99ed9b233451c3162", func := "gablet/gabletlaw17.AccountsBack", spec := "accountsBack", unfollowed := true, recurses := true, apart := false }
def AccountsBackSaid : Prop := accountsBackRow.holds Try.pinned (OpenSpec.ofChange accountsBackSpec)

/-- ITS FALSE NEIGHBOUR: 'it returns false'. Refute it at one input. -/
def accountsBackWrong : ChangeSpec := { name := "accountsBack", fn := fun _ => fun
  | [d1, d2, d3, d4] => { results := [.lit (.bool false)], args := [d1, d2, d3, d4] }
  | _ => none }
def AccountsBackWrongFalsely : Prop := accountsBackRow.holds Try.pinned (OpenSpec.ofChange accountsBackWrong)

/-- 'gabletlaw17.AccountsSum': WHATEVER THE INPUT: true; the input reads as it did. -/
def accountsSumSpec : ChangeSpec := { name := "accountsSum", fn := fun _ => fun
  | [d] => { results := [.lit (.bool true)], args := [d] }
  | _ => none }
def accountsSumRow : OpenClaim := { program := "ytlpfojpfepfdgaa", sum := "108fa836ef182463d418d13087a001dc8e64e8f2bda951e99ed9b233451c3162", func := "gablet/gabletlaw17.AccountsSum", spec := "accountsSum", unfollowed := true, recurses := true, apart := false }
def AccountsSumSaid : Prop := accountsSumRow.holds Try.pinned (OpenSpec.ofChange accountsSumSpec)

/-- ITS FALSE NEIGHBOUR: 'it returns false'. Refute it at one input. -/
def accountsSumWrong : ChangeSpec := { name := "accountsSum", fn := fun _ => fun
  | [d] => { results := [.lit (.bool false)], args := [d] }
  | _ => none }
def AccountsSumWrongFalsely : Prop := accountsSumRow.holds Try.pinned (OpenSpec.ofChange accountsSumWrong)

/-- 'gabletlaw17.AccountsNil': WHATEVER THE INPUT: true; the input reads as it did. -/
def accountsNilSpec : ChangeSpec := { name := "accountsNil", fn := fun _ => fun
  | [d1, d2] => { results := [.lit (.bool true)], args := [d1, d2] }
  | _ => none }
def accountsNilRow : OpenClaim := { program := "ytlpfojpfepfdgaa", sum := "108fa836ef182463d418d13087a001dc8e64e8f2bda951e99ed9b233451c3162", func := "gablet/gabletlaw17.AccountsNil", spec := "accountsNil", unfollowed := true, recurses := true, apart := false }
def AccountsNilSaid : Prop := accountsNilRow.holds Try.pinned (OpenSpec.ofChange accountsNilSpec)

/-- ITS FALSE NEIGHBOUR: 'it returns false'. Refute it at one input. -/
def accountsNilWrong : ChangeSpec := { name := "accountsNil", fn := fun _ => fun
  | [d1, d2] => { results := [.lit (.bool false)], args := [d1, d2] }
  | _ => none }
def AccountsNilWrongFalsely : Prop := accountsNilRow.holds Try.pinned (OpenSpec.ofChange accountsNilWrong)

/-- 'gabletlaw17.AccountsPlays': WHATEVER THE INPUT: true; the input reads as it did. -/
def accountsPlaysSpec : ChangeSpec := { name := "accountsPlays", fn := fun _ => fun
  | [d1, d2] => { results := [.lit (.bool true)], args := [d1, d2] }
  | _ => none }
def accountsPlaysRow : OpenClaim := { program := "ytlpfojpfepfdgaa", sum := "108fa836ef182463d418d13087a001dc8e64e8f2bda951e99ed9b233451c3162", func := "gablet/gabletlaw17.AccountsPlays", spec := "accountsPlays", unfollowed := true, recurses := true, apart := false }
def AccountsPlaysSaid : Prop := accountsPlaysRow.holds Try.pinned (OpenSpec.ofChange accountsPlaysSpec)

/-- ITS FALSE NEIGHBOUR: 'it returns false'. Refute it at one input. -/
def accountsPlaysWrong : ChangeSpec := { name := "accountsPlays", fn := fun _ => fun
  | [d1, d2] => { results := [.lit (.bool false)], args := [d1, d2] }
  | _ => none }
def AccountsPlaysWrongFalsely : Prop := accountsPlaysRow.holds Try.pinned (OpenSpec.ofChange accountsPlaysWrong)

/- THE SECOND FORM. 'bulk': how many values and letters a reading holds, each counted each time it is reached (what is shared counts as often as it is met; a slice's spare places count too). A statement '..UptoSaid' is the law's where the arguments, and the package variables that the reading takes, are together of bulk at most 1048576: NARROWER than '..Said'. Prove '..Said' where nothing that the law and all that it calls make is longer than what came in: it says more and counts as full. Else prove '..UptoSaid'. A law counts once. -/
mutual
def uptoBulk {H : Type} : DataW H → Nat
  | .lit (.string bytes) => bytes.length + 1
  | .lit _ => 1
  | .nil => 1
  | .ptr d => uptoBulk d + 1
  | .slice elems spare => uptoBulkAll elems + uptoBulkAll spare + 1
  | .agg parts => uptoBulkAll parts + 1
  | .iface _ d => uptoBulk d + 1
  | .map entries => uptoBulkEntries entries + 1
  | .held _ => 1
def uptoBulkAll {H : Type} : List (DataW H) → Nat
  | [] => 0
  | d :: r => uptoBulk d + uptoBulkAll r
def uptoBulkEntries {H : Type} : List (Lit × DataW H) → Nat
  | [] => 0
  | x :: r => uptoBulkEntry x + uptoBulkEntries r
def uptoBulkEntry {H : Type} : Lit × DataW H → Nat
  | (.string bytes, d) => bytes.length + uptoBulk d + 1
  | (_, d) => uptoBulk d + 1
 end
def uptoSmall : (H : Type) → List (DataW H) → Bool := fun _ ds => decide (uptoBulkAll ds ≤ 1048576)
def OpenSpec.upto (s : _root_.Go.ChangeSpec) : _root_.Go.OpenSpec := { _root_.Go.OpenSpec.ofChange s with cond := some uptoSmall }

/-- 'gabletlaw17.AccountsBack', WHERE WHAT IT READS IS OF BULK AT MOST 1048576: true; the input reads as it did. -/
def accountsBackUptoRow : OpenClaim := { program := "ytlpfojpfepfdgaa", sum := "108fa836ef182463d418d13087a001dc8e64e8f2bda951e99ed9b233451c3162", func := "gablet/gabletlaw17.AccountsBack", spec := "accountsBack", unfollowed := true, recurses := true, apart := false, narrowed := true }
def AccountsBackUptoSaid : Prop := accountsBackUptoRow.holds Try.pinned (OpenSpec.upto accountsBackSpec)

/-- 'gabletlaw17.AccountsSum', WHERE WHAT IT READS IS OF BULK AT MOST 1048576: true; the input reads as it did. -/
def accountsSumUptoRow : OpenClaim := { program := "ytlpfojpfepfdgaa", sum := "108fa836ef182463d418d13087a001dc8e64e8f2bda951e99ed9b233451c3162", func := "gablet/gabletlaw17.AccountsSum", spec := "accountsSum", unfollowed := true, recurses := true, apart := false, narrowed := true }
def AccountsSumUptoSaid : Prop := accountsSumUptoRow.holds Try.pinned (OpenSpec.upto accountsSumSpec)

/-- 'gabletlaw17.AccountsNil', WHERE WHAT IT READS IS OF BULK AT MOST 1048576: true; the input reads as it did. -/
def accountsNilUptoRow : OpenClaim := { program := "ytlpfojpfepfdgaa", sum := "108fa836ef182463d418d13087a001dc8e64e8f2bda951e99ed9b233451c3162", func := "gablet/gabletlaw17.AccountsNil", spec := "accountsNil", unfollowed := true, recurses := true, apart := false, narrowed := true }
def AccountsNilUptoSaid : Prop := accountsNilUptoRow.holds Try.pinned (OpenSpec.upto accountsNilSpec)

/-- 'gabletlaw17.AccountsPlays', WHERE WHAT IT READS IS OF BULK AT MOST 1048576: true; the input reads as it did. -/
def accountsPlaysUptoRow : OpenClaim := { program := "ytlpfojpfepfdgaa", sum := "108fa836ef182463d418d13087a001dc8e64e8f2bda951e99ed9b233451c3162", func := "gablet/gabletlaw17.AccountsPlays", spec := "accountsPlays", unfollowed := true, recurses := true, apart := false, narrowed := true }
def AccountsPlaysUptoSaid : Prop := accountsPlaysUptoRow.holds Try.pinned (OpenSpec.upto accountsPlaysSpec)

end Rows
end Go.Proofs.Ytlpfojpfepfdgaa
