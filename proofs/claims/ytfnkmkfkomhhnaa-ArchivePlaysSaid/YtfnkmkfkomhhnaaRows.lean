/-
  No cell of these rows narrows 'for every input' (looked for: loops, veiled, ifaces, maps, wideKeys, modest, calm, conditions, laid).
  DERIVED. THE GIVEN ROWS OF THIS SEAT. 4 by the template 'for every input the law returns true; each argument reads behind the call as it read before'; 0 by the template 'total and deterministic' (their statements: YtfnkmkfkomhhnaaTotals.lean).
  GIVEN WITH THE SEED: the statements are not yours to turn. If you find one false, say at which input.
  Laid BY PROGRAM, IN A SANDBOX (cutbox-rows.mjs): the forced cells as the released guide's own fill.sh prints them over the translation fffdf374590376aa… (all of the seat's roots in one cut). By AI agents, Wed Nov 11 2026. No macro, syntax, notation, axiom, sorry.
-/
import Derived.Test.YtfnkmkfkomhhnaaChecked
import GoSem.Claim
import GoSem.ClaimJoined
import GoSem.ClaimMapViews
import Derived.JoinedTies
import Derived.KernelRfl
namespace Go.Proofs.Ytfnkmkfkomhhnaa
/- THE CELL 'sum', in the pinned program and in every row, IS THE sha256 OF THE DUMP (.gsa) THAT YtfnkmkfkomhhnaaProg.lean LOADS. Nothing in Lean hashes anything: it is a label: what it is worth is what the hold of that sum in a sandbox is worth. -/
noncomputable def Try.pinned : Pinned := { name := "ytfnkmkfkomhhnaa", sum := "fffdf374590376aa4a130478a7c70cbe34e58684d06adc732774fc45239cad9c", checked := Try.checked }
namespace Rows
def none {H : Type} : Left H := { results := [], args := [] }

/-- 'gabletlaw21.ArchiveLast': WHATEVER THE INPUT: true; the input reads as it did. -/
def archiveLastSpec : ChangeSpec := { name := "archiveLast", fn := fun _ => fun
  | [d] => { results := [.lit (.bool true)], args := [d] }
  | _ => none }
def archiveLastRow : OpenClaim := { program := "ytfnkmkfkomhhnaa", sum := "fffdf374590376aa4a130478a7c70cbe34e58684d06adc732774fc45239cad9c", func := "gablet/gabletlaw21.ArchiveLast", spec := "archiveLast", unfollowed := true, recurses := true, apart := false }
def ArchiveLastSaid : Prop := archiveLastRow.holds Try.pinned (OpenSpec.ofChange archiveLastSpec)

/-- ITS FALSE NEIGHBOUR: 'it returns false'. Refute it at one input. -/
def archiveLastWrong : ChangeSpec := { name := "archiveLast", fn := fun _ => fun
  | [d] => { results := [.lit (.bool false)], args := [d] }
  | _ => none }
def ArchiveLastWrongFalsely : Prop := archiveLastRow.holds Try.pinned (OpenSpec.ofChange archiveLastWrong)

/-- 'gabletlaw21.ArchiveNil': WHATEVER THE INPUT: true; the input reads as it did. -/
def archiveNilSpec : ChangeSpec := { name := "archiveNil", fn := fun _ => fun
  | [d] => { results := [.lit (.bool true)], args := [d] }
  | _ => none }
def archiveNilRow : OpenClaim := { program := "ytfnkmkfkomhhnaa", sum := "fffdf374590376aa4a130478a7c70cbe34e58684d06adc732774fc45239cad9c", func := "gablet/gabletlaw21.ArchiveNil", spec := "archiveNil", unfollowed := true, recurses := true, apart := false }
def ArchiveNilSaid : Prop := archiveNilRow.holds Try.pinned (OpenSpec.ofChange archiveNilSpec)

/-- ITS FALSE NEIGHBOUR: 'it returns false'. Refute it at one input. -/
def archiveNilWrong : ChangeSpec := { name := "archiveNil", fn := fun _ => fun
  | [d] => { results := [.lit (.bool false)], args := [d] }
  | _ => none }
def ArchiveNilWrongFalsely : Prop := archiveNilRow.holds Try.pinned (OpenSpec.ofChange archiveNilWrong)

/-- 'gabletlaw21.ArchiveCounts': WHATEVER THE INPUT: true; the input reads as it did. -/
def archiveCountsSpec : ChangeSpec := { name := "archiveCounts", fn := fun _ => fun
  | [d] => { results := [.lit (.bool true)], args := [d] }
  | _ => none }
def archiveCountsRow : OpenClaim := { program := "ytfnkmkfkomhhnaa", sum := "fffdf374590376aa4a130478a7c70cbe34e58684d06adc732774fc45239cad9c", func := "gablet/gabletlaw21.ArchiveCounts", spec := "archiveCounts", unfollowed := true, recurses := true, apart := false }
def ArchiveCountsSaid : Prop := archiveCountsRow.holds Try.pinned (OpenSpec.ofChange archiveCountsSpec)

/-- ITS FALSE NEIGHBOUR: 'it returns false'. Refute it at one input. -/
def archiveCountsWrong : ChangeSpec := { name := "archiveCounts", fn := fun _ => fun
  | [d] => { results := [.lit (.bool false)], args := [d] }
  | _ => none }
def ArchiveCountsWrongFalsely : Prop := archiveCountsRow.holds Try.pinned (OpenSpec.ofChange archiveCountsWrong)

/-- 'gabletlaw21.ArchivePlays': WHATEVER THE INPUT: true; the input reads as it did. -/
def archivePlaysSpec : ChangeSpec := { name := "archivePlays", fn := fun _ => fun
  | [d1, d2, d3, d4] => { results := [.lit (.bool true)], args := [d1, d2, d3, d4] }
  | _ => none }
def archivePlaysRow : OpenClaim := { program := "ytfnkmkfkomhhnaa", sum := "fffdf374590376aa4a130478a7c70cbe34e58684d06adc732774fc45239cad9c", func := "gablet/gabletlaw21.ArchivePlays", spec := "archivePlays", unfollowed := true, recurses := true, apart := false }
def ArchivePlaysSaid : Prop := archivePlaysRow.holds Try.pinned (OpenSpec.ofChange archivePlaysSpec)

/-- ITS FALSE NEIGHBOUR: 'it returns false'. Refute it at one input. -/
def archivePlaysWrong : ChangeSpec := { name := "archivePlays", fn := fun _ => fun
  | [d1, d2, d3, d4] => { results := [.lit (.bool false)], args := [d1, d2, d3, d4] }
  | _ => none }
def ArchivePlaysWrongFalsely : Prop := archivePlaysRow.holds Try.pinned (OpenSpec.ofChange archivePlaysWrong)

/- THE SECOND FORM. 'bulk': how many values and letters a reading holds, each counted each time it is reached (what is shared counts as often as it is met; a slice's spare places count too). A statement '..UptoSaid' is the law's where the arguments, and the package variables that the reading takes, are together of bulk at most 1048576: NARROWER than '..Said'. Prove '..Said' where nothing that the law and all that it calls make is longer than what came in: it says more and counts as full. Else prove '..UptoSaid'. A law counts once. -/
mutual
def uptoBulk {H : Type} : DataW H → Nat
  | .lit (.string bytes) => bytes.length + 1
  | .lit _ => 1
  | .nil => 1
  | .ptr d => uptoBulk d + 1
  | .slice elems spare => uptoBulkAll elems + uptoBulkAll spare + 1
  | .agg parts => uptoBulkAll parts + 1
  | .iface _ d => uptoBulk d + 1
  | .map entries => uptoBulkEntries entries + 1
  | .held _ => 1
def uptoBulkAll {H : Type} : List (DataW H) → Nat
  | [] => 0
  | d :: r => uptoBulk d + uptoBulkAll r
def uptoBulkEntries {H : Type} : List (Lit × DataW H) → Nat
  | [] => 0
  | x :: r => uptoBulkEntry x + uptoBulkEntries r
def uptoBulkEntry {H : Type} : Lit × DataW H → Nat
  | (.string bytes, d) => bytes.length + uptoBulk d + 1
  | (_, d) => uptoBulk d + 1
 end
def uptoSmall : (H : Type) → List (DataW H) → Bool := fun _ ds => decide (uptoBulkAll ds ≤ 1048576)
def OpenSpec.upto (s : _root_.Go.ChangeSpec) : _root_.Go.OpenSpec := { _root_.Go.OpenSpec.ofChange s with cond := some uptoSmall }

/-- 'gabletlaw21.ArchiveLast', WHERE WHAT IT READS IS OF BULK AT MOST 1048576: true; the input reads as it did. -/
def archiveLastUptoRow : OpenClaim := { program := "ytfnkmkfkomhhnaa", sum := "fffdf374590376aa4a130478a7c70cbe34e58684d06adc732774fc45239cad9c", func := "gablet/gabletlaw21.ArchiveLast", spec := "archiveLast", unfollowed := true, recurses := true, apart := false, narrowed := true }
def ArchiveLastUptoSaid : Prop := archiveLastUptoRow.holds Try.pinned (OpenSpec.upto archiveLastSpec)

/-- 'gabletlaw21.ArchiveNil', WHERE WHAT IT READS IS OF BULK AT MOST 1048576: true; the input reads as it did. -/
def archiveNilUptoRow : OpenClaim := { program := "ytfnkmkfkomhhnaa", sum := "fffdf374590376aa4a130478a7c70cbe34e58684d06adc732774fc45239cad9c", func := "gablet/gabletlaw21.ArchiveNil", spec := "archiveNil", unfollowed := true, recurses := true, apart := false, narrowed := true }
def ArchiveNilUptoSaid : Prop := archiveNilUptoRow.holds Try.pinned (OpenSpec.upto archiveNilSpec)

/-- 'gabletlaw21.ArchiveCounts', WHERE WHAT IT READS IS OF BULK AT MOST 1048576: true; the input reads as it did. -/
def archiveCountsUptoRow : OpenClaim := { program := "ytfnkmkfkomhhnaa", sum := "fffdf374590376aa4a130478a7c70cbe34e58684d06adc732774fc45239cad9c", func := "gablet/gabletlaw21.ArchiveCounts", spec := "archiveCounts", unfollowed := true, recurses := true, apart := false, narrowed := true }
def ArchiveCountsUptoSaid : Prop := archiveCountsUptoRow.holds Try.pinned (OpenSpec.upto archiveCountsSpec)

/-- 'gabletlaw21.ArchivePlays', WHERE WHAT IT READS IS OF BULK AT MOST 1048576: true; the input reads as it did. -/
def archivePlaysUptoRow : OpenClaim := { program := "ytfnkmkfkomhhnaa", sum := "fffdf374590376aa4a130478a7c70cbe34e58684d06adc732774fc45239cad9c", func := "gablet/gabletlaw21.ArchivePlays", spec := "archivePlays", unfollowed := true, recurses := true, apart := false, narrowed := true }
def ArchivePlaysUptoSaid : Prop := archivePlaysUptoRow.holds Try.pinned (OpenSpec.upto archivePlaysSpec)

end Rows
end Go.Proofs.Ytfnkmkfkomhhnaa
