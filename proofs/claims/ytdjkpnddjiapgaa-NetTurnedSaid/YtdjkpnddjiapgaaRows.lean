/-
  No cell of these rows narrows 'for every input' (looked for: loops, veiled, ifaces, maps, wideKeys, modest, calm, conditions, laid).
  DERIVED. THE GIVEN ROWS OF THIS SEAT. 6 by the template 'for every input the law returns true; each argument reads behind the call as it read before'; 0 by the template 'total and deterministic' (their statements: YtdjkpnddjiapgaaTotals.lean).
  GIVEN WITH THE SEED: the statements are not yours to turn. If you find one false, say at which input.
  Laid BY PROGRAM, IN A SANDBOX (cutbox-rows.mjs): the forced cells as the released guide's own fill.sh prints them over the translation e3539aa56cf25da4… (all of the seat's roots in one cut). By AI agents, Wed Nov 11 2026. No macro, syntax, notation, axiom, sorry.
-/
import Derived.Test.YtdjkpnddjiapgaaChecked
import GoSem.Claim
import GoSem.ClaimJoined
import GoSem.ClaimMapViews
import Derived.JoinedTies
import Derived.KernelRfl
namespace Go.Proofs.Ytdjkpnddjiapgaa
/- THE CELL 'sum', in the pinned program and in every row, IS THE sha256 OF THE DUMP (.gsa) THAT YtdjkpnddjiapgaaProg.lean LOADS. Nothing in Lean hashes anything: it is a label: what it is worth is what the hold of that sum in a sandbox is worth. -/
noncomputable def Try.pinned : Pinned := { name := "ytdjkpnddjiapgaa", sum := "e3539aa56cf25da410685b18fb686b90f16685e4d99345e91ede45814ea6c0f1", checked := Try.checked }
namespace Rows
def none {H : Type} : Left H := { results := [], args := [] }

/-- 'gabletlaw11.NetPlays': WHATEVER THE INPUT: true; the input reads as it did. -/
def netPlaysSpec : ChangeSpec := { name := "netPlays", fn := fun _ => fun
  | [d1, d2] => { results := [.lit (.bool true)], args := [d1, d2] }
  | _ => none }
def netPlaysRow : OpenClaim := { program := "ytdjkpnddjiapgaa", sum := "e3539aa56cf25da410685b18fb686b90f16685e4d99345e91ede45814ea6c0f1", func := "gablet/gabletlaw11.NetPlays", spec := "netPlays", unfollowed := true, recurses := true, apart := false }
def NetPlaysSaid : Prop := netPlaysRow.holds Try.pinned (OpenSpec.ofChange netPlaysSpec)

/-- ITS FALSE NEIGHBOUR: 'it returns false'. Refute it at one input. -/
def netPlaysWrong : ChangeSpec := { name := "netPlays", fn := fun _ => fun
  | [d1, d2] => { results := [.lit (.bool false)], args := [d1, d2] }
  | _ => none }
def NetPlaysWrongFalsely : Prop := netPlaysRow.holds Try.pinned (OpenSpec.ofChange netPlaysWrong)

/-- 'gabletlaw11.NetSums': WHATEVER THE INPUT: true; the input reads as it did. -/
def netSumsSpec : ChangeSpec := { name := "netSums", fn := fun _ => fun
  | [d1, d2] => { results := [.lit (.bool true)], args := [d1, d2] }
  | _ => none }
def netSumsRow : OpenClaim := { program := "ytdjkpnddjiapgaa", sum := "e3539aa56cf25da410685b18fb686b90f16685e4d99345e91ede45814ea6c0f1", func := "gablet/gabletlaw11.NetSums", spec := "netSums", unfollowed := true, recurses := true, apart := false }
def NetSumsSaid : Prop := netSumsRow.holds Try.pinned (OpenSpec.ofChange netSumsSpec)

/-- ITS FALSE NEIGHBOUR: 'it returns false'. Refute it at one input. -/
def netSumsWrong : ChangeSpec := { name := "netSums", fn := fun _ => fun
  | [d1, d2] => { results := [.lit (.bool false)], args := [d1, d2] }
  | _ => none }
def NetSumsWrongFalsely : Prop := netSumsRow.holds Try.pinned (OpenSpec.ofChange netSumsWrong)

/-- 'gabletlaw11.NetAdds': WHATEVER THE INPUT: true; the input reads as it did. -/
def netAddsSpec : ChangeSpec := { name := "netAdds", fn := fun _ => fun
  | [d1, d2, d3] => { results := [.lit (.bool true)], args := [d1, d2, d3] }
  | _ => none }
def netAddsRow : OpenClaim := { program := "ytdjkpnddjiapgaa", sum := "e3539aa56cf25da410685b18fb686b90f16685e4d99345e91ede45814ea6c0f1", func := "gablet/gabletlaw11.NetAdds", spec := "netAdds", unfollowed := true, recurses := true, apart := false }
def NetAddsSaid : Prop := netAddsRow.holds Try.pinned (OpenSpec.ofChange netAddsSpec)

/-- ITS FALSE NEIGHBOUR: 'it returns false'. Refute it at one input. -/
def netAddsWrong : ChangeSpec := { name := "netAdds", fn := fun _ => fun
  | [d1, d2, d3] => { results := [.lit (.bool false)], args := [d1, d2, d3] }
  | _ => none }
def NetAddsWrongFalsely : Prop := netAddsRow.holds Try.pinned (OpenSpec.ofChange netAddsWrong)

/-- 'gabletlaw11.NetRound': WHATEVER THE INPUT: true; the input reads as it did. -/
def netRoundSpec : ChangeSpec := { name := "netRound", fn := fun _ => fun
  | [d1, d2, d3] => { results := [.lit (.bool true)], args := [d1, d2, d3] }
  | _ => none }
def netRoundRow : OpenClaim := { program := "ytdjkpnddjiapgaa", sum := "e3539aa56cf25da410685b18fb686b90f16685e4d99345e91ede45814ea6c0f1", func := "gablet/gabletlaw11.NetRound", spec := "netRound", unfollowed := true, recurses := true, apart := false }
def NetRoundSaid : Prop := netRoundRow.holds Try.pinned (OpenSpec.ofChange netRoundSpec)

/-- ITS FALSE NEIGHBOUR: 'it returns false'. Refute it at one input. -/
def netRoundWrong : ChangeSpec := { name := "netRound", fn := fun _ => fun
  | [d1, d2, d3] => { results := [.lit (.bool false)], args := [d1, d2, d3] }
  | _ => none }
def NetRoundWrongFalsely : Prop := netRoundRow.holds Try.pinned (OpenSpec.ofChange netRoundWrong)

/-- 'gabletlaw11.NetBounds': WHATEVER THE INPUT: true; the input reads as it did. -/
def netBoundsSpec : ChangeSpec := { name := "netBounds", fn := fun _ => fun
  | [d1, d2, d3, d4, d5] => { results := [.lit (.bool true)], args := [d1, d2, d3, d4, d5] }
  | _ => none }
def netBoundsRow : OpenClaim := { program := "ytdjkpnddjiapgaa", sum := "e3539aa56cf25da410685b18fb686b90f16685e4d99345e91ede45814ea6c0f1", func := "gablet/gabletlaw11.NetBounds", spec := "netBounds", unfollowed := true, recurses := true, apart := false }
def NetBoundsSaid : Prop := netBoundsRow.holds Try.pinned (OpenSpec.ofChange netBoundsSpec)

/-- ITS FALSE NEIGHBOUR: 'it returns false'. Refute it at one input. -/
def netBoundsWrong : ChangeSpec := { name := "netBounds", fn := fun _ => fun
  | [d1, d2, d3, d4, d5] => { results := [.lit (.bool false)], args := [d1, d2, d3, d4, d5] }
  | _ => none }
def NetBoundsWrongFalsely : Prop := netBoundsRow.holds Try.pinned (OpenSpec.ofChange netBoundsWrong)

/-- 'gabletlaw11.NetTurned': WHATEVER THE INPUT: true; the input reads as it did. -/
def netTurnedSpec : ChangeSpec := { name := "netTurned", fn := fun _ => fun
  | [d1, d2, d3] => { results := [.lit (.bool true)], args := [d1, d2, d3] }
  | _ => none }
def netTurnedRow : OpenClaim := { program := "ytdjkpnddjiapgaa", sum := "e3539aa56cf25da410685b18fb686b90f16685e4d99345e91ede45814ea6c0f1", func := "gablet/gabletlaw11.NetTurned", spec := "netTurned", unfollowed := true, recurses := true, apart := false }
def NetTurnedSaid : Prop := netTurnedRow.holds Try.pinned (OpenSpec.ofChange netTurnedSpec)

/-- ITS FALSE NEIGHBOUR: 'it returns false'. Refute it at one input. -/
def netTurnedWrong : ChangeSpec := { name := "netTurned", fn := fun _ => fun
  | [d1, d2, d3] => { results := [.lit (.bool false)], args := [d1, d2, d3] }
  | _ => none }
def NetTurnedWrongFalsely : Prop := netTurnedRow.holds Try.pinned (OpenSpec.ofChange netTurnedWrong)

/- THE SECOND FORM. 'bulk': how many values and letters a reading holds, each counted each time it is reached (what is shared counts as often as it is met; a slice's spare places count too). A statement '..UptoSaid' is the law's where the arguments, and the package variables that the reading takes, are together of bulk at most 1048576: NARROWER than '..Said'. Prove '..Said' where nothing that the law and all that it calls make is longer than what came in: it says more and counts as full. Else prove '..UptoSaid'. A law counts once. -/
mutual
def uptoBulk {H : Type} : DataW H → Nat
  | .lit (.string bytes) => bytes.length + 1
  | .lit _ => 1
  | .nil => 1
  | .ptr d => uptoBulk d + 1
  | .slice elems spare => uptoBulkAll elems + uptoBulkAll spare + 1
  | .agg parts => uptoBulkAll parts + 1
  | .iface _ d => uptoBulk d + 1
  | .map entries => uptoBulkEntries entries + 1
  | .held _ => 1
def uptoBulkAll {H : Type} : List (DataW H) → Nat
  | [] => 0
  | d :: r => uptoBulk d + uptoBulkAll r
def uptoBulkEntries {H : Type} : List (Lit × DataW H) → Nat
  | [] => 0
  | x :: r => uptoBulkEntry x + uptoBulkEntries r
def uptoBulkEntry {H : Type} : Lit × DataW H → Nat
  | (.string bytes, d) => bytes.length + uptoBulk d + 1
  | (_, d) => uptoBulk d + 1
 end
def uptoSmall : (H : Type) → List (DataW H) → Bool := fun _ ds => decide (uptoBulkAll ds ≤ 1048576)
def OpenSpec.upto (s : _root_.Go.ChangeSpec) : _root_.Go.OpenSpec := { _root_.Go.OpenSpec.ofChange s with cond := some uptoSmall }

/-- 'gabletlaw11.NetPlays', WHERE WHAT IT READS IS OF BULK AT MOST 1048576: true; the input reads as it did. -/
def netPlaysUptoRow : OpenClaim := { program := "ytdjkpnddjiapgaa", sum := "e3539aa56cf25da410685b18fb686b90f16685e4d99345e91ede45814ea6c0f1", func := "gablet/gabletlaw11.NetPlays", spec := "netPlays", unfollowed := true, recurses := true, apart := false, narrowed := true }
def NetPlaysUptoSaid : Prop := netPlaysUptoRow.holds Try.pinned (OpenSpec.upto netPlaysSpec)

/-- 'gabletlaw11.NetSums', WHERE WHAT IT READS IS OF BULK AT MOST 1048576: true; the input reads as it did. -/
def netSumsUptoRow : OpenClaim := { program := "ytdjkpnddjiapgaa", sum := "e3539aa56cf25da410685b18fb686b90f16685e4d99345e91ede45814ea6c0f1", func := "gablet/gabletlaw11.NetSums", spec := "netSums", unfollowed := true, recurses := true, apart := false, narrowed := true }
def NetSumsUptoSaid : Prop := netSumsUptoRow.holds Try.pinned (OpenSpec.upto netSumsSpec)

/-- 'gabletlaw11.NetAdds', WHERE WHAT IT READS IS OF BULK AT MOST 1048576: true; the input reads as it did. -/
def netAddsUptoRow : OpenClaim := { program := "ytdjkpnddjiapgaa", sum := "e3539aa56cf25da410685b18fb686b90f16685e4d99345e91ede45814ea6c0f1", func := "gablet/gabletlaw11.NetAdds", spec := "netAdds", unfollowed := true, recurses := true, apart := false, narrowed := true }
def NetAddsUptoSaid : Prop := netAddsUptoRow.holds Try.pinned (OpenSpec.upto netAddsSpec)

/-- 'gabletlaw11.NetRound', WHERE WHAT IT READS IS OF BULK AT MOST 1048576: true; the input reads as it did. -/
def netRoundUptoRow : OpenClaim := { program := "ytdjkpnddjiapgaa", sum := "e3539aa56cf25da410685b18fb686b90f16685e4d99345e91ede45814ea6c0f1", func := "gablet/gabletlaw11.NetRound", spec := "netRound", unfollowed := true, recurses := true, apart := false, narrowed := true }
def NetRoundUptoSaid : Prop := netRoundUptoRow.holds Try.pinned (OpenSpec.upto netRoundSpec)

/-- 'gabletlaw11.NetBounds', WHERE WHAT IT READS IS OF BULK AT MOST 1048576: true; the input reads as it did. -/
def netBoundsUptoRow : OpenClaim := { program := "ytdjkpnddjiapgaa", sum := "e3539aa56cf25da410685b18fb686b90f16685e4d99345e91ede45814ea6c0f1", func := "gablet/gabletlaw11.NetBounds", spec := "netBounds", unfollowed := true, recurses := true, apart := false, narrowed := true }
def NetBoundsUptoSaid : Prop := netBoundsUptoRow.holds Try.pinned (OpenSpec.upto netBoundsSpec)

/-- 'gabletlaw11.NetTurned', WHERE WHAT IT READS IS OF BULK AT MOST 1048576: true; the input reads as it did. -/
def netTurnedUptoRow : OpenClaim := { program := "ytdjkpnddjiapgaa", sum := "e3539aa56cf25da410685b18fb686b90f16685e4d99345e91ede45814ea6c0f1", func := "gablet/gabletlaw11.NetTurned", spec := "netTurned", unfollowed := true, recurses := true, apart := false, narrowed := true }
def NetTurnedUptoSaid : Prop := netTurnedUptoRow.holds Try.pinned (OpenSpec.upto netTurnedSpec)

end Rows
end Go.Proofs.Ytdjkpnddjiapgaa
