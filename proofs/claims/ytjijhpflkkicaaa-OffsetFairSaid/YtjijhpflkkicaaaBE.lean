/-
  Package build, walked.
-/
import Derived.Test.YtjijhpflkkicaaaBC
import Derived.Test.YtjijhpflkkicaaaBD
import Derived.Test.YtjijhpflkkicaaaNB
set_option linter.unusedVariables false
set_option linter.unusedSimpArgs false
namespace Go.Proofs.Ytjijhpflkkicaaa
open Go Go.RowKit Go.Mem Go.MoneyP Go.NetP Go.BuildP Go.Shelf
end Go.Proofs.Ytjijhpflkkicaaa
namespace Go.Proofs.Ytjijhpflkkicaaa
open Go Go.RowKit Go.Mem Go.MoneyP Go.NetP Go.BuildP
def fewB (a b c : Nat) : Bool := decide (a ≤ 40) && decide (b ≤ 100) && decide (c ≤ 300)
/-- The chapter's round. -/
def exD : List Du := [⟨7, 0, 1, 9, 2, 0, false⟩]
end Go.Proofs.Ytjijhpflkkicaaa
