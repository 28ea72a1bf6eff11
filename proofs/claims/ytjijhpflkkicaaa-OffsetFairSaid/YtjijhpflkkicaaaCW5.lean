/-
  The reference's Check, Gap; the chapter's example, walked.
-/
import Derived.Test.YtjijhpflkkicaaaRA
import Derived.Test.YtjijhpflkkicaaaLA
set_option linter.unusedVariables false
set_option linter.unusedSimpArgs false
namespace Go.Proofs.Ytjijhpflkkicaaa
open Go Go.RowKit Go.Mem Go.NetP Go.RestP Go.CertP Go.Shelf

def twoL : List Ed := [⟨0, 1, 5, -2⟩, ⟨1, 0, 3, 0⟩]
end Go.Proofs.Ytjijhpflkkicaaa
