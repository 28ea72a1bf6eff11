/-
  The reference's nets (gabletref11), walked: Cost.
-/
import Derived.Test.YtfnkmkfkomhhnaaNRef2W
namespace Go.Proofs.Ytfnkmkfkomhhnaa
open Go Go.RowKit Go.Mem Go.NetP

end Go.Proofs.Ytfnkmkfkomhhnaa
