/-
  Package solve: bits.Len64.
-/
import Derived.Test.YtacbfpgijmpilaaSW6
import Derived.Test.YtacbfpgijmpilaaSE
import Derived.Test.YtacbfpgijmpilaaLE
import Derived.Shelf.Lay
import Derived.Shelf.LaySoft
import Derived.Shelf.Small.Bits
set_option linter.unusedVariables false
set_option linter.unusedSimpArgs false
namespace Go.Proofs.Ytacbfpgijmpilaa
open Go Go.Shelf
shelf_lay Lays.n129 Nm 129 at Try as lays129s
theorem bits64_any (x : Int) (w : World) (h0 : 0 ≤ x) (h1 : x ≤ 18446744073709551615) :
    Calls Try.prog 19 #[.int .u64 x] w fun e w' => e = .returned (.int .i64 (Lib.bitLen x.toNat)) ∧ w' = w := Any.bits_Len64 lays129s x w h0 h1
end Go.Proofs.Ytacbfpgijmpilaa
