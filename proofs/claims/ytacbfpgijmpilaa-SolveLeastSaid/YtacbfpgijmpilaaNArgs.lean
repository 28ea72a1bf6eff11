/-
  An edge out of its four numbers. Plain lemmas.
-/
import Derived.Test.YtacbfpgijmpilaaNA
set_option linter.unusedVariables false
set_option linter.unusedSimpArgs false
namespace Go.NetP
open Go Go.Mem
def edMk (f : Nat → Int) : Ed := ⟨f 0, f 1, f 2, f 3⟩
theorem edMk_cells : ∀ (f : Nat → Int) (j : Nat) (k : IntKind), [IntKind.i64, .i64, .i64, .i64][j]? = some k → (edR.cells (edMk f))[j]? = some (Value.int k (f j))
  | f, 0, k, h => by cases h; rfl
  | f, 1, k, h => by cases h; rfl
  | f, 2, k, h => by cases h; rfl
  | f, 3, k, h => by cases h; rfl
  | f, j + 4, k, h => by simp at h
end Go.NetP
