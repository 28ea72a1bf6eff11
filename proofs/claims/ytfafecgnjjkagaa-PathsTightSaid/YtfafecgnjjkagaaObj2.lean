/-
  Things in memory, one left out. Plain lemmas.
-/
import Derived.Test.YtfafecgnjjkagaaSep
namespace Go.Mem
open Go Go.RowKit
/-- A thing is left out. -/
theorem Sep.omit {w0 w : World} {L : List Thing} (h : Sep w0 w L) (i : Nat) : Sep w0 w (L.eraseIdx i) := by
  obtain ⟨Ss, hl, ha, p⟩ := h
  have look : ∀ {β : Type _} (l : List β) (j : Nat) (x : β), (l.eraseIdx i)[j]? = some x → l[if j < i then j else j + 1]? = some x := by
    intro β l j x hx
    rw [List.getElem?_eraseIdx] at hx
    split at hx <;> rename_i hj
    · rw [if_pos hj]; exact hx
    · rw [if_neg hj]; exact hx
  refine ⟨Ss.eraseIdx i, by rw [List.length_eraseIdx, List.length_eraseIdx, hl], fun j C T hC hT => ha _ C T (look _ _ _ hC) (look _ _ _ hT), fun j k C D hC hD hne => p.dis _ _ C D (look _ _ _ hC) (look _ _ _ hD) (by split <;> split <;> omega), fun j C hC => p.rng _ C (look _ _ _ hC), p.below⟩
theorem Sep.drop1 {w0 w : World} {A B : Thing} {L : List Thing} (h : Sep w0 w (A :: B :: L)) : Sep w0 w (A :: L) := h.omit 1
end Go.Mem
