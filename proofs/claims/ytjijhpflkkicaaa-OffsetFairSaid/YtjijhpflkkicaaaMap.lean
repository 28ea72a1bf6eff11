/-
  A map of integers that the call has made, as a thing in memory; its look-up and its store, key by key.
-/
import Derived.Test.YtjijhpflkkicaaaLA
import Derived.Maps.OwnSet
import Derived.WalkKit
set_option linter.unusedVariables false
set_option linter.unusedSimpArgs false
namespace Go.Mem
open Go Go.RowKit Go.Maps

/-- A map of plain elements in block b, of at most n entries, that reads as D. -/
def mapT (P : Program) (k e : TypeId) (b n : Nat) (D : DataW Unit) : Thing where
  is w S := S = (· = b) ∧ w.ownsMap P k (plainElem P e) b n D
  low := by rintro w S ⟨rfl, h⟩ j rfl; exact h.lt
  stay := by
    rintro w w' S T ⟨rfl, h⟩ hf hd
    have hlt := h.lt
    obtain ⟨es, clock, hb, r⟩ := h
    exact ⟨rfl, es, clock, (hf.block b hlt (hd b rfl)).trans hb, r⟩
variable {w0 w : World} {L : List Thing}
theorem Sep.newMap (h : Sep w0 w L) (P : Program) (k e : TypeId) : Sep w0 (w.alloc (.map #[] 0)) (mapT P k e w.heap.size 0 (.map []) :: L) :=
  h.consNew (Fr.alloc _ _) ⟨rfl, World.ownsMap_made w P k _⟩ (fun _ hk => Nat.le_of_eq (Eq.symm hk))
theorem Sep.map {P : Program} {k e : TypeId} {b n : Nat} {D : DataW Unit} (h : Sep w0 w L) (i : Nat) (hi : L[i]? = some (mapT P k e b n D)) : w.ownsMap P k (plainElem P e) b n D := let ⟨_, h⟩ := h.at i hi; h.2
theorem Sep.setMap {P : Program} {k e : TypeId} {b n n' : Nat} {D D' : DataW Unit} {w' : World} (h : Sep w0 w L) (i : Nat) (hi : L[i]? = some (mapT P k e b n D)) (hown : w'.ownsMap P k (plainElem P e) b n' D') (hg : w.grownBy w' (some b)) :
    Sep w0 w' (L.set i (mapT P k e b n' D')) :=
  h.turn i hi (by
    rintro S ⟨rfl, _⟩
    exact ⟨_, ⟨rfl, hown⟩, Turn.of (Fr.grown hg (by rintro k e; cases e; rfl))⟩)

/-- What a store at X leaves. -/
theorem put_at {D : DataW Unit} (hD : IsMap D) (X c : Int) (g g' : Int → Int) (hg : ∀ x, D.atKey (.int .i64 x) (.lit (.int .i64 0)) = .lit (.int .i64 (g x))) (h1 : g' X = c) (h2 : ∀ x, x ≠ X → g' x = g x) (hk : WideAt.IsKeyLit (.int .i64 X)) :
    ∀ x, (D.put (.int .i64 X) (.lit (.int .i64 c))).atKey (.int .i64 x) (.lit (.int .i64 0)) = .lit (.int .i64 (g' x)) := by
  intro x
  by_cases h : x = X
  · subst h
    rw [atKey_put_same hD hk, h1]
  · rw [atKey_put_other (by intro e; injection e with _ e2; exact h e2), hg, h2 x h]
end Go.Mem
