/-
  Arrays by value: a block that is read and written as one. Plain lemmas.
-/
import Derived.Test.YthcmkljdhhepgaaLA
import Derived.Test.YthcmkljdhhepgaaObj
import Derived.Test.YthcmkljdhhepgaaWn
import Derived.Deep.MidRow
set_option linter.unusedVariables false
set_option linter.unusedSimpArgs false
namespace Go.Mem
open Go Go.RowKit
/-- A goal at which the walk stands still. -/
structure Stop (p : Prop) : Prop where
  out : p
theorem heap_setCells {b : Nat} {E : TypeId} : ∀ (vs : List Value) (o : Nat) (w : World) (A : Array Value), w.heap[b]? = some (.cells A E (0, 0)) → ∃ A', (w.setCells b o vs).heap[b]? = some (.cells A' E (0, 0)) ∧ A'.size = A.size
  | [], _, _, A, h => ⟨A, h, rfl⟩
  | v :: r, o, w, A, h => by
    obtain ⟨A', h1, h2⟩ := heap_setCells r (o + 1) (w.setCell ⟨b, o, none⟩ v) _ (cells_put (o := o) (u := v) h rfl)
    exact ⟨A', h1, by simpa using h2⟩
theorem there_of {w : World} {b : Nat} {E : TypeId} {A : Array Value} (h : w.heap[b]? = some (.cells A E (0, 0))) : w.there b 0 A.size := fun j hj => by
  rw [Nat.zero_add, cell_of h, frozen_of h, Array.getElem?_eq_getElem hj]
  exact ⟨rfl, rfl⟩
theorem range_of {w : World} {b : Nat} {E : TypeId} {cs : List Value} (h : w.heap[b]? = some (.cells cs.toArray E (0, 0))) : w.rangeAt b 0 cs := fun j v hv => by
  rw [Nat.zero_add, cell_of h, List.getElem?_toArray]; exact hv
/-- A block stored whole. -/
theorem Sep.setAll {w0 w : World} {L : List Thing} {b : Nat} {E : TypeId} {A : Array Value} (h : Sep w0 w L) (i : Nat) (hi : L[i]? = some (cellsT b A E)) (cs : List Value) (hl : cs.length = A.size) :
    Sep w0 (w.setCells b 0 cs) (L.set i (cellsT b cs.toArray E)) := by
  refine h.turn i hi fun S hS => ⟨_, ⟨rfl, ?_⟩, by rw [hS.1]; exact Fr.setCells b cs 0 w, fun j hj => .inl (by rw [hS.1]; exact hj)⟩
  obtain ⟨A', h1, h2⟩ := heap_setCells cs 0 w A hS.2
  have h3 : A' = cs.toArray := by
    refine Array.ext (by simp; omega) fun j hj1 hj2 => ?_
    have hj : j < cs.length := by simpa using hj2
    have e1 := World.cell?_setCells_in b cs 0 w (fun q hq => (there_of hS.2 q (by omega)).1) j hj
    rw [Nat.zero_add, cell_of h1, Array.getElem?_eq_getElem hj1] at e1
    simpa using e1
  rw [← h3]; exact h1
/-- The cells of an array of numbers. -/
def tabV (k : IntKind) (Z : List Int) : List Value := Z.map (.int k)
theorem tabV_len (k : IntKind) (Z : List Int) : (tabV k Z).length = Z.length := by simp [tabV]
theorem tabV_one (k : IntKind) (Z : List Int) : (tabV k Z).toArray.all (·.oneCell') = true := by
  refine all_oneCell_toArray fun v hv => ?_
  obtain ⟨x, _, rfl⟩ := List.mem_map.1 hv
  rfl
theorem tabV_set (k : IntKind) (Z : List Int) (j : Nat) (x : Int) : (tabV k (Z.set j x)).toArray = (tabV k Z).toArray.setIfInBounds j (.int k x) := by
  unfold tabV
  rw [List.map_set]; simp
/-- An array of numbers in a block of its own. -/
abbrev tabT (k : IntKind) (b : Nat) (E : TypeId) (Z : List Int) : Thing := cellsT b (tabV k Z).toArray E
section
variable {w0 w : World} {L : List Thing} {b : Nat} {E : TypeId} {k : IntKind} {Z : List Int}
theorem Sep.tabAt (h : Sep w0 w L) (i : Nat) (hi : L[i]? = some (tabT k b E Z)) (j : Nat) (hj : j < Z.length) : w.cell? ⟨b, j, none⟩ = some (.int k (Z.getD j 0)) ∧ w.frozen? ⟨b, j, none⟩ = false := by
  have hb := h.cells i hi
  refine ⟨?_, frozen_of hb j⟩
  rw [cell_of hb, List.getElem?_toArray]
  unfold tabV
  rw [List.getElem?_map, List.getElem?_eq_getElem hj, List.getD_eq_getElem?_getD, List.getElem?_eq_getElem hj]; rfl
theorem Sep.tabSet (h : Sep w0 w L) (i : Nat) (hi : L[i]? = some (tabT k b E Z)) (j : Nat) (x : Int) : Sep w0 (w.setCell ⟨b, j, none⟩ (.int k x)) (L.set i (tabT k b E (Z.set j x))) :=
  h.setC i hi j (.int k x) _ (tabV_set k Z j x)
theorem Sep.tabStore (h : Sep w0 w L) (i : Nat) {Y : List Int} (hi : L[i]? = some (tabT k b E Y)) (hl : Z.length = Y.length) : Sep w0 (w.setCells b 0 (tabV k Z)) (L.set i (tabT k b E Z)) :=
  h.setAll i hi _ (by simp [tabV, hl])
end
end Go.Mem
