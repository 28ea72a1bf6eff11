/-
  An object: a block of cells, one of which is a slice of records of its own; as one thing in memory. Plain lemmas.
-/
import Derived.Test.YtjijhpflkkicaaaLA
set_option linter.unusedVariables false
set_option linter.unusedSimpArgs false
namespace Go.Mem
open Go Go.RowKit

section
variable {α : Type} (R : Rec α)
theorem Rec.flat_set : ∀ (xs : List α) (k : Nat) (hk : k < xs.length) (o : Nat) (y : α) (u : Value), o < R.m → R.cells y = (R.cells xs[k]).set o u → R.flat (xs.set k y) = (R.flat xs).set (k * R.m + o) u
  | [], k, hk, _, _, _, _, _ => by simp at hk
  | x :: t, 0, _, o, y, u, ho, hy => by
    simp only [List.set_cons_zero, Rec.flat, List.flatMap_cons, Nat.zero_mul, Nat.zero_add]
    rw [List.set_append_left _ _ (by rw [R.len]; exact ho)]
    simp only [List.getElem_cons_zero] at hy
    rw [hy]
  | x :: t, k + 1, hk, o, y, u, ho, hy => by
    have ih := Rec.flat_set t k (by simpa using hk) o y u ho (by simpa using hy)
    simp only [List.set_cons_succ, Rec.flat, List.flatMap_cons] at ih ⊢
    rw [ih, List.set_append_right _ _ (by rw [R.len, Nat.add_mul]; omega), R.len, show (k + 1) * R.m + o - R.m = k * R.m + o by rw [Nat.add_mul]; omega]
end

section
variable {α : Type} {R : Rec α} {E : TypeId} {w w' : World} {xs : List α} {g n cap : Nat}
theorem ROwn.setField (h : ROwn R E w (.slice (some ⟨g, 0, none⟩) n cap) xs) (k : Nat) (hk : k < xs.length) (o : Nat) (ho : o < R.m) (y : α) (u : Value) (hy : R.cells y = (R.cells xs[k]).set o u) :
    ROwn R E (w.setCell ⟨g, k * R.m + o, none⟩ u) (.slice (some ⟨g, 0, none⟩) n cap) (xs.set k y) := by
  obtain ⟨_, _, e⟩ := h.shape
  injection e with _ e2 _
  subst e2
  unfold ROwn at h ⊢
  rw [List.length_set, R.flat_set xs k hk o y u ho hy]
  exact (World.ownsRow.stored h (k * R.m + o) u).1
theorem cells_put {W : World} {b : Nat} {cs : Array Value} {E : TypeId} {o : Nat} {u : Value} {ds : Array Value} (h : W.heap[b]? = some (.cells cs E (0, 0))) (hd : ds = cs.setIfInBounds o u) :
    (W.setCell ⟨b, o, none⟩ u).heap[b]? = some (.cells ds E (0, 0)) := by
  subst hd
  have hb := (Array.getElem?_eq_some_iff.1 h).1
  rw [Array.getElem?_eq_getElem hb] at h
  simp [World.setCell, hb, Array.getElem_modify, Option.some.inj h]
end

/-- An object in block b: its cells are f of its slice; the slice's elements are the records xs. -/
def objT {α : Type} (R : Rec α) (T E : TypeId) (f : Value → Array Value) (b : Nat) (xs : List α) : Thing where
  is w S := ∃ v, S = (fun k => k = b ∨ Blk v k) ∧ ¬ Blk v b ∧ w.heap[b]? = some (.cells (f v) T (0, 0)) ∧ ROwn R E w v xs
  low := by
    rintro w S ⟨v, rfl, _, hb, ho⟩ k (rfl | hk)
    · exact lt_of hb
    · exact (World.ownsRow.lt ho k hk).2
  stay := by
    rintro w w' S T ⟨v, rfl, hn, hb, ho⟩ hf hd
    exact ⟨v, rfl, hn, (hf.block b (lt_of hb) (hd b (.inl rfl))).trans hb, owns_frame ho hf (fun k hk => hd k (.inr hk))⟩

section
variable {α : Type} {R : Rec α} {T E : TypeId} {f : Value → Array Value} {w0 w : World} {L : List Thing} {b : Nat} {xs : List α} {v : Value}
theorem Sep.setC {w0 w : World} {L : List Thing} {b : Nat} {cs : Array Value} {E : TypeId} (h : Sep w0 w L) (i : Nat) (hi : L[i]? = some (cellsT b cs E)) (o : Nat) (u : Value) (ds : Array Value) (hd : ds = cs.setIfInBounds o u) :
    Sep w0 (w.setCell ⟨b, o, none⟩ u) (L.set i (cellsT b ds E)) :=
  h.turn i hi fun S hS => ⟨_, ⟨rfl, cells_put hS.2 hd⟩, by rw [hS.1]; exact Fr.setCell _ _ _ rfl, fun j hj => .inl (by rw [hS.1]; exact hj)⟩
theorem set_same {L : List Thing} {i : Nat} {A : Thing} (hi : L[i]? = some A) : L.set i A = L := by
  obtain ⟨hlt, he⟩ := List.getElem?_eq_some_iff.1 hi
  rw [← he]; exact List.set_getElem_self _
end
end Go.Mem
