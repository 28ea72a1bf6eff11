/-
  A block that is no block of cells, as a thing in memory. Plain lemmas.
-/
import Derived.Test.YtfafecgnjjkagaaMix3
import Derived.Test.YtfafecgnjjkagaaSeq
namespace Go.Mem
open Go Go.RowKit
/-- A block with this object. -/
def defT (D : Nat) (o : Obj) : Thing where
  is w S := S = (· = D) ∧ w.heap[D]? = some o
  low := by rintro w S ⟨rfl, h⟩ k rfl; exact lt_of h
  stay := by
    rintro w w' S T ⟨rfl, h⟩ hf hd
    exact ⟨rfl, (hf.block D (lt_of h) (hd D rfl)).trans h⟩
theorem Sep.obj_ {w0 w : World} {L : List Thing} {D : Nat} {o : Obj} (h : Sep w0 w L) (i : Nat) (hi : L[i]? = some (defT D o)) : w.heap[D]? = some o := let ⟨_, h⟩ := h.at i hi; h.2
theorem Sep.addObj {w0 w : World} {L : List Thing} {D : Nat} {o : Obj} (h : Sep w0 w L) (hc : ∀ A ∈ L, A.Cells) (ho : w.heap[D]? = some o) (hn : o.isCells = false) (hD : w0.heap.size ≤ D) : Sep w0 w (defT D o :: L) := by
  obtain ⟨Z, rfl, hz⟩ := h.toZ
  have := SepZ.sep (w0 := w0) (w := w) (Z := (defT D o, (· = D)) :: Z) ⟨fun z hz' => ?_, ?_, fun z hz' k hk => ?_, hz.below⟩
  · exact this
  · rcases List.mem_cons.1 hz' with rfl | hz'
    · exact ⟨rfl, ho⟩
    · exact hz.is z hz'
  · refine List.pairwise_cons.2 ⟨fun b hb k hk hk' => ?_, hz.dis⟩
    dsimp only at hk
    subst hk
    obtain ⟨o', h1, h2⟩ := hc b.1 (List.mem_map.2 ⟨b, hb, rfl⟩) w b.2 (hz.is b hb) k hk'
    rw [ho] at h1; cases h1; rw [hn] at h2; cases h2
  · rcases List.mem_cons.1 hz' with rfl | hz'
    · dsimp only at hk; subst hk; exact ⟨hD, lt_of ho⟩
    · exact hz.rng z hz' k hk
theorem fr_putObj (w : World) (D : Nat) (o : Obj) : Fr (· = D) w (w.putObj D o) := Fr.grown (grownBy_putObj' w D o) (fun k hk => by cases hk; rfl)
/-- The block turns. -/
theorem Sep.putD {w0 w : World} {L : List Thing} {D : Nat} {o o' : Obj} (h : Sep w0 w L) (i : Nat) (hi : L[i]? = some (defT D o)) : Sep w0 (w.putObj D o') (L.set i (defT D o')) := by
  refine h.turn i hi (B := defT D o') fun S hS => ?_
  obtain ⟨rfl, hd⟩ := hS
  refine ⟨(· = D), ⟨rfl, ?_⟩, Turn.of (fr_putObj w D o')⟩
  have hlt := lt_of hd
  unfold World.putObj
  simp [hlt]
end Go.Mem
