/-
  Many things in memory as one; a thing of which some of its making is not told. Plain lemmas.
-/
import Derived.Test.YthcmkljdhhepgaaLC
set_option linter.unusedVariables false
set_option linter.unusedSimpArgs false
namespace Go.Mem
open Go Go.RowKit
/-- Many things, as one. -/
def packT (M : List Thing) : Thing where
  is w S := ∃ Z : List (Thing × (Nat → Prop)), Z.map (·.1) = M ∧ (∀ z ∈ Z, z.1.is w z.2) ∧ Z.Pairwise (fun a b => ∀ k, a.2 k → ¬ b.2 k) ∧ S = fun k => ∃ z ∈ Z, z.2 k
  low := by
    rintro w S ⟨Z, _, h1, _, rfl⟩ k ⟨z, hz, hk⟩
    exact z.1.low (h1 z hz) k hk
  stay := by
    rintro w w' S T ⟨Z, h0, h1, h2, rfl⟩ hf hd
    exact ⟨Z, h0, fun z hz => z.1.stay (h1 z hz) hf fun k hk => hd k ⟨z, hz, hk⟩, h2, rfl⟩
section
variable {w0 w : World} {L M : List Thing}
theorem Sep.pack (h : Sep w0 w (M ++ L)) : Sep w0 w (packT M :: L) := by
  obtain ⟨Z, hZ, hz⟩ := h.toZ
  obtain ⟨A, B, rfl, hA, hB⟩ := List.map_eq_append_iff.1 hZ
  have hd := List.pairwise_append.1 hz.dis
  have := SepZ.sep (w0 := w0) (w := w) (Z := (packT M, fun k => ∃ z ∈ A, z.2 k) :: B) ⟨fun z hz' => ?_, ?_, fun z hz' k hk => ?_, hz.below⟩
  · rw [List.map_cons, hB] at this
    exact this
  · rcases List.mem_cons.1 hz' with rfl | hz'
    · exact ⟨A, hA, fun z hz1 => hz.is z (List.mem_append_left _ hz1), hd.1, rfl⟩
    · exact hz.is z (List.mem_append_right _ hz')
  · refine List.pairwise_cons.2 ⟨fun z hz' k hk => ?_, hd.2.1⟩
    obtain ⟨y, hy, hk⟩ := hk
    exact hd.2.2 y hy z hz' k hk
  · rcases List.mem_cons.1 hz' with rfl | hz'
    · obtain ⟨y, hy, hk⟩ := hk
      exact hz.rng y (List.mem_append_left _ hy) k hk
    · exact hz.rng z (List.mem_append_right _ hz') k hk
theorem Sep.unpack (h : Sep w0 w (packT M :: L)) : Sep w0 w (M ++ L) := by
  obtain ⟨Z, hZ, hz⟩ := h.toZ
  match Z, hZ with
  | z :: B, hZ =>
    simp only [List.map_cons, List.cons.injEq] at hZ
    obtain ⟨h1, h2⟩ := hZ
    have hs := hz.is z (by simp)
    rw [h1] at hs
    obtain ⟨A, a0, a1, a2, a3⟩ := hs
    have hp := List.pairwise_cons.1 hz.dis
    have := SepZ.sep (w0 := w0) (w := w) (Z := A ++ B) ⟨fun y hy => ?_, List.pairwise_append.2 ⟨a2, hp.2, fun x hx y hy k hk => ?_⟩, fun y hy k hk => ?_, hz.below⟩
    · rw [List.map_append, a0, h2] at this
      exact this
    · rcases List.mem_append.1 hy with hy | hy
      · exact a1 y hy
      · exact hz.is y (List.mem_cons_of_mem _ hy)
    · exact hp.1 y hy k (by rw [a3]; exact ⟨x, hx, hk⟩)
    · rcases List.mem_append.1 hy with hy | hy
      · exact hz.rng z (by simp) k (by rw [a3]; exact ⟨y, hy, hk⟩)
      · exact hz.rng y (List.mem_cons_of_mem _ hy) k hk
theorem perm_front {A : Thing} {i : Nat} (hi : L[i]? = some A) : L.Perm (A :: L.eraseIdx i) := by
  obtain ⟨h1, rfl⟩ := List.getElem?_eq_some_iff.1 hi
  have e : L = L.take i ++ L[i] :: L.drop (i + 1) := by rw [← List.drop_eq_getElem_cons h1, List.take_append_drop]
  rw [List.eraseIdx_eq_take_drop_succ]
  exact (List.Perm.of_eq e).trans List.perm_middle
theorem perm_set {A B : Thing} {i : Nat} (hi : L[i]? = some A) : (B :: L.eraseIdx i).Perm (L.set i B) := by
  have h1 := (List.getElem?_eq_some_iff.1 hi).1
  have h2 : (L.set i B)[i]? = some B := by rw [List.getElem?_set_self h1]
  have := perm_front h2
  rw [List.eraseIdx_set_eq] at this
  exact this.symm
/-- Thing number i to the front .. -/
theorem Sep.front {A : Thing} (h : Sep w0 w L) {i : Nat} (hi : L[i]? = some A) : Sep w0 w (A :: L.eraseIdx i) := h.perm (perm_front hi)
/-- .. and back. -/
theorem Sep.back {A B : Thing} {i : Nat} (h : Sep w0 w (B :: L.eraseIdx i)) (hi : L[i]? = some A) : Sep w0 w (L.set i B) := h.perm (perm_set hi)
/-- One of these. -/
def exT {α : Type} (P : α → Prop) (T : α → Thing) : Thing where
  is w S := ∃ a, P a ∧ (T a).is w S
  low := by rintro w S ⟨a, _, h⟩; exact (T a).low h
  stay := by rintro w w' S U ⟨a, ha, h⟩ hf hd; exact ⟨a, ha, (T a).stay h hf hd⟩
theorem Sep.exIn {α : Type} {P : α → Prop} {T : α → Thing} {a : α} (h : Sep w0 w (T a :: L)) (ha : P a) : Sep w0 w (exT P T :: L) :=
  h.swap 0 rfl fun S hS => ⟨S, ⟨a, ha, hS⟩, fun _ hk => hk⟩
theorem Sep.exOut {α : Type} {P : α → Prop} {T : α → Thing} (h : Sep w0 w (exT P T :: L)) : ∃ a, P a ∧ Sep w0 w (T a :: L) := by
  obtain ⟨Z, hZ, hz⟩ := h.toZ
  match Z, hZ with
  | z :: B, hZ =>
    simp only [List.map_cons, List.cons.injEq] at hZ
    obtain ⟨h1, h2⟩ := hZ
    have hs := hz.is z (by simp)
    rw [h1] at hs
    obtain ⟨a, ha, h3⟩ := hs
    have hp := List.pairwise_cons.1 hz.dis
    have := SepZ.sep (w0 := w0) (w := w) (Z := (T a, z.2) :: B) ⟨fun y hy => ?_, List.pairwise_cons.2 ⟨fun y hy => hp.1 y hy, hp.2⟩, fun y hy k hk => ?_, hz.below⟩
    · rw [List.map_cons, h2] at this
      exact ⟨a, ha, this⟩
    · rcases List.mem_cons.1 hy with rfl | hy
      · exact h3
      · exact hz.is y (List.mem_cons_of_mem _ hy)
    · rcases List.mem_cons.1 hy with rfl | hy
      · exact hz.rng z (by simp) k hk
      · exact hz.rng y (List.mem_cons_of_mem _ hy) k hk
/-- Some of them. -/
theorem Sep.sub {L' : List Thing} (h : Sep w0 w L) (p : L'.Sublist L) : Sep w0 w L' := by
  obtain ⟨Z, rfl, hz⟩ := h.toZ
  obtain ⟨Z', hp, rfl⟩ := List.sublist_map_iff.1 p
  exact SepZ.sep ⟨fun z h => hz.is z (hp.subset h), hz.dis.sublist hp, fun z h => hz.rng z (hp.subset h), hz.below⟩
end
end Go.Mem
