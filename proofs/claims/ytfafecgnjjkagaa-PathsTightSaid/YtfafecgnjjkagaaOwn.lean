/-
  Several things in memory, each in blocks of its own, apart from one another and from all that was there when the call began. And rows of integers that the call owns.
-/
import Derived.Test.YtfafecgnjjkagaaMem
namespace Go.Mem
open Go Go.RowKit

structure Parts (w0 w : World) (L : List (Nat → Prop)) : Prop where
  dis : ∀ (i j : Nat) (A B : Nat → Prop), L[i]? = some A → L[j]? = some B → i ≠ j → ∀ k, A k → ¬ B k
  rng : ∀ (i : Nat) (A : Nat → Prop), L[i]? = some A → ∀ k, A k → w0.heap.size ≤ k ∧ k < w.heap.size
  below : Below w0.heap.size w0 w

section
variable {w0 w w' : World} {L : List (Nat → Prop)} {A A' B : Nat → Prop}
theorem Parts.nil (w0 : World) : Parts w0 w0 [] := ⟨fun i _ _ _ h => by simp at h, fun i _ h => by simp at h, Below.refl _ _⟩
theorem Parts.start (h : Below w0.heap.size w0 w) : Parts w0 w [] := ⟨fun i _ _ _ h => by simp at h, fun i _ h => by simp at h, h⟩

/-- Thing number i turns its own blocks, and may take new ones. -/
theorem Parts.step (P : Parts w0 w L) (i : Nat) (hi : L[i]? = some A) (hf : Fr A w w') (hn : ∀ j, A' j → A j ∨ w.heap.size ≤ j) (ht : ∀ j, A' j → j < w'.heap.size) : Parts w0 w' (L.set i A') := by
  have hil : i < L.length := (List.getElem?_eq_some_iff.1 hi).1
  have look : ∀ j C, (L.set i A')[j]? = some C → (j = i ∧ C = A') ∨ (j ≠ i ∧ L[j]? = some C) := by
    intro j C h
    by_cases hj : j = i
    · subst hj; simp [hil] at h; exact .inl ⟨rfl, h.symm⟩
    · rw [List.getElem?_set_ne (fun e => hj e.symm)] at h; exact .inr ⟨hj, h⟩
  refine ⟨fun j k C D hC hD hne b hb hb2 => ?_, fun j C hC b hb => ?_, P.below.trans (hf.toBelow _ (fun b hb hA => ?_) P.below.size)⟩
  · rcases look j C hC with ⟨rfl, rfl⟩ | ⟨h1, h2⟩ <;> rcases look k D hD with ⟨rfl, rfl⟩ | ⟨h3, h4⟩
    · exact hne rfl
    · rcases hn b hb with h | h
      · exact P.dis j k A D hi h4 hne b h hb2
      · have := (P.rng k D h4 b hb2).2; omega
    · rcases hn b hb2 with h | h
      · exact P.dis j k C A h2 hi hne b hb h
      · have := (P.rng j C h2 b hb).2; omega
    · exact P.dis j k C D h2 h4 hne b hb hb2
  · rcases look j C hC with ⟨rfl, rfl⟩ | ⟨h1, h2⟩
    · refine ⟨?_, ht b hb⟩
      rcases hn b hb with h | h
      · exact (P.rng j A hi b h).1
      · have := P.below.size; omega
    · have := P.rng j C h2 b hb; exact ⟨this.1, Nat.lt_of_lt_of_le this.2 hf.size⟩
  · have := (P.rng i A hi b hA).1; omega

/-- One thing more, in new blocks. -/
theorem Parts.add (P : Parts w0 w L) (hf : Fr (fun _ => False) w w') (hn : ∀ j, A j → w.heap.size ≤ j ∧ j < w'.heap.size) : Parts w0 w' (A :: L) := by
  refine ⟨fun j k C D hC hD hne b hb hb2 => ?_, fun j C hC b hb => ?_, P.below.trans (hf.toBelow _ (fun _ _ h => h) P.below.size)⟩
  · match j, k, hC, hD, hne with
    | 0, 0, _, _, hne => exact hne rfl
    | 0, k + 1, hC, hD, _ =>
      simp only [List.getElem?_cons_zero, Option.some.injEq, List.getElem?_cons_succ] at hC hD
      subst hC
      have h1 := hn b hb; have h2 := P.rng k D hD b hb2; omega
    | j + 1, 0, hC, hD, _ =>
      simp only [List.getElem?_cons_zero, Option.some.injEq, List.getElem?_cons_succ] at hC hD
      subst hD
      have h1 := hn b hb2; have h2 := P.rng j C hC b hb; omega
    | j + 1, k + 1, hC, hD, hne => exact P.dis j k C D (by simpa using hC) (by simpa using hD) (fun e => hne (by rw [e])) b hb hb2
  · match j, hC with
    | 0, hC =>
      simp only [List.getElem?_cons_zero, Option.some.injEq] at hC
      subst hC
      have h1 := hn b hb; have := P.below.size; exact ⟨by omega, h1.2⟩
    | j + 1, hC => have := P.rng j C (by simpa using hC) b hb; exact ⟨this.1, Nat.lt_of_lt_of_le this.2 hf.size⟩

theorem Parts.still (P : Parts w0 w L) (hf : Fr (fun _ => False) w w') : Parts w0 w' L :=
  ⟨P.dis, fun i C h b hb => ⟨(P.rng i C h b hb).1, Nat.lt_of_lt_of_le (P.rng i C h b hb).2 hf.size⟩, P.below.trans (hf.toBelow _ (fun _ _ h => h) P.below.size)⟩
/-- What is one thing's is not another's. -/
theorem Parts.ne (P : Parts w0 w L) (i j : Nat) (hi : L[i]? = some A) (hj : L[j]? = some B) (hne : i ≠ j) : ∀ k, A k → ¬ B k := P.dis i j A B hi hj hne
end

/-- The block of a slice value. -/
def Blk (v : Value) : Nat → Prop := fun k => v.ownBlock = some k

/-- A row of integers that the call owns: nil, or in a block of its own. -/
def IOwn (k : IntKind) (E : TypeId) (w : World) (v : Value) (zs : List Int) : Prop := w.ownsRow 0 E 1 v zs.length (zs.map (Value.int k))
section
variable {k : IntKind} {E : TypeId} {w w' : World} {v v' : Value} {zs : List Int}
theorem IOwn.nil (k : IntKind) (E : TypeId) (w : World) : IOwn k E w (.slice none 0 0) [] := World.ownsRow_nil w 0 E 1
theorem IOwn.shape (h : IOwn k E w v zs) : ∃ a cap, v = .slice a zs.length cap := by
  rcases h.2 with ⟨rfl, h0⟩ | ⟨g, cap, _, rfl, _⟩
  · exact ⟨none, 0, by rw [h0]⟩
  · exact ⟨_, _, rfl⟩
theorem IOwn.get (h : IOwn k E w v zs) (i : Nat) (hi : i < zs.length) :
    ∃ g cap, v = .slice (some ⟨g, 0, none⟩) zs.length cap ∧ g < w.heap.size ∧ (∀ j, j < zs.length → w.cell? ⟨g, j, none⟩ = some (.int k (zs.getD j 0))) ∧ (∀ j, w.frozen? ⟨g, j, none⟩ = false) := by
  rcases h.2 with ⟨rfl, h0⟩ | ⟨g, cap, cur, rfl, hb, hg, rest⟩
  · omega
  · refine ⟨g, cap, rfl, lt_of hg, fun j hj => ?_, fun j => frozen_of hg j⟩
    have h' : w.ownsRow 0 E 1 (.slice (some ⟨g, 0, none⟩) zs.length cap) zs.length (zs.map (Value.int k)) := h
    rw [h'.cellAt j (by omega)]
    simp [hj]
theorem IOwn.frame {S : Nat → Prop} (h : IOwn k E w v zs) (hf : Fr S w w') (hS : ∀ g, Blk v g → ¬ S g) : IOwn k E w' v zs := owns_frame h hf hS
theorem IOwn.low (h : IOwn k E w v zs) : ∀ g, Blk v g → g < w.heap.size := fun g hg => (World.ownsRow.lt h g hg).2
theorem IOwn.app (n : Nat) (x : Int) (hn : n = zs.length) (hA : Appended w w' E 1 v v' (n + 1) (zs.map (Value.int k) ++ [.int k x])) : IOwn k E w' v' (zs ++ [x]) := by
  subst hn
  unfold IOwn
  simpa using hA.own
end
end Go.Mem
