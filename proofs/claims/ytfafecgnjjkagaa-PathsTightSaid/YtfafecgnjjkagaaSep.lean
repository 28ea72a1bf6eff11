/-
  Things in memory, each in blocks of its own: what a call does to one leaves the others as they were. Plain lemmas.
-/
import Derived.Test.YtfafecgnjjkagaaOwn
namespace Go.Mem
open Go Go.RowKit

/-- What a call may have done to the blocks of S: they have turned into S'. -/
structure Turn (S S' : Nat → Prop) (w w' : World) : Prop where
  fr : Fr S w w'
  new : ∀ j, S' j → S j ∨ w.heap.size ≤ j
theorem Turn.refl {S : Nat → Prop} (w : World) : Turn S S w w := ⟨Fr.refl _ _, fun _ h => .inl h⟩
theorem Turn.trans {S S' S'' : Nat → Prop} {a b c : World} (h : Turn S S' a b) (k : Turn S' S'' b c) : Turn S S'' a c :=
  ⟨h.fr.trans k.fr (fun i hi hs => (h.new i hs).elim id (fun h' => by omega)), fun j hj => by
    rcases k.new j hj with h1 | h1
    · exact h.new j h1
    · have := h.fr.size; exact .inr (by omega)⟩
theorem Turn.of {S : Nat → Prop} {a b : World} (h : Fr S a b) : Turn S S a b := ⟨h, fun _ h => .inl h⟩

/-- A thing in memory: whether it is there, in these blocks. It stays while its blocks stay. -/
structure Thing where
  is : World → (Nat → Prop) → Prop
  low : ∀ {w S}, is w S → ∀ k, S k → k < w.heap.size
  stay : ∀ {w w' S T}, is w S → Fr T w w' → (∀ k, S k → ¬ T k) → is w' S

/-- These things are there, each in blocks of its own that were not there at w0; and what was there at w0 is as it was. -/
def Sep (w0 w : World) (L : List Thing) : Prop :=
  ∃ Ss : List (Nat → Prop), Ss.length = L.length ∧ (∀ (i : Nat) A S, L[i]? = some A → Ss[i]? = some S → A.is w S) ∧ Parts w0 w Ss

section
variable {w0 w w' : World} {L : List Thing} {A B : Thing}
theorem Sep.start (w : World) : Sep w w [] := ⟨[], rfl, fun i _ _ h => by simp at h, Parts.nil w⟩
theorem Sep.below (h : Sep w0 w L) : Below w0.heap.size w0 w := let ⟨_, _, _, p⟩ := h; p.below
theorem Sep.size (h : Sep w0 w L) : w0.heap.size ≤ w.heap.size := h.below.size
theorem Sep.at (h : Sep w0 w L) (i : Nat) (hi : L[i]? = some A) : ∃ S, A.is w S := by
  obtain ⟨Ss, hl, ha, p⟩ := h
  have hil : i < Ss.length := by rw [hl]; exact (List.getElem?_eq_some_iff.1 hi).1
  exact ⟨Ss[i], ha i A _ hi (by simp [hil])⟩
theorem Sep.turn (h : Sep w0 w L) (i : Nat) (hi : L[i]? = some A) (hB : ∀ S, A.is w S → ∃ S', B.is w' S' ∧ Turn S S' w w') : Sep w0 w' (L.set i B) := by
  obtain ⟨Ss, hl, ha, p⟩ := h
  have hil : i < Ss.length := by rw [hl]; exact (List.getElem?_eq_some_iff.1 hi).1
  have hSi : Ss[i]? = some Ss[i] := by simp [hil]
  obtain ⟨S', hB', ht⟩ := hB _ (ha i A _ hi hSi)
  refine ⟨Ss.set i S', by simp [hl], fun j C T hC hT => ?_, p.step i hSi ht.fr ht.new (B.low hB')⟩
  by_cases hj : j = i
  · subst hj
    simp [hil, (List.getElem?_eq_some_iff.1 hi).1] at hC hT
    subst hC; subst hT; exact hB'
  · rw [List.getElem?_set_ne (fun e => hj e.symm)] at hC hT
    exact C.stay (ha j C T hC hT) ht.fr (p.dis j i T _ hT hSi hj)
theorem Sep.use (h : Sep w0 w L) (i : Nat) (hi : L[i]? = some A) : ∃ S, A.is w S ∧ ∀ w' B S', Thing.is B w' S' → Turn S S' w w' → Sep w0 w' (L.set i B) := by
  obtain ⟨Ss, hl, ha, p⟩ := h
  have hil : i < Ss.length := by rw [hl]; exact (List.getElem?_eq_some_iff.1 hi).1
  have hSi : Ss[i]? = some Ss[i] := by simp [hil]
  refine ⟨Ss[i], ha i A _ hi hSi, fun w' B S' hB' ht => ⟨Ss.set i S', by simp [hl], fun j C T hC hT => ?_, p.step i hSi ht.fr ht.new (B.low hB')⟩⟩
  by_cases hj : j = i
  · subst hj
    simp [hil, (List.getElem?_eq_some_iff.1 hi).1] at hC hT
    subst hC; subst hT; exact hB'
  · rw [List.getElem?_set_ne (fun e => hj e.symm)] at hC hT
    exact C.stay (ha j C T hC hT) ht.fr (p.dis j i T _ hT hSi hj)
theorem Sep.still (h : Sep w0 w L) (hf : Fr (fun _ => False) w w') : Sep w0 w' L := by
  obtain ⟨Ss, hl, ha, p⟩ := h
  exact ⟨Ss, hl, fun j C T hC hT => C.stay (ha j C T hC hT) hf (fun _ _ h => h), p.still hf⟩
theorem Sep.belowStep (h : Sep w0 w L) (hb : Below w.heap.size w w') : Sep w0 w' L := h.still (Fr.below hb)
theorem Sep.drew (h : Sep w0 w L) : Sep w0 w.drew L := h.still (Fr.drew _)
theorem Sep.drewN (h : Sep w0 w L) (m : Nat) : Sep w0 (w.drewN m) L := h.still (Fr.drewN _ _)
theorem Sep.alloc (h : Sep w0 w L) (o : Obj) : Sep w0 (w.alloc o) L := h.still (Fr.alloc _ _)
theorem Sep.consNew (h : Sep w0 w L) (hf : Fr (fun _ => False) w w') {S : Nat → Prop} (hB : B.is w' S) (hn : ∀ k, S k → w.heap.size ≤ k) : Sep w0 w' (B :: L) := by
  obtain ⟨Ss, hl, ha, p⟩ := h
  refine ⟨S :: Ss, by simp [hl], fun j C T hC hT => ?_, p.add hf (fun k hk => ⟨hn k hk, B.low hB k hk⟩)⟩
  match j, hC, hT with
  | 0, hC, hT => simp at hC hT; subst hC; subst hT; exact hB
  | j + 1, hC, hT => exact C.stay (ha j C T (by simpa using hC) (by simpa using hT)) hf (fun _ _ h => h)
/-- A thing more, in new blocks. -/
theorem Sep.new (h : Sep w0 w L) (hb : Below w.heap.size w w') {S : Nat → Prop} (hB : B.is w' S) (hn : ∀ k, S k → w.heap.size ≤ k) : Sep w0 w' (B :: L) := h.consNew (Fr.below hb) hB hn
/-- A thing that has no block. -/
theorem Sep.bare (h : Sep w0 w L) (hB : B.is w (fun _ => False)) : Sep w0 w (B :: L) := h.consNew (Fr.refl _ _) hB (fun _ h => h.elim)
theorem Sep.swap (h : Sep w0 w L) (i : Nat) (hi : L[i]? = some A) (hB : ∀ S, A.is w S → ∃ S', B.is w S' ∧ ∀ k, S' k → S k) : Sep w0 w (L.set i B) :=
  h.turn i hi fun S hS => let ⟨S', h1, h2⟩ := hB S hS; ⟨S', h1, Fr.refl _ _, fun k hk => .inl (h2 k hk)⟩
theorem Sep.tail (h : Sep w0 w (A :: L)) : Sep w0 w L := by
  obtain ⟨Ss, hl, ha, p⟩ := h
  match Ss, hl with
  | S :: Ss, hl =>
    refine ⟨Ss, by simpa using hl, fun j C T hC hT => ha (j + 1) C T (by simpa using hC) (by simpa using hT), fun i j C D hC hD hne => p.dis (i + 1) (j + 1) C D (by simpa using hC) (by simpa using hD) (by omega), fun i C hC => p.rng (i + 1) C (by simpa using hC), p.below⟩
/-- The first ones alone. -/
theorem Sep.takeN (h : Sep w0 w L) (n : Nat) : Sep w0 w (L.take n) := by
  obtain ⟨Ss, hl, ha, p⟩ := h
  have look : ∀ {α : Type _} (l : List α) (j : Nat) (x : α), (l.take n)[j]? = some x → l[j]? = some x := by
    intro α l j x hx
    rw [List.getElem?_take] at hx
    split at hx
    · exact hx
    · cases hx
  exact ⟨Ss.take n, by simp [hl], fun j C T hC hT => ha j C T (look _ _ _ hC) (look _ _ _ hT), fun i j C D hC hD hne => p.dis i j C D (look _ _ _ hC) (look _ _ _ hD) hne, fun i C hC => p.rng i C (look _ _ _ hC), p.below⟩
/-- Two of them are apart. -/
theorem Sep.apart (h : Sep w0 w L) (i j : Nat) (hi : L[i]? = some A) (hj : L[j]? = some B) (hne : i ≠ j) : ∃ S T, A.is w S ∧ B.is w T ∧ ∀ k, S k → ¬ T k := by
  obtain ⟨Ss, hl, ha, p⟩ := h
  have hil : i < Ss.length := by rw [hl]; exact (List.getElem?_eq_some_iff.1 hi).1
  have hjl : j < Ss.length := by rw [hl]; exact (List.getElem?_eq_some_iff.1 hj).1
  exact ⟨Ss[i], Ss[j], ha i A _ hi (by simp [hil]), ha j B _ hj (by simp [hjl]), p.dis i j _ _ (by simp [hil]) (by simp [hjl]) hne⟩
theorem Sep.fresh (h : Sep w0 w L) (i : Nat) (hi : L[i]? = some A) : ∃ S, A.is w S ∧ ∀ k, S k → w0.heap.size ≤ k := by
  obtain ⟨Ss, hl, ha, p⟩ := h
  have hil : i < Ss.length := by rw [hl]; exact (List.getElem?_eq_some_iff.1 hi).1
  exact ⟨Ss[i], ha i A _ hi (by simp [hil]), fun k hk => (p.rng i _ (by simp [hil]) k hk).1⟩
/-- Whatever was there when things began reads as it did. -/
theorem Sep.cell (h : Sep w0 w L) {b o : Nat} (hb : b < w0.heap.size) : w.cell? ⟨b, o, none⟩ = w0.cell? ⟨b, o, none⟩ := h.below.cell (p := ⟨b, o, none⟩) hb
end

/-- One block of cells, known whole. -/
def cellsT (b : Nat) (cs : Array Value) (E : TypeId) : Thing where
  is w S := S = (· = b) ∧ w.heap[b]? = some (.cells cs E (0, 0))
  low := by rintro w S ⟨rfl, h⟩ k rfl; exact lt_of h
  stay := by rintro w w' S T ⟨rfl, h⟩ hf hd; exact ⟨rfl, (hf.block b (lt_of h) (hd b rfl)).trans h⟩
/-- A row of integers that the call owns. -/
def intsT (k : IntKind) (E : TypeId) (v : Value) (zs : List Int) : Thing where
  is w S := S = Blk v ∧ IOwn k E w v zs
  low := by rintro w S ⟨rfl, h⟩ j hj; exact h.low j hj
  stay := by rintro w w' S T ⟨rfl, h⟩ hf hd; exact ⟨rfl, h.frame hf hd⟩
/-- A row of cells that the call owns: 'n' elements of type E, of 'size' cells each. -/
def rowT (E : TypeId) (size : Nat) (v : Value) (n : Nat) (xs : List Value) : Thing where
  is w S := S = Blk v ∧ w.ownsRow 0 E size v n xs
  low := by rintro w S ⟨rfl, h⟩ j hj; exact (World.ownsRow.lt h j hj).2
  stay := by rintro w w' S T ⟨rfl, h⟩ hf hd; exact ⟨rfl, owns_frame h hf hd⟩

section
variable {w0 w w' : World} {L : List Thing}
theorem Sep.nilInts (h : Sep w0 w L) (k : IntKind) (E : TypeId) : Sep w0 w (intsT k E (.slice none 0 0) [] :: L) :=
  h.bare ⟨funext fun j => by simp [Blk, Value.ownBlock], IOwn.nil k E w⟩
theorem Sep.ints {k : IntKind} {E : TypeId} {v : Value} {zs : List Int} (h : Sep w0 w L) (i : Nat) (hi : L[i]? = some (intsT k E v zs)) : IOwn k E w v zs := let ⟨_, h⟩ := h.at i hi; h.2
theorem Sep.row {E : TypeId} {size n : Nat} {v : Value} {xs : List Value} (h : Sep w0 w L) (i : Nat) (hi : L[i]? = some (rowT E size v n xs)) : w.ownsRow 0 E size v n xs := let ⟨_, h⟩ := h.at i hi; h.2
theorem Sep.cells {b : Nat} {cs : Array Value} {E : TypeId} (h : Sep w0 w L) (i : Nat) (hi : L[i]? = some (cellsT b cs E)) : w.heap[b]? = some (.cells cs E (0, 0)) := let ⟨_, h⟩ := h.at i hi; h.2
theorem Sep.appInts {k : IntKind} {E : TypeId} {v v' : Value} {zs : List Int} {x : Int} (h : Sep w0 w L) (i : Nat) (hi : L[i]? = some (intsT k E v zs)) {n : Nat} (hn : n = zs.length)
    (hA : Appended w w' E 1 v v' (n + 1) (zs.map (Value.int k) ++ [.int k x])) : Sep w0 w' (L.set i (intsT k E v' (zs ++ [x]))) :=
  h.turn i hi fun S hS => ⟨Blk v', ⟨rfl, IOwn.app n x hn hA⟩, by rw [hS.1]; exact hA.fr, by rw [hS.1]; exact hA.block⟩
theorem Sep.appRow {E : TypeId} {size n m : Nat} {v v' : Value} {xs ys : List Value} (h : Sep w0 w L) (i : Nat) (hi : L[i]? = some (rowT E size v n xs))
    (hA : Appended w w' E size v v' m ys) : Sep w0 w' (L.set i (rowT E size v' m ys)) :=
  h.turn i hi fun S hS => ⟨Blk v', ⟨rfl, hA.own⟩, by rw [hS.1]; exact hA.fr, by rw [hS.1]; exact hA.block⟩
theorem Sep.newCells (h : Sep w0 w L) (cs : Array Value) (E : TypeId) : Sep w0 (w.alloc (.cells cs E)) (cellsT w.heap.size cs E :: L) :=
  h.consNew (Fr.alloc _ _) ⟨rfl, heap_alloc_new w _⟩ (fun _ hk => Nat.le_of_eq (Eq.symm hk))
end
end Go.Mem
