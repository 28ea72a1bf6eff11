/-
  An object: a block of cells, one of which is a slice of records of its own; as one thing in memory. Plain lemmas.
-/
import Derived.Test.YthcmkljdhhepgaaLA
set_option linter.unusedVariables false
set_option linter.unusedSimpArgs false
namespace Go.Mem
open Go Go.RowKit

theorem Parts.fuse {w0 w : World} {A B : Nat → Prop} {L : List (Nat → Prop)} (h : Parts w0 w (A :: B :: L)) : Parts w0 w ((fun k => A k ∨ B k) :: L) := by
  refine ⟨fun i j C D hC hD hne k hk hk2 => ?_, fun i C hC k hk => ?_, h.below⟩
  · match i, j, hC, hD, hne with
    | 0, 0, _, _, hne => exact hne rfl
    | 0, j + 1, hC, hD, _ =>
      simp only [List.getElem?_cons_zero, Option.some.injEq, List.getElem?_cons_succ] at hC hD
      subst hC
      rcases hk with hk | hk
      · exact h.dis 0 (j + 2) A D rfl (by simpa using hD) (by omega) k hk hk2
      · exact h.dis 1 (j + 2) B D rfl (by simpa using hD) (by omega) k hk hk2
    | i + 1, 0, hC, hD, _ =>
      simp only [List.getElem?_cons_zero, Option.some.injEq, List.getElem?_cons_succ] at hC hD
      subst hD
      rcases hk2 with hk2 | hk2
      · exact h.dis (i + 2) 0 C A (by simpa using hC) rfl (by omega) k hk hk2
      · exact h.dis (i + 2) 1 C B (by simpa using hC) rfl (by omega) k hk hk2
    | i + 1, j + 1, hC, hD, hne =>
      exact h.dis (i + 2) (j + 2) C D (by simpa using hC) (by simpa using hD) (by omega) k hk hk2
  · match i, hC with
    | 0, hC =>
      simp only [List.getElem?_cons_zero, Option.some.injEq] at hC
      subst hC
      rcases hk with hk | hk
      · exact h.rng 0 A rfl k hk
      · exact h.rng 1 B rfl k hk
    | i + 1, hC => exact h.rng (i + 2) C (by simpa using hC) k hk

section
variable {α : Type} (R : Rec α)
theorem Rec.flat_set : ∀ (xs : List α) (k : Nat) (hk : k < xs.length) (o : Nat) (y : α) (u : Value), o < R.m → R.cells y = (R.cells xs[k]).set o u → R.flat (xs.set k y) = (R.flat xs).set (k * R.m + o) u
  | [], k, hk, _, _, _, _, _ => by simp at hk
  | x :: t, 0, _, o, y, u, ho, hy => by
    simp only [List.set_cons_zero, Rec.flat, List.flatMap_cons, Nat.zero_mul, Nat.zero_add]
    rw [List.set_append_left _ _ (by rw [R.len]; exact ho)]
    simp only [List.getElem_cons_zero] at hy
    rw [hy]
  | x :: t, k + 1, hk, o, y, u, ho, hy => by
    have ih := Rec.flat_set t k (by simpa using hk) o y u ho (by simpa using hy)
    simp only [List.set_cons_succ, Rec.flat, List.flatMap_cons] at ih ⊢
    rw [ih, List.set_append_right _ _ (by rw [R.len, Nat.add_mul]; omega), R.len, show (k + 1) * R.m + o - R.m = k * R.m + o by rw [Nat.add_mul]; omega]
end

section
variable {α : Type} {R : Rec α} {E : TypeId} {w w' : World} {xs : List α} {g n cap : Nat}
theorem ROwn.setField (h : ROwn R E w (.slice (some ⟨g, 0, none⟩) n cap) xs) (k : Nat) (hk : k < xs.length) (o : Nat) (ho : o < R.m) (y : α) (u : Value) (hy : R.cells y = (R.cells xs[k]).set o u) :
    ROwn R E (w.setCell ⟨g, k * R.m + o, none⟩ u) (.slice (some ⟨g, 0, none⟩) n cap) (xs.set k y) := by
  obtain ⟨_, _, e⟩ := h.shape
  injection e with _ e2 _
  subst e2
  unfold ROwn at h ⊢
  rw [List.length_set, R.flat_set xs k hk o y u ho hy]
  exact (World.ownsRow.stored h (k * R.m + o) u).1
theorem cells_put {W : World} {b : Nat} {cs : Array Value} {E : TypeId} {o : Nat} {u : Value} {ds : Array Value} (h : W.heap[b]? = some (.cells cs E (0, 0))) (hd : ds = cs.setIfInBounds o u) :
    (W.setCell ⟨b, o, none⟩ u).heap[b]? = some (.cells ds E (0, 0)) := by
  subst hd
  have hb := (Array.getElem?_eq_some_iff.1 h).1
  rw [Array.getElem?_eq_getElem hb] at h
  simp [World.setCell, hb, Array.getElem_modify, Option.some.inj h]
end

/-- An object in block b: its cells are f of its slice; the slice's elements are the records xs. -/
def objT {α : Type} (R : Rec α) (T E : TypeId) (f : Value → Array Value) (b : Nat) (xs : List α) : Thing where
  is w S := ∃ v, S = (fun k => k = b ∨ Blk v k) ∧ ¬ Blk v b ∧ w.heap[b]? = some (.cells (f v) T (0, 0)) ∧ ROwn R E w v xs
  low := by
    rintro w S ⟨v, rfl, _, hb, ho⟩ k (rfl | hk)
    · exact lt_of hb
    · exact (World.ownsRow.lt ho k hk).2
  stay := by
    rintro w w' S T ⟨v, rfl, hn, hb, ho⟩ hf hd
    exact ⟨v, rfl, hn, (hf.block b (lt_of hb) (hd b (.inl rfl))).trans hb, owns_frame ho hf (fun k hk => hd k (.inr hk))⟩

section
variable {α : Type} {R : Rec α} {T E : TypeId} {f : Value → Array Value} {w0 w : World} {L : List Thing} {b : Nat} {xs : List α} {v : Value}
theorem Sep.objNew (h : Sep w0 w (cellsT b (f v) T :: recT R E v xs :: L)) : Sep w0 w (objT R T E f b xs :: L) := by
  obtain ⟨Ss, hl, ha, p⟩ := h
  match Ss, hl with
  | S0 :: S1 :: Ss, hl =>
    have h0 := ha 0 _ _ rfl rfl
    have h1 := ha 1 _ _ rfl rfl
    obtain ⟨e0, hb⟩ := h0
    obtain ⟨e1, ho⟩ := h1
    subst e0; subst e1
    have hne : ¬ Blk v b := fun hk => p.dis 0 1 _ _ rfl rfl (by decide) b rfl hk
    refine ⟨(fun k => k = b ∨ Blk v k) :: Ss, by simpa using hl, fun j C S hC hS => ?_, p.fuse⟩
    match j, hC, hS with
    | 0, hC, hS =>
      simp only [List.getElem?_cons_zero, Option.some.injEq] at hC hS
      subst hC; subst hS
      exact ⟨v, rfl, hne, hb, ho⟩
    | j + 1, hC, hS => exact ha (j + 2) C S (by simpa using hC) (by simpa using hS)
/-- The object opened; and how it is closed again. -/
theorem Sep.objUse (h : Sep w0 w L) (i : Nat) (hi : L[i]? = some (objT R T E f b xs)) :
    ∃ v, w.heap[b]? = some (.cells (f v) T (0, 0)) ∧ ROwn R E w v xs ∧ ¬ Blk v b ∧ w0.heap.size ≤ b ∧
      ∀ w' v' xs', w'.heap[b]? = some (.cells (f v') T (0, 0)) → ROwn R E w' v' xs' → Fr (fun k => k = b ∨ Blk v k) w w' → (∀ g, Blk v' g → Blk v g ∨ w.heap.size ≤ g) → Sep w0 w' (L.set i (objT R T E f b xs')) := by
  obtain ⟨S0, hS0, hlow⟩ := h.fresh i hi
  obtain ⟨v0, rfl, _, hb0, _⟩ := hS0
  obtain ⟨S, ⟨v, rfl, hn, hb, ho⟩, hu⟩ := h.use i hi
  refine ⟨v, hb, ho, hn, hlow b (.inl rfl), fun w' v' xs' hb' ho' hf hnew => ?_⟩
  refine hu w' _ (fun k => k = b ∨ Blk v' k) ⟨v', rfl, fun hk => ?_, hb', ho'⟩ ⟨hf, fun k hk => ?_⟩
  · rcases hnew b hk with q | q
    · exact hn q
    · have := lt_of hb; omega
  · rcases hk with rfl | hk
    · exact .inl (.inl rfl)
    · rcases hnew k hk with q | q
      · exact .inl (.inr q)
      · exact .inr q
/-- An object read: its block, its records. -/
theorem Sep.obj (h : Sep w0 w L) (i : Nat) (hi : L[i]? = some (objT R T E f b xs)) : ∃ v, w.heap[b]? = some (.cells (f v) T (0, 0)) ∧ RdG R w v xs := by
  obtain ⟨v, hb, ho, _⟩ := h.objUse i hi
  exact ⟨v, hb, ho.rd⟩
/-- A field of an element is written. -/
theorem Sep.objSet (h : Sep w0 w L) (i : Nat) (hi : L[i]? = some (objT R T E f b xs)) (hf : ∀ x y, f x = f y → x = y) {g n cap : Nat} (hb : w.heap[b]? = some (.cells (f (.slice (some ⟨g, 0, none⟩) n cap)) T (0, 0)))
    (k : Nat) (hk : k < xs.length) (o : Nat) (ho : o < R.m) (y : α) (u : Value) (hy : R.cells y = (R.cells xs[k]).set o u) :
    Sep w0 (w.setCell ⟨g, k * R.m + o, none⟩ u) (L.set i (objT R T E f b (xs.set k y))) := by
  obtain ⟨v, hb', how, hn, _, hu⟩ := h.objUse i hi
  obtain rfl : v = .slice (some ⟨g, 0, none⟩) n cap := by
    rw [hb] at hb'
    injection hb' with e
    injection e with e
    exact (hf _ _ e).symm
  have hgb : g ≠ b := fun e => hn (by subst e; rfl)
  refine hu _ _ _ ?_ (how.setField k hk o ho y u hy) (Fr.setCell _ _ _ (.inr rfl)) (fun q hq => .inl hq)
  have := (Fr.setCell (S := (· = g)) w ⟨g, k * R.m + o, none⟩ u rfl).block b (lt_of hb) (fun e => hgb e.symm)
  rw [this]; exact hb
/-- A record has been put behind the others, and the new slice stored. -/
theorem Sep.objApp {w1 : World} (h : Sep w0 w L) (i : Nat) (hi : L[i]? = some (objT R T E f b xs)) (hf : ∀ x y, f x = f y → x = y) {v v' : Value} (hb : w.heap[b]? = some (.cells (f v) T (0, 0)))
    {ys : List α} {n : Nat} (hn : n = xs.length + ys.length) {wa : World} (hwa : Fr (fun _ => False) w wa) (hA : Appended wa w1 E R.m v v' n (R.flat xs ++ R.flat ys)) (o : Nat) (hst : ∀ x, f v' = (f x).setIfInBounds o v') :
    Sep w0 (w1.setCell ⟨b, o, none⟩ v') (L.set i (objT R T E f b (xs ++ ys))) := by
  obtain ⟨v2, hb', how, hn2, _, hu⟩ := h.objUse i hi
  obtain rfl : v2 = v := by
    rw [hb] at hb'
    injection hb' with e
    injection e with e
    exact (hf _ _ e).symm
  have hb1 : w1.heap[b]? = some (.cells (f v2) T (0, 0)) := by
    have q1 := hwa.block b (lt_of hb) (fun e => e)
    have q2 := hA.fr.block b (Nat.lt_of_lt_of_le (lt_of hb) hwa.size) hn2
    rw [q2, q1]; exact hb
  have hnb : ¬ Blk v' b := fun hk => by
    rcases hA.block b hk with q | q
    · exact hn2 q
    · have := lt_of hb; have := hwa.size; omega
  have hown : ROwn R E w1 v' (xs ++ ys) := by
    unfold ROwn
    rw [R.flat_append, List.length_append, ← hn]; exact hA.own
  refine hu _ v' _ (cells_put hb1 (hst v2)) (owns_frame hown (Fr.setCell (S := (· = b)) _ _ _ rfl) (fun k hk e => hnb (e ▸ hk))) ?_ (fun g hg => ?_)
  · have q1 : Fr (fun k => k = b ∨ Blk v2 k) w wa := hwa.mono (fun _ _ q => q.elim)
    have q2 : Fr (fun k => k = b ∨ Blk v2 k) wa w1 := hA.fr.mono (fun _ _ q => .inr q)
    have q3 : Fr (fun k => k = b ∨ Blk v2 k) w1 (w1.setCell ⟨b, o, none⟩ v') := Fr.setCell _ _ _ (.inl rfl)
    exact (q1.trans q2 (fun _ _ q => q)).trans q3 (fun _ _ q => q)
  · rcases hA.block g hg with q | q
    · exact .inl q
    · exact .inr (Nat.le_trans hwa.size q)
theorem Sep.setC {w0 w : World} {L : List Thing} {b : Nat} {cs : Array Value} {E : TypeId} (h : Sep w0 w L) (i : Nat) (hi : L[i]? = some (cellsT b cs E)) (o : Nat) (u : Value) (ds : Array Value) (hd : ds = cs.setIfInBounds o u) :
    Sep w0 (w.setCell ⟨b, o, none⟩ u) (L.set i (cellsT b ds E)) :=
  h.turn i hi fun S hS => ⟨_, ⟨rfl, cells_put hS.2 hd⟩, by rw [hS.1]; exact Fr.setCell _ _ _ rfl, fun j hj => .inl (by rw [hS.1]; exact hj)⟩
/-- A block of records, read as a slice. -/
theorem RdG.ofCells {α : Type} {R : Rec α} {w : World} {b : Nat} {E : TypeId} {fr : Nat × Nat} (xs : List α) (h : w.heap[b]? = some (.cells (R.flat xs).toArray E fr)) (cap : Nat) (hl : xs.length ≤ maxLen) : RdG R w (.slice (some ⟨b, 0, none⟩) xs.length cap) xs := by
  refine ⟨_, cap, rfl, hl, by simp, fun _ => ⟨b, 0, rfl, lt_of h, fun i hi j hj => ?_⟩⟩
  rw [Nat.zero_add, cell_of h, List.getElem?_toArray]
  exact R.flat_get xs i hi j hj
theorem set_same {L : List Thing} {i : Nat} {A : Thing} (hi : L[i]? = some A) : L.set i A = L := by
  obtain ⟨hlt, he⟩ := List.getElem?_eq_some_iff.1 hi
  rw [← he]; exact List.set_getElem_self _
end
end Go.Mem
