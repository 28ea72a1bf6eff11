/-
  A range over a function that keeps a variable of its own in a cell: what lies there, as things in memory. Plain lemmas.
-/
import Derived.Test.YthcmkljdhhepgaaLA
import Derived.Test.YthcmkljdhhepgaaLC
import Derived.RangeFuncNested
set_option linter.unusedVariables false
set_option linter.unusedSimpArgs false
namespace Go.Mem
open Go Go.RowKit
/-- A block of cells, whatever they hold. -/
def anyT (b : Nat) : Thing where
  is w S := S = (· = b) ∧ ∃ cs E, w.heap[b]? = some (.cells cs E (0, 0))
  low := by rintro w S ⟨rfl, cs, E, h⟩ k rfl; exact lt_of h
  stay := by rintro w w' S T ⟨rfl, cs, E, h⟩ hf hd; exact ⟨rfl, cs, E, (hf.block b (lt_of h) (hd b rfl)).trans h⟩
theorem anyT_cells (b : Nat) : (anyT b).Cells := by rintro w S ⟨rfl, cs, E, h⟩ k rfl; exact ⟨_, h, rfl⟩
section
variable {w0 w : World} {L : List Thing} {b : Nat}
theorem Sep.any_ (h : Sep w0 w L) (i : Nat) {cs : Array Value} {E : TypeId} (hi : L[i]? = some (cellsT b cs E)) : Sep w0 w (L.set i (anyT b)) :=
  h.swap i hi fun S hS => ⟨S, ⟨hS.1, _, _, hS.2⟩, fun k hk => hk⟩
theorem Sep.setAny (h : Sep w0 w L) (i : Nat) (hi : L[i]? = some (anyT b)) (o : Nat) (u : Value) : Sep w0 (w.setCell ⟨b, o, none⟩ u) L := by
  have h1 := h.turn (w' := w.setCell ⟨b, o, none⟩ u) (B := anyT b) i hi fun S hS => by
    obtain ⟨rfl, cs, E, hb⟩ := hS
    exact ⟨_, ⟨rfl, cs.setIfInBounds o u, E, cells_set hb rfl⟩, Fr.setCell _ _ _ rfl, fun j hj => .inl hj⟩
  have e : L.set i (anyT b) = L := by obtain ⟨hlt, he⟩ := List.getElem?_eq_some_iff.1 hi; rw [← he]; exact List.set_getElem_self _
  rw [e] at h1
  exact h1
theorem Sep.allocObj (h : Sep w0 w L) (o : Obj) : Sep w0 (w.alloc o) (defT w.heap.size o :: L) :=
  h.consNew (Fr.alloc _ _) ⟨rfl, heap_alloc_new w o⟩ (fun _ hk => Nat.le_of_eq (Eq.symm hk))
end
/-- How a round's body is left: it goes on. -/
def bodyV (R : World → Prop) : Exit → Act → World → Prop
  | .normal, _, W' => R W'
  | _, _, _ => False
section
variable {α : Type} {F : Fence} {n : Nat} {P : Program}
/-- **A RANGE OVER A FUNCTION** whose rounds all go on, over things in memory; the function keeps a variable of its own in the block Bv. -/
theorem wpIn_rangeV {g : Operand} {ps : Array Tmp} {assign body : Code} {Q : Exit → Act → World → Prop} {a : Act} {w w0 : World}
    (hro : F.round = none) (h1 : 1 ≤ n) {gf : Nat} {lb : Array Value} (hg : a.eval g = .func (.func gf) #[] lb) (hFg : F.fn gf) (eg : ∀ args w, (callFunc gf args).run P w = .ok (.enter gf args) w)
    (encs : α → Array Value) (hps : ∀ x, (encs x).size = ps.size) (M : List α → List Thing) (Bv : Nat) (E : TypeId) (cs0 : Array Value) (h0 : Sep w0 w (cellsT Bv cs0 E :: M []))
    (PL : List α)
    (hit : ∀ (J : Array Value → List α → World → Prop) (W1 : World), (∀ cs pre W W', J cs pre W → Below W.heap.size W W' → J cs pre W') → (∀ cs pre W, J cs pre W → J cs pre W.drew) → (∀ cs pre W u, J cs pre W → J (cs.setIfInBounds 0 u) pre (W.setCell ⟨Bv, 0, none⟩ u)) →
      (∀ cs pre W, J cs pre W → Sep w0 W (cellsT Bv cs E :: M pre)) →
      (∀ cs pre x W, J cs pre W → (pre ++ [x]) <+: PL → YieldAt F (n - 1 - 1) P (w.heap.size + 1) (encs x) W fun e W' => e = .returned (.bool true) ∧ J cs (pre ++ [x]) W') → J cs0 [] W1 →
      CallsIn F (n - 1) P gf (#[.func (.yield (w.heap.size + 1)) #[] #[]] ++ lb) W1 fun e W' => (∃ v, e = .returned v) ∧ ∃ cs, J cs PL W')
    (ax : α → Act) (has : ∀ (l : Nat) (x : α) (W : World) (K : Act → World → Prop), K (ax x) W → assign.wpIn (F.inRound l) (n - 1 - 1) P (Exit.then K (fun _ _ _ => False)) { tmps := (ps.zip (encs x)).foldl (fun t (p, v) => t.setIfInBounds p v) a.tmps, defers := [] } W)
    (hbody : ∀ (l D : Nat) (o1 o2 : Obj) (cs : Array Value) (pre : List α) (x : α) (W : World), (pre ++ [x]) <+: PL → Sep w0 W (defT l o1 :: defT D o2 :: cellsT Bv cs E :: M pre) →
      body.wpIn (F.inRound l) (n - 1 - 1) P (bodyV (fun W' => Sep w0 W' (defT l o1 :: defT D o2 :: cellsT Bv cs E :: M (pre ++ [x])))) (ax x) W)
    (hdone : ∀ (l D : Nat) (o1 : Obj) (cs : Array Value) (W : World), Sep w0 W (defT l o1 :: defT D (.deferred (some [])) :: cellsT Bv cs E :: M PL) → Q .normal { a with defers := { target := .collected D, args := #[] } :: a.defers } W) :
    (Code.rangeFunc g ps assign body).wpIn F n P Q a w := by
  refine wpIn_rangeFunc ?_
  intro fn hfn
  rw [hro]
  obtain ⟨rec, hrec⟩ : ∃ rec : LoopState → Loop, rec = fun st => { state := st, pending := none, fn, tmps := a.tmps, params := ps, assign, body, defers := w.heap.size } := ⟨_, rfl⟩
  have hs1 := (h0.allocObj (.deferred (some []))).allocObj (.loop (rec .ready))
  rw [World.size_alloc] at hs1
  obtain ⟨W1, hW1⟩ : ∃ W1, (w.alloc (.deferred (some []))).alloc (.loop (rec .ready)) = W1 := ⟨_, rfl⟩
  rw [hW1] at hs1
  obtain ⟨J, hJ⟩ : ∃ J : Array Value → List α → World → Prop, J = fun cs pre W => Sep w0 W (defT (w.heap.size + 1) (.loop (rec .ready)) :: defT w.heap.size (.deferred (some [])) :: cellsT Bv cs E :: M pre) := ⟨_, rfl⟩
  refine ⟨w.heap.size + 1, [{ target := .collected w.heap.size, args := #[] }], W1, { target := .fn (.func gf) lb, args := #[.func (.yield (w.heap.size + 1)) #[] #[]] }, W1, gf,
    #[.func (.yield (w.heap.size + 1)) #[] #[]] ++ lb, W1, ?_, ?_, ?_, ?_, fun _ => h1, ?_⟩
  · rw [← hW1, hrec]; exact run_enterLoop_outer _ _ _ _ _
  · simp only [resolve, hg]
    simp [go_sem]
  · intro f' hf'; simp [Target.leads] at hf'; subst hf'; exact hFg
  · simp [invoke, go_sem, eg]
  refine (hit J W1 ?_ ?_ ?_ ?_ ?_ ?_).mono ?_
  · intro cs pre W W' hj hb
    rw [hJ] at hj ⊢
    exact hj.belowStep hb
  · intro cs pre W hj
    rw [hJ] at hj ⊢
    exact hj.drew
  · intro cs pre W u hj
    rw [hJ] at hj ⊢
    have := hj.setCells 2 rfl 0 u _ rfl
    simp only [List.set_cons_zero, List.set_cons_succ] at this
    exact this
  · intro cs pre W hj
    rw [hJ] at hj
    exact hj.tail.tail
  · -- one round
    intro cs pre x W hj hpl
    rw [hJ] at hj
    have hs := hj
    have hl := hs.obj_ 0 rfl
    have hy := run_yield (P := P) (args := encs x) hl (by rw [hrec]; exact hps x)
    rw [hrec] at hy
    refine ⟨fn, _, assign, body, hy, roundIn_of_wpIn hfn (has _ x W _ ?_)⟩
    refine ⟨_, run_beginRound hl (by rw [hrec]), ?_⟩
    have hs2 := hs.putD (o' := .loop { rec .ready with state := .busy }) 0 rfl
    simp only [List.set_cons_zero] at hs2
    refine wpIn_mono (hbody _ _ _ _ cs pre x _ hpl hs2) ?_
    intro e a3 W3 hp
    cases e with
    | normal =>
      have hs3 := hp
      have hl3 := Sep.obj_ hs3 0 rfl
      have hs4 := Sep.putD hs3 (o' := .loop (rec .ready)) 0 rfl
      simp only [List.set_cons_zero] at hs4
      refine ⟨_, _, run_endRound (P := P) none hl3, rfl, ?_⟩
      rw [hJ]
      rw [hrec] at hs4 ⊢
      exact hs4
    | ret => exact hp.elim
    | exit id => exact hp.elim
    | goto t => exact hp.elim
    | panic ch => exact hp.elim
    | outgrown => exact hp.elim
  · rw [hJ]
    exact hs1
  · rintro e W2 ⟨⟨v, rfl⟩, cs, hj⟩
    rw [hJ] at hj
    have hs := hj
    have hl := hs.obj_ 0 rfl
    have hs2 := hs.putD (o' := .loop { rec .ready with state := .exhausted }) 0 rfl
    simp only [List.set_cons_zero] at hs2
    exact ⟨_, _, run_endLoop (P := P) hl (by rw [hrec]; simp), by rw [hrec] at hs2 ⊢; exact hdone _ _ _ _ _ hs2⟩
end
end Go.Mem
