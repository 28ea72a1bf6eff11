/-
  A range over a function whose iterator yields in an order that nobody knows ahead (a map's keys): a law in separation form. Plain.
-/
import Derived.Test.YthcmkljdhhepgaaRangeV
set_option linter.unusedVariables false
set_option linter.unusedSimpArgs false
namespace Go.Mem
open Go Go.RowKit
section
variable {α : Type} {F : Fence} {n : Nat} {P : Program}
/-- **A RANGE OVER A FUNCTION** whose rounds all go on, over things in memory; X: what the iterator handles (X0: at first); Ok: what may have been yielded; E: how it ends. -/
theorem wpIn_rangeY {g : Operand} {ps : Array Tmp} {assign body : Code} {Q : Exit → Act → World → Prop} {a : Act} {w w0 : World}
    (hro : F.round = none) (h1 : 1 ≤ n) {gf : Nat} {lb : Array Value} (hg : a.eval g = .func (.func gf) #[] lb) (hFg : F.fn gf) (eg : ∀ args w, (callFunc gf args).run P w = .ok (.enter gf args) w)
    (encs : α → Array Value) (hps : ∀ x, (encs x).size = ps.size) (M : List α → List Thing) (X0 : List Thing) (h0 : Sep w0 w (M [] ++ X0)) (Ok : List α → Prop) (E : List Thing → List α → Prop)
    (hit : ∀ (J : List Thing → List α → World → Prop) (W1 : World), (∀ X X' pre W W', J X pre W → (∀ w0 L, Sep w0 W (L ++ X) → Sep w0 W' (L ++ X')) → J X' pre W') →
      (∀ X pre W, J X pre W → Sep w0 W (M pre ++ X)) →
      (∀ X pre x W, J X pre W → Ok (pre ++ [x]) → YieldAt F (n - 1 - 1) P (w.heap.size + 1) (encs x) W fun e W' => e = .returned (.bool true) ∧ J X (pre ++ [x]) W') → J X0 [] W1 →
      CallsIn F (n - 1) P gf (#[.func (.yield (w.heap.size + 1)) #[] #[]] ++ lb) W1 fun e W' => (∃ v, e = .returned v) ∧ ∃ X pre, E X pre ∧ J X pre W')
    (ax : α → Act) (has : ∀ (l : Nat) (x : α) (W : World) (K : Act → World → Prop), K (ax x) W → assign.wpIn (F.inRound l) (n - 1 - 1) P (Exit.then K (fun _ _ _ => False)) { tmps := (ps.zip (encs x)).foldl (fun t (p, v) => t.setIfInBounds p v) a.tmps, defers := [] } W)
    (hbody : ∀ (l D : Nat) (o1 o2 : Obj) (X : List Thing) (pre : List α) (x : α) (W : World), Ok (pre ++ [x]) → Sep w0 W (defT l o1 :: defT D o2 :: (M pre ++ X)) →
      body.wpIn (F.inRound l) (n - 1 - 1) P (bodyV (fun W' => Sep w0 W' (defT l o1 :: defT D o2 :: (M (pre ++ [x]) ++ X)))) (ax x) W)
    (hdone : ∀ (l D : Nat) (o1 : Obj) (X : List Thing) (pre : List α) (W : World), E X pre → Sep w0 W (defT l o1 :: defT D (.deferred (some [])) :: (M pre ++ X)) → Q .normal { a with defers := { target := .collected D, args := #[] } :: a.defers } W) :
    (Code.rangeFunc g ps assign body).wpIn F n P Q a w := by
  refine wpIn_rangeFunc ?_
  intro fn hfn
  rw [hro]
  obtain ⟨rec, hrec⟩ : ∃ rec : LoopState → Loop, rec = fun st => { state := st, pending := none, fn, tmps := a.tmps, params := ps, assign, body, defers := w.heap.size } := ⟨_, rfl⟩
  have hs1 := (h0.allocObj (.deferred (some []))).allocObj (.loop (rec .ready))
  rw [World.size_alloc] at hs1
  obtain ⟨W1, hW1⟩ : ∃ W1, (w.alloc (.deferred (some []))).alloc (.loop (rec .ready)) = W1 := ⟨_, rfl⟩
  rw [hW1] at hs1
  obtain ⟨J, hJ⟩ : ∃ J : List Thing → List α → World → Prop, J = fun X pre W => Sep w0 W (defT (w.heap.size + 1) (.loop (rec .ready)) :: defT w.heap.size (.deferred (some [])) :: (M pre ++ X)) := ⟨_, rfl⟩
  refine ⟨w.heap.size + 1, [{ target := .collected w.heap.size, args := #[] }], W1, { target := .fn (.func gf) lb, args := #[.func (.yield (w.heap.size + 1)) #[] #[]] }, W1, gf,
    #[.func (.yield (w.heap.size + 1)) #[] #[]] ++ lb, W1, ?_, ?_, ?_, ?_, fun _ => h1, ?_⟩
  · rw [← hW1, hrec]; exact run_enterLoop_outer _ _ _ _ _
  · simp only [resolve, hg]
    simp [go_sem]
  · intro f' hf'; simp [Target.leads] at hf'; subst hf'; exact hFg
  · simp [invoke, go_sem, eg]
  refine (hit J W1 ?_ ?_ ?_ ?_).mono ?_
  · intro X X' pre W W' hj hb
    rw [hJ] at hj ⊢
    exact hb w0 (defT (w.heap.size + 1) (.loop (rec .ready)) :: defT w.heap.size (.deferred (some [])) :: M pre) hj
  · intro X pre W hj
    rw [hJ] at hj
    exact hj.tail.tail
  · -- one round
    intro X pre x W hj hpl
    rw [hJ] at hj
    have hs := hj
    have hl := hs.obj_ 0 rfl
    have hy := run_yield (P := P) (args := encs x) hl (by rw [hrec]; exact hps x)
    rw [hrec] at hy
    refine ⟨fn, _, assign, body, hy, roundIn_of_wpIn hfn (has _ x W _ ?_)⟩
    refine ⟨_, run_beginRound hl (by rw [hrec]), ?_⟩
    have hs2 := hs.putD (o' := .loop { rec .ready with state := .busy }) 0 rfl
    simp only [List.set_cons_zero] at hs2
    refine wpIn_mono (hbody _ _ _ _ X pre x _ hpl hs2) ?_
    intro e a3 W3 hp
    cases e with
    | normal =>
      have hs3 := hp
      have hl3 := Sep.obj_ hs3 0 rfl
      have hs4 := Sep.putD hs3 (o' := .loop (rec .ready)) 0 rfl
      simp only [List.set_cons_zero] at hs4
      refine ⟨_, _, run_endRound (P := P) none hl3, rfl, ?_⟩
      rw [hJ]
      rw [hrec] at hs4 ⊢
      exact hs4
    | ret => exact hp.elim
    | exit id => exact hp.elim
    | goto t => exact hp.elim
    | panic ch => exact hp.elim
    | outgrown => exact hp.elim
  · rw [hJ]
    exact hs1
  · rintro e W2 ⟨⟨v, rfl⟩, X, pre, hE, hj⟩
    rw [hJ] at hj
    have hs := hj
    have hl := hs.obj_ 0 rfl
    have hs2 := hs.putD (o' := .loop { rec .ready with state := .exhausted }) 0 rfl
    simp only [List.set_cons_zero] at hs2
    exact ⟨_, _, run_endLoop (P := P) hl (by rw [hrec]; simp), by rw [hrec] at hs2 ⊢; exact hdone _ _ _ _ _ _ hE hs2⟩
end
end Go.Mem
