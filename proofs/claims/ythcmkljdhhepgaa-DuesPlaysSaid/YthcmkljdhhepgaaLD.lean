/-
  'clear(s)' of a row of numbers. Plain lemmas.
-/
import Derived.Test.YthcmkljdhhepgaaLA
import Derived.Test.YthcmkljdhhepgaaObj
import Derived.WalkSpells
set_option linter.unusedVariables false
set_option linter.unusedSimpArgs false
namespace Go.Mem
open Go Go.RowKit
def setAll : List Int → Nat → List Int → List Int
  | zs, _, [] => zs
  | zs, o, x :: t => setAll (zs.set o x) (o + 1) t
theorem setAll_len : ∀ (t zs : List Int) (o : Nat), (setAll zs o t).length = zs.length
  | [], zs, o => rfl
  | x :: t, zs, o => by rw [setAll, setAll_len t, List.length_set]
theorem setAll_at : ∀ (t zs : List Int) (o j : Nat), o + t.length ≤ zs.length → (setAll zs o t)[j]? = if o ≤ j ∧ j < o + t.length then t[j - o]? else zs[j]?
  | [], zs, o, j, _ => by rw [setAll, if_neg (by simp only [List.length_nil]; omega)]
  | x :: t, zs, o, j, h => by
    simp only [List.length_cons] at h
    rw [setAll, setAll_at t _ (o + 1) j (by rw [List.length_set]; omega)]
    by_cases h1 : o + 1 ≤ j ∧ j < o + 1 + t.length
    · rw [if_pos h1, if_pos (by simp only [List.length_cons]; omega), show j - o = (j - (o + 1)) + 1 by omega, List.getElem?_cons_succ]
    · rw [if_neg h1]
      by_cases h2 : o = j
      · subst h2
        rw [if_pos (by simp only [List.length_cons]; omega), Nat.sub_self, List.getElem?_cons_zero, List.getElem?_set_self (by omega)]
      · rw [if_neg (by simp only [List.length_cons]; omega), List.getElem?_set_ne h2]
theorem setAll_zero (zs : List Int) : setAll zs 0 (List.replicate zs.length 0) = List.replicate zs.length 0 := by
  apply List.ext_getElem?
  intro j
  rw [setAll_at _ _ _ _ (by simp)]
  by_cases h : j < zs.length
  · rw [if_pos (by simp [h]), Nat.sub_zero]
  · rw [if_neg (by simp; omega), List.getElem?_eq_none (by omega), List.getElem?_eq_none (by simp; omega)]
section
variable {w0 w : World} {L : List Thing} {k : IntKind} {E : TypeId} {g n cap : Nat}
theorem Sep.setIntsAll : ∀ (t : List Int) (o : Nat) (w : World) (L : List Thing) (i : Nat) (zs : List Int), Sep w0 w L → L[i]? = some (intsT k E (.slice (some ⟨g, 0, none⟩) n cap) zs) →
    Sep w0 (w.setCells g o (t.map (Value.int k))) (L.set i (intsT k E (.slice (some ⟨g, 0, none⟩) n cap) (setAll zs o t)))
  | [], o, w, L, i, zs, h, hi => by
    rw [setAll]
    have : L.set i (intsT k E (.slice (some ⟨g, 0, none⟩) n cap) zs) = L := set_same hi
    rw [this]; exact h
  | x :: t, o, w, L, i, zs, h, hi => by
    have h1 := h.setInts (j := o) i hi x
    have h2 := Sep.setIntsAll t (o + 1) _ _ i (zs.set o x) h1 (by rw [List.getElem?_set_self (List.getElem?_eq_some_iff.1 hi).1])
    rw [List.set_set] at h2
    exact h2
end
/-- 'clear(s)' of a row of numbers of the call's own. -/
theorem wpList_clearInts {P : Program} {w0 w : World} {L : List Thing} {ops : Array Oper} {rest : List Oper} {o : Oper} {a : Act} {Q : Exit → Act → World → Prop} (hgd : o.guard = none) (s : Operand) (t E : TypeId) (k : IntKind)
    (ho : o.op = .call { callee := .builtin .clear, args := #[s], argTypes := #[t] }) (ht : P.underlying t = some (.slice E)) (hz : ∀ w, (zeroValue E).run P w = .ok (.int k 0) w)
    (v : Value) (zs : List Int) (hsep : Sep w0 w L) (j : Nat) (hj : L[j]? = some (intsT k E v zs)) (hs : a.eval s = v)
    (h : ∀ w', Sep w0 w' (L.set j (intsT k E v (List.replicate zs.length 0))) → wpList P ops Q rest (a.put o.dst (.tuple #[])) w') :
    wpList P ops Q (o :: rest) a w := by
  have key : ∃ w', (Builtin.clear_ #[t] o.type #[v]).run P w = .ok (.tuple #[]) w' ∧ Sep w0 w' (L.set j (intsT k E v (List.replicate zs.length 0))) := by
    by_cases h0 : zs.length = 0
    · obtain rfl : zs = [] := List.eq_nil_of_length_eq_zero h0
      obtain ⟨a', c', rfl⟩ := (hsep.rdInts j hj).shape
      refine ⟨w, ?_, by have := hsep; rw [← set_same hj] at this; exact this⟩
      cases a' <;> simp [Builtin.clear_, run_underlying ht]
    · obtain ⟨g, cap, rfl, hg, hc, hf⟩ := (hsep.ints j hj).get 0 (by omega)
      have hr := Go.Lib.run_clear_slice (P := P) w t E o.type (.int k 0) ht hz rfl rfl g 0 zs.length cap (by omega) (fun i hi => by rw [Nat.zero_add, hc i hi]; rfl) (fun i _ => hf _)
      refine ⟨_, hr, ?_⟩
      have := Sep.setIntsAll (List.replicate zs.length 0) 0 w L j zs hsep hj
      rw [setAll_zero, List.map_replicate] at this
      exact this
  obtain ⟨w', hr, hsep'⟩ := key
  refine wpList_plain hgd fun K hK => ?_
  unfold Oper.wp execOp
  simp only [ho, resolve, invoke, builtin, Sem.run_bind, Sem.run_pure, Result.andThen_ok, List.map_toArray, List.map_cons, List.map_nil, hs, hr]
  exact hK _ _ (h w' hsep')
end Go.Mem
