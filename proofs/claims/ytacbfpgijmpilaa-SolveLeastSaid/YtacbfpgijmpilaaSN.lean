/-
  Where no turn costs less than 0. Plain lemmas.
-/
import Derived.Test.YtacbfpgijmpilaaSM2
set_option linter.unusedVariables false
set_option linter.unusedSimpArgs false
namespace Go.SolveP
open Go Go.Mem Go.NetP Go.RestP Go.CertP Go.PathP
/-- The first m arcs of a round. -/
def roundT (es : List Ed) (fl : List Int) (m : Nat) (S : TS) : TS := (List.range m).foldl (relaxT es fl) S
theorem roundT_succ (es : List Ed) (fl : List Int) (m : Nat) (S : TS) : roundT es fl (m + 1) S = relaxT es fl (roundT es fl m S) m := by
  unfold roundT; rw [List.range_succ, List.foldl_append]; rfl
section
variable {es : List Ed} {fl : List Int} {N r m : Nat} {S : TS}
theorem TI.round (hr : rightB N es = true) (h : TI es fl N r 0 S) (hl : S.l = -1) : ∀ m, m ≤ 2 * es.length → TI es fl N r m (roundT es fl m S) ∧ TL es fl N r (roundT es fl m S)
  | 0, _ => ⟨h, .inl hl⟩
  | m + 1, hm => by
    obtain ⟨h1, h2⟩ := TI.round hr h hl m (by omega)
    rw [roundT_succ]
    exact ⟨h1.step hr (by omega), TL.step hr h1 h2 (by omega)⟩
/-- Where nothing was lowered in a round, no arc with room lowers. -/
theorem round_none (hr : rightB N es = true) (hl : S.l = -1) : ∀ m, m ≤ 2 * es.length → (roundT es fl m S).l < 0 → roundT es fl m S = S ∧ ∀ a, a < m → hasA es fl a → g S.d (acAt es a).v ≤ g S.d (acAt es a).u + (acAt es a).c
  | 0, _, _ => ⟨rfl, fun a ha => by omega⟩
  | m + 1, hm, h => by
    obtain ⟨e1, e2, e3, e4⟩ := ends_node hr (show m < 2 * es.length by omega)
    rw [roundT_succ] at h ⊢
    by_cases hc : g (roundT es fl m S).d (endsE es m).1.toNat + (endsE es m).2.2 < g (roundT es fl m S).d (endsE es m).2.1.toNat ∧ 0 < roomE es fl m
    · exfalso
      unfold relaxT at h
      rw [if_pos hc] at h
      dsimp only at h
      omega
    · unfold relaxT at h ⊢
      rw [if_neg hc] at h ⊢
      obtain ⟨h1, h2⟩ := round_none hr hl m (by omega) h
      refine ⟨h1, fun a ha hA => ?_⟩
      by_cases e : a = m
      · subst e
        rw [h1] at hc
        have : ¬ g S.d (acAt es a).u + (acAt es a).c < g S.d (acAt es a).v := fun q => hc ⟨q, hA.2⟩
        omega
      · exact h2 a (by omega) hA
/-- Then the numbers fit. -/
theorem none_tight (hr : rightB N es = true) (h : ∀ a, a < 2 * es.length → hasA es fl a → g S.d (acAt es a).v ≤ g S.d (acAt es a).u + (acAt es a).c) : tightB es fl S.d = true := by
  unfold tightB
  refine List.all_eq_true.2 fun a ha => ?_
  have ha := List.mem_range.1 ha
  unfold tightS
  by_cases hp : 0 < roomE es fl a
  · have := h a ha ⟨ha, hp⟩
    have e : lenA es S.d a = (acAt es a).c + g S.d (acAt es a).u - g S.d (acAt es a).v := rfl
    rw [e]
    simp
    omega
  · simp [hp]
/-- How low a number gets. -/
theorem relaxT_low (hr : rightB N es = true) {B : Int} (h : ∀ v, v < N → -B ≤ g S.d v) (hl : S.d.length = N) (hm : m < 2 * es.length) : ∀ v, v < N → -(B + 1000) ≤ g (relaxT es fl S m).d v := by
  obtain ⟨e1, e2, e3, e4⟩ := ends_node hr hm
  intro v hv
  unfold relaxT
  split
  · dsimp only
    rw [g_set (by rw [hl]; omega)]
    unfold upd
    split
    · have := h (endsE es m).1.toNat (by omega); omega
    · have := h v hv; omega
  · have := h v hv; omega
end
end Go.SolveP
