/-
  What SolveMore's loop has done. Plain lemmas.
-/
import Derived.Test.YtacbfpgijmpilaaSF
set_option linter.unusedVariables false
set_option linter.unusedSimpArgs false
namespace Go.SolveP
open Go Go.Mem Go.NetP Go.RestP Go.CertP
/-- The first i costs doubled. -/
def twK (es : List Ed) (i : Nat) : List Ed := (List.range es.length).map fun j => if j < i then ⟨(edAt es j).f, (edAt es j).t, (edAt es j).c, 2 * (edAt es j).k⟩ else edAt es j
theorem twK_len (es : List Ed) (i : Nat) : (twK es i).length = es.length := by simp [twK]
theorem twK_at {es : List Ed} {i j : Nat} (h : j < es.length) : (twK es i)[j]'(by rw [twK_len]; exact h) = if j < i then ⟨(edAt es j).f, (edAt es j).t, (edAt es j).c, 2 * (edAt es j).k⟩ else edAt es j := by
  simp [twK]
theorem twK_zero (es : List Ed) : twK es 0 = es := by
  refine List.ext_getElem (twK_len ..) fun j h1 h2 => ?_
  rw [twK_at h2, if_neg (by omega), edAt_of h2]
theorem twK_end (es : List Ed) : twK es es.length = twiceL es := by
  refine List.ext_getElem (by rw [twK_len, twiceL_len]) fun j h1 h2 => ?_
  have hj : j < es.length := by rw [twK_len] at h1; exact h1
  have := twiceL_at hj
  rw [edAt_of h2] at this
  rw [twK_at hj, if_pos hj, this]
theorem twK_succ {es : List Ed} {i : Nat} (h : i < es.length) : (twK es i).set i ⟨(edAt es i).f, (edAt es i).t, (edAt es i).c, 2 * (edAt es i).k⟩ = twK es (i + 1) := by
  refine List.ext_getElem (by simp [twK_len]) fun j h1 h2 => ?_
  have hj : j < es.length := by rw [twK_len] at h2; exact h2
  rw [List.getElem_set, twK_at hj, twK_at hj]
  by_cases e : i = j
  · subst e; rw [if_pos rfl, if_pos (by omega)]
  · rw [if_neg e]
    by_cases q : j < i
    · rw [if_pos q, if_pos (by omega)]
    · rw [if_neg q, if_neg (by omega)]
/-- Whether one of the first i edges gains. -/
def lowF (es : List Ed) : Nat → Bool
  | 0 => false
  | i + 1 => lowF es i || decide ((edAt es i).k < 0)
theorem lowF_no (es : List Ed) : ∀ i, lowF es i = false → ∀ j, j < i → 0 ≤ (edAt es j).k
  | 0, _, j, hj => by omega
  | i + 1, h, j, hj => by
    unfold lowF at h
    rw [Bool.or_eq_false_iff] at h
    rcases Nat.lt_or_ge j i with q | q
    · exact lowF_no es i h.1 j q
    · obtain rfl : j = i := by omega
      have := of_decide_eq_false h.2; omega
/-- The two tests on the cost. -/
theorem cost_tests {n : Int} {es : List Ed} {fl p : List Int} (h : checkB n es fl p = true) (hr : rightB n es = true) : costV n es fl ≤ 0 ∧ (lowF es es.length = false → costV n es fl = 0) := by
  have h1 := cost_low h hr
  refine ⟨h1, fun hl => ?_⟩
  have := cost_nolow (flows_iff.1 (check_flows h)).1 (fun i hi => lowF_no es _ hl i hi)
  omega
end Go.SolveP
