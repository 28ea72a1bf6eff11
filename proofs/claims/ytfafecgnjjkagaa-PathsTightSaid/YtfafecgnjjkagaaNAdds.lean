/-
  Two flows added. Plain lemmas.
-/
import Derived.Test.YtfafecgnjjkagaaNSums
namespace Go.NetP
open Go Go.Mem

/-- The first i numbers summed. -/
def stepL (a b : List Int) (i : Nat) : List Int := (List.range a.length).map fun j => if j < i then a.getD j 0 + b.getD j 0 else a.getD j 0
def sumL (a b : List Int) : List Int := stepL a b a.length
theorem stepL_length (a b : List Int) (i : Nat) : (stepL a b i).length = a.length := by simp [stepL]
theorem stepL_zero (a b : List Int) : stepL a b 0 = a := by
  refine List.ext_getElem (by simp [stepL]) fun j h1 h2 => ?_
  simp [stepL, h2]
theorem stepL_get (a b : List Int) {i : Nat} (h : i < a.length) : (stepL a b i).getD i 0 = a.getD i 0 := by simp [stepL, h]
theorem stepL_set (a b : List Int) {i : Nat} (h : i < a.length) : (stepL a b i).set i (a.getD i 0 + b.getD i 0) = stepL a b (i + 1) := by
  refine List.ext_getElem (by simp [stepL]) fun j h1 h2 => ?_
  rw [List.getElem_set]
  simp only [stepL, List.getElem_map, List.getElem_range]
  by_cases e : i = j
  · subst e; simp
  · by_cases e2 : j < i
    · have : j < i + 1 := by omega
      simp [e, e2, this]
    · have : ¬ j < i + 1 := by omega
      simp [e, e2, this]
theorem sumL_length (a b : List Int) : (sumL a b).length = a.length := stepL_length _ _ _
theorem sumL_get (a b : List Int) {j : Nat} (h : j < a.length) : (sumL a b).getD j 0 = a.getD j 0 + b.getD j 0 := by simp [sumL, stepL, h]
theorem gain_add (c : Bool) (x y : Int) : gain c (x + y) = gain c x + gain c y := by unfold gain; split <;> omega
theorem overAt_add (es : List Ed) (a b : List Int) (v : Nat) : ∀ m, m ≤ a.length → overAt es (sumL a b) v m = overAt es a v m + overAt es b v m
  | 0, _ => by simp [overAt]
  | m + 1, h => by rw [overAt_succ, overAt_succ, overAt_succ, overAt_add es a b v m (by omega), sumL_get a b (by omega), gain_add, gain_add]; omega
theorem flowCost_add (es : List Ed) (a b : List Int) : ∀ m, m ≤ a.length → flowCost es (sumL a b) m = flowCost es a m + flowCost es b m
  | 0, _ => by simp [flowCost]
  | m + 1, h => by rw [flowCost_succ, flowCost_succ, flowCost_succ, flowCost_add es a b m (by omega), sumL_get a b (by omega), Int.add_mul]; omega
theorem over_get {n : Nat} (es : List Ed) (fl : List Int) {v : Nat} (h : v < n) : (overL n es fl).getD v 0 = overAt es fl v fl.length := by simp [overL, h]
theorem over_add {n : Nat} (es : List Ed) (a b : List Int) (hl : a.length = b.length) {v : Nat} (h : v < n) : (overL n es (sumL a b)).getD v 0 = (overL n es a).getD v 0 + (overL n es b).getD v 0 := by
  rw [over_get _ _ h, over_get _ _ h, over_get _ _ h, sumL_length, overAt_add es a b v _ (Nat.le_refl _), hl]
theorem all_zero {l : List Int} : l.all (fun x => x == 0) = true ↔ ∀ i, i < l.length → l.getD i 0 = 0 := by
  constructor
  · intro h i hi
    have := List.all_eq_true.1 h _ (List.getElem_mem hi)
    simpa [hi] using this
  · exact zero_all
/-- Of two flows and their sum: where one flows, the other flows just if the sum does. -/
theorem flows_add {n : Nat} {es : List Ed} {a b : List Int} (ha : withinB n es a = true) (hb : withinB n es b = true) (hc : withinB n es (sumL a b) = true) :
    (flowsB n es a = true → flowsB n es b = flowsB n es (sumL a b)) ∧ (flowsB n es b = true → flowsB n es a = flowsB n es (sumL a b)) := by
  have hl : a.length = b.length := by rw [(within_cap ha).1, (within_cap hb).1]
  have f : ∀ x, withinB n es x = true → flowsB n es x = (overL n es x).all (fun x => x == 0) := fun x h => by simp [flowsB, overV, h]
  rw [f _ ha, f _ hb, f _ hc]
  constructor
  · intro h
    have h := all_zero.1 h
    rw [Bool.eq_iff_iff, all_zero, all_zero]
    rw [over_len] at h ⊢
    rw [over_len]
    constructor
    · intro k i hi; rw [over_add es a b hl hi, h i hi, k i hi]; rfl
    · intro k i hi; have := k i hi; rw [over_add es a b hl hi, h i hi] at this; omega
  · intro h
    have h := all_zero.1 h
    rw [Bool.eq_iff_iff, all_zero, all_zero]
    rw [over_len] at h ⊢
    rw [over_len]
    constructor
    · intro k i hi; rw [over_add es a b hl hi, h i hi, k i hi]; rfl
    · intro k i hi; have := k i hi; rw [over_add es a b hl hi, h i hi] at this; omega
end Go.NetP
