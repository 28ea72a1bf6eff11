/-
  All that is over comes to 0. Plain lemmas.
-/
import Derived.Test.YtfafecgnjjkagaaNOver
namespace Go.NetP
open Go Go.Mem

/-- What the first i nodes have over, by the first m edges. -/
def psum (es : List Ed) (fl : List Int) (i : Nat) : Nat → Int
  | 0 => 0
  | m + 1 => psum es fl i m + (gain (decide ((edAt es m).t < i)) (fl.getD m 0) - gain (decide ((edAt es m).f < i)) (fl.getD m 0))
theorem psum_zero (es : List Ed) (fl : List Int) (m : Nat) (h : ∀ j, j < m → 0 ≤ (edAt es j).t ∧ 0 ≤ (edAt es j).f) : psum es fl 0 m = 0 := by
  induction m with
  | zero => rfl
  | succ m ih =>
    obtain ⟨h0, h1⟩ := h m (by omega)
    have a : ¬ (edAt es m).t < ((0 : Nat) : Int) := by omega
    have b : ¬ (edAt es m).f < ((0 : Nat) : Int) := by omega
    simp only [psum, ih (fun j hj => h j (by omega)), a, b]
    simp [gain]
theorem psum_succ (es : List Ed) (fl : List Int) (i : Nat) : ∀ m, psum es fl (i + 1) m = psum es fl i m + overAt es fl i m
  | 0 => by simp [psum, overAt]
  | m + 1 => by
    rw [psum, psum, overAt_succ, psum_succ es fl i m]
    have key : ∀ t x : Int, gain (decide (t < ((i + 1 : Nat) : Int))) x = gain (decide (t < (i : Int))) x + gain (decide (t = (i : Int))) x := by
      intro t x
      unfold gain
      rcases Int.lt_trichotomy t i with h | h | h
      · rw [decide_eq_true (show t < ((i + 1 : Nat) : Int) by omega), decide_eq_true h, decide_eq_false (show ¬ t = (i : Int) by omega)]; simp
      · rw [decide_eq_true (show t < ((i + 1 : Nat) : Int) by omega), decide_eq_false (show ¬ t < (i : Int) by omega), decide_eq_true h]; simp
      · rw [decide_eq_false (show ¬ t < ((i + 1 : Nat) : Int) by omega), decide_eq_false (show ¬ t < (i : Int) by omega), decide_eq_false (show ¬ t = (i : Int) by omega)]; simp
    rw [key, key]; omega
theorem sum_take_over (n : Nat) (es : List Ed) (fl : List Int) (h : ∀ j, j < fl.length → 0 ≤ (edAt es j).t ∧ 0 ≤ (edAt es j).f) : ∀ i, i ≤ n → ((overL n es fl).take i).sum = psum es fl i fl.length
  | 0, _ => by simp [psum_zero es fl fl.length h]
  | i + 1, hi => by
    have hl : i < (overL n es fl).length := by simp [overL]; omega
    rw [List.take_succ_eq_append_getElem hl, List.sum_append, sum_take_over n es fl h i (by omega), psum_succ]
    simp [overL]
theorem psum_bound {n : Int} {es : List Ed} {fl : List Int} (h : withinB n es fl = true) (i : Nat) : ∀ m, m ≤ es.length → -(m * 4503599627370496 : Int) ≤ psum es fl i m ∧ psum es fl i m ≤ m * 4503599627370496
  | 0, _ => by simp [psum]
  | m + 1, hm => by
    have ih := psum_bound h i m (by omega)
    obtain ⟨h0, h1⟩ := within_at h (show m < es.length by omega)
    obtain ⟨_, _, _, _, h3⟩ := right_cap (within_cap h).2.1
    have h4 := (edgeB_iff _ _).1 (h3 _ (List.getElem_mem (show m < es.length by omega)))
    have p1 := gain_bound (decide ((edAt es m).t < i)) (fl.getD m 0) h0
    have p2 := gain_bound (decide ((edAt es m).f < i)) (fl.getD m 0) h0
    rw [psum]; omega
theorem psum_all {n : Nat} {es : List Ed} {fl : List Int} (h : ∀ j, j < fl.length → (edAt es j).t < n ∧ (edAt es j).f < n) : ∀ m, m ≤ fl.length → psum es fl n m = 0
  | 0, _ => rfl
  | m + 1, hm => by
    obtain ⟨a, b⟩ := h m (by omega)
    rw [psum, psum_all h m (by omega)]
    simp [gain, a, b]
theorem within_ends {n : Nat} {es : List Ed} {fl : List Int} (h : withinB n es fl = true) (j : Nat) (hj : j < fl.length) : (0 ≤ (edAt es j).t ∧ (edAt es j).t < n) ∧ 0 ≤ (edAt es j).f ∧ (edAt es j).f < n := by
  have hl := (within_cap h).1
  have hj' : j < es.length := by omega
  obtain ⟨_, _, _, _, h3⟩ := right_cap (within_cap h).2.1
  have h4 := (edgeB_iff _ _).1 (h3 _ (List.getElem_mem hj'))
  rw [edAt_of hj']
  exact ⟨h4.2.1, h4.1⟩
theorem sums_bound {n : Nat} {es : List Ed} {fl : List Int} (h : withinB n es fl = true) {i : Nat} (hi : i ≤ n) : -900719925474099200 ≤ ((overL n es fl).take i).sum ∧ ((overL n es fl).take i).sum ≤ 900719925474099200 := by
  rw [sum_take_over n es fl (fun j hj => ⟨(within_ends h j hj).1.1, (within_ends h j hj).2.1⟩) i hi]
  have hl := (within_cap h).1
  have := psum_bound h i fl.length (by omega)
  have h2 := (right_cap (within_cap h).2.1).2.2.1
  omega
theorem sums_zero {n : Nat} {es : List Ed} {fl : List Int} (h : withinB n es fl = true) : (overL n es fl).sum = 0 := by
  have := sum_take_over n es fl (fun j hj => ⟨(within_ends h j hj).1.1, (within_ends h j hj).2.1⟩) n (Nat.le_refl _)
  rw [List.take_of_length_le (by simp [overL])] at this
  rw [this, psum_all (fun j hj => ⟨(within_ends h j hj).1.2, (within_ends h j hj).2.2⟩) _ (Nat.le_refl _)]
theorem over_len {n : Nat} {es : List Ed} {fl : List Int} : (overL n es fl).length = n := by simp [overL]
theorem over_at_bound {n : Nat} {es : List Ed} {fl : List Int} (h : withinB n es fl = true) (i : Nat) (hi : i < n) : -900719925474099200 ≤ (overL n es fl).getD i 0 ∧ (overL n es fl).getD i 0 ≤ 900719925474099200 := by
  have hl := (within_cap h).1
  have h2 := (right_cap (within_cap h).2.1).2.2.1
  have := overAt_bound h i fl.length (by omega)
  have e : (overL n es fl).getD i 0 = overAt es fl i fl.length := by simp [overL, hi]
  rw [e]; omega
theorem sum_take_succ (l : List Int) {i : Nat} (h : i < l.length) : (l.take (i + 1)).sum = (l.take i).sum + l.getD i 0 := by
  rw [List.take_succ_eq_append_getElem h, List.sum_append]
  simp [h]
theorem zero_take_succ (l : List Int) {i : Nat} (h : i < l.length) : (l.take (i + 1)).all (fun x => x == 0) = ((l.take i).all (fun x => x == 0) && (l.getD i 0 == 0)) := by
  rw [List.take_succ_eq_append_getElem h, List.all_append]
  simp [h]
end Go.NetP
