/-
  What comes to each node, less what goes; plain lemmas.
-/
import Derived.Test.YtfafecgnjjkagaaNPlain
namespace Go.NetP
open Go Go.Mem

def gain (c : Bool) (x : Int) : Int := if c = true then x else 0
/-- What the first i edges bring to node v. -/
def overAt (es : List Ed) (fl : List Int) (v : Nat) (i : Nat) : Int := ((List.range i).map (fun j => gain (decide ((edAt es j).t = v)) (fl.getD j 0) - gain (decide ((edAt es j).f = v)) (fl.getD j 0))).sum
theorem overAt_succ (es : List Ed) (fl : List Int) (v i : Nat) : overAt es fl v (i + 1) = overAt es fl v i + gain (decide ((edAt es i).t = v)) (fl.getD i 0) - gain (decide ((edAt es i).f = v)) (fl.getD i 0) := by
  simp only [overAt, List.range_succ, List.map_append, List.sum_append, List.map_cons, List.map_nil, List.sum_cons, List.sum_nil]; omega
theorem gain_bound (c : Bool) (x : Int) (h : 0 ≤ x) : 0 ≤ gain c x ∧ gain c x ≤ x := by unfold gain; split <;> omega
def overL (n : Nat) (es : List Ed) (fl : List Int) : List Int := (List.range n).map (fun u => overAt es fl u fl.length)
def overV (n : Int) (es : List Ed) (fl : List Int) : List Int := if withinB n es fl = true then overL n.toNat es fl else []
theorem overAt_bound {n : Int} {es : List Ed} {fl : List Int} (h : withinB n es fl = true) (v : Nat) : ∀ i, i ≤ es.length → -(i * 4503599627370496 : Int) ≤ overAt es fl v i ∧ overAt es fl v i ≤ i * 4503599627370496
  | 0, _ => by simp [overAt]
  | i + 1, hi => by
    have ih := overAt_bound h v i (by omega)
    obtain ⟨h0, h1⟩ := within_at h (show i < es.length by omega)
    obtain ⟨_, _, _, _, h3⟩ := right_cap (within_cap h).2.1
    have h4 := (edgeB_iff _ _).1 (h3 _ (List.getElem_mem (show i < es.length by omega)))
    have p1 := gain_bound (decide ((edAt es i).t = v)) (fl.getD i 0) h0
    have p2 := gain_bound (decide ((edAt es i).f = v)) (fl.getD i 0) h0
    rw [overAt_succ]
    omega
/-- The row while node v is reckoned. -/
def row (n : Nat) (es : List Ed) (fl : List Int) (v : Nat) (x : Int) : List Int := (List.range v).map (fun u => overAt es fl u fl.length) ++ x :: List.replicate (n - v - 1) 0
def pre (n : Nat) (es : List Ed) (fl : List Int) (v : Nat) : List Int := (List.range v).map (fun u => overAt es fl u fl.length) ++ List.replicate (n - v) 0
theorem row_length {n : Nat} {es : List Ed} {fl : List Int} {v : Nat} {x : Int} (h : v < n) : (row n es fl v x).length = n := by simp [row]; omega
theorem row_get {n : Nat} {es : List Ed} {fl : List Int} {v : Nat} {x : Int} : (row n es fl v x).getD v 0 = x := by
  unfold row
  rw [List.getD_eq_getElem?_getD, List.getElem?_append_right (by simp)]
  simp
theorem row_set {n : Nat} {es : List Ed} {fl : List Int} {v : Nat} {x y : Int} : (row n es fl v x).set v y = row n es fl v y := by
  unfold row
  rw [List.set_append_right _ _ (by simp)]
  simp
theorem row_start {n : Nat} {es : List Ed} {fl : List Int} {v : Nat} (h : v < n) : pre n es fl v = row n es fl v 0 := by
  unfold pre row
  rw [show n - v = (n - v - 1) + 1 by omega, List.replicate_succ]
  rfl
theorem row_end {n : Nat} {es : List Ed} {fl : List Int} {v : Nat} : row n es fl v (overAt es fl v fl.length) = pre n es fl (v + 1) := by
  unfold pre row
  rw [List.range_succ, List.map_append, List.append_assoc, show n - (v + 1) = n - v - 1 by omega]
  rfl
theorem pre_end (n : Nat) (es : List Ed) (fl : List Int) : pre n es fl n = overL n es fl := by simp [pre, overL]
def flowsB (n : Int) (es : List Ed) (fl : List Int) : Bool := withinB n es fl && (overV n es fl).all (fun x => x == 0)
theorem zero_no {l : List Int} {i : Nat} (hi : i < l.length) (h : l.getD i 0 ≠ 0) : l.all (fun x => x == 0) = false := by
  rw [Bool.eq_false_iff]; intro h'
  have := List.all_eq_true.1 h' _ (List.getElem_mem hi)
  exact h (by simpa [hi] using this)
theorem zero_all {l : List Int} (h : ∀ i, i < l.length → l.getD i 0 = 0) : l.all (fun x => x == 0) = true := by
  rw [List.all_eq_true]
  intro x hx
  obtain ⟨i, hi, rfl⟩ := List.getElem_of_mem hx
  simpa [hi] using h i hi
end Go.NetP
