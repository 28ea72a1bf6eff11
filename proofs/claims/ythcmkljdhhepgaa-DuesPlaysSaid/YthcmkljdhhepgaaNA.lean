/-
  Nets, arcs, pushes, proofs: plain.
-/
import Derived.Test.YthcmkljdhhepgaaLA
set_option linter.unusedVariables false
set_option linter.unusedSimpArgs false
namespace Go.NetP
open Go Go.Mem

/-- An edge. -/
structure Ed where
  f : Int
  t : Int
  c : Int
  k : Int
deriving DecidableEq
def edR : Rec Ed where
  m := 4
  cells e := [.int .i64 e.f, .int .i64 e.t, .int .i64 e.c, .int .i64 e.k]
  len _ := rfl
  one e u hu := by simp only [List.mem_cons, List.not_mem_nil, or_false] at hu; rcases hu with rfl | rfl | rfl | rfl <;> rfl
  pos := by decide

def nodeB (n i : Int) : Bool := decide (0 ≤ i) && decide (i < n)
theorem nodeB_iff (n i : Int) : nodeB n i = true ↔ 0 ≤ i ∧ i < n := by simp [nodeB]
def edgeB (n : Int) (e : Ed) : Bool := nodeB n e.f && nodeB n e.t && decide (0 ≤ e.c) && decide (e.c ≤ 4503599627370496) && decide (-1000 ≤ e.k) && decide (e.k ≤ 1000)
theorem edgeB_iff (n : Int) (e : Ed) : edgeB n e = true ↔ (0 ≤ e.f ∧ e.f < n) ∧ (0 ≤ e.t ∧ e.t < n) ∧ 0 ≤ e.c ∧ e.c ≤ 4503599627370496 ∧ -1000 ≤ e.k ∧ e.k ≤ 1000 := by
  simp [edgeB, nodeB_iff, and_assoc]
/-- A number without its sign. -/
def absI (x : Int) : Nat := x.natAbs
theorem absI_le {x : Int} (h : -1000 ≤ x ∧ x ≤ 1000) : absI x ≤ 1000 := by unfold absI; omega
/-- What an edge can cost at most. -/
def costE (e : Ed) : Nat := e.c.toNat * absI e.k
def costs (es : List Ed) : Nat := (es.map costE).sum
def edges (n : Int) (es : List Ed) : Bool := es.all (edgeB n)
def rightB (n : Int) (es : List Ed) : Bool := decide (1 ≤ n) && decide (n ≤ 40) && decide (es.length ≤ 200) && edges n es && decide (costs es ≤ 4611686018427387904)
theorem take_snoc {es : List Ed} {i : Nat} (h : i < es.length) : es.take (i + 1) = es.take i ++ [es[i]] := List.take_succ_eq_append_getElem h
theorem costs_snoc {es : List Ed} {i : Nat} (h : i < es.length) : costs (es.take (i + 1)) = costs (es.take i) + costE es[i] := by
  rw [take_snoc h]; unfold costs; rw [List.map_append, List.sum_append]; rfl
theorem costs_take (es : List Ed) (i : Nat) : costs (es.take i) ≤ costs es := by
  have : costs es = costs (es.take i) + costs (es.drop i) := by simp only [costs]; rw [← List.sum_append, ← List.map_append, List.take_append_drop]
  omega
theorem edges_snoc {n : Int} {es : List Ed} {i : Nat} (h : i < es.length) (h1 : edges n (es.take i) = true) (h2 : edgeB n es[i] = true) : edges n (es.take (i + 1)) = true := by
  rw [take_snoc h]; simp only [edges, List.all_append, List.all_cons, List.all_nil, Bool.and_true, Bool.and_eq_true] at *; exact ⟨h1, h2⟩
theorem right_n {n : Int} {es : List Ed} (h : n < 1 ∨ 40 < n ∨ 200 < es.length) : rightB n es = false := by
  rw [Bool.eq_false_iff]; intro h'; simp [rightB] at h'; omega
theorem right_edge {n : Int} {es : List Ed} {i : Nat} (hi : i < es.length) (h : edgeB n es[i] = false) : rightB n es = false := by
  have : edges n es = false := by
    rw [Bool.eq_false_iff]; intro h'
    have := List.all_eq_true.1 h' _ (List.getElem_mem hi)
    rw [this] at h; cases h
  simp [rightB, this]
theorem right_cost {n : Int} {es : List Ed} {i : Nat} (hi : i < es.length) (h : 4611686018427387904 < costs (es.take i) + costE es[i]) : rightB n es = false := by
  have h1 := costs_take es (i + 1)
  rw [costs_snoc hi] at h1
  have : ¬ costs es ≤ 4611686018427387904 := by omega
  simp [rightB, this]
theorem right_ok {n : Int} {es : List Ed} (h1 : 1 ≤ n) (h2 : n ≤ 40) (h3 : es.length ≤ 200) (h4 : edges n es = true) (h5 : costs es ≤ 4611686018427387904) : rightB n es = true := by
  simp [rightB, h1, h2, h3, h4, h5]
theorem costE_le {n : Int} {e : Ed} (h : edgeB n e = true) : costE e ≤ 4503599627370496000 := by
  have := (edgeB_iff _ _).1 h
  unfold costE absI
  have h1 : e.c.toNat ≤ 4503599627370496 := by omega
  have h2 : e.k.natAbs ≤ 1000 := by omega
  exact Nat.mul_le_mul h1 h2

/-- Whether an edge's number is within its bounds. -/
def capB (es : List Ed) (fl : List Int) (i : Nat) : Bool := match es[i]? with | some e => decide (0 ≤ fl.getD i 0) && decide (fl.getD i 0 ≤ e.c) | none => false
theorem capB_at {es : List Ed} {fl : List Int} {i : Nat} (h : i < es.length) : capB es fl i = (decide (0 ≤ fl.getD i 0) && decide (fl.getD i 0 ≤ es[i].c)) := by simp [capB, h]
def withinB (n : Int) (es : List Ed) (fl : List Int) : Bool := decide (fl.length = es.length) && rightB n es && (List.range fl.length).all (capB es fl)
theorem within_no {n : Int} {es : List Ed} {fl : List Int} {i : Nat} (hi : i < fl.length) (_ : i < es.length) (h : capB es fl i = false) : withinB n es fl = false := by
  have : (List.range fl.length).all (capB es fl) = false := by
    rw [Bool.eq_false_iff]; intro h'
    have := List.all_eq_true.1 h' i (List.mem_range.2 hi)
    rw [this] at h; cases h
  simp [withinB, this]
theorem within_ok {n : Int} {es : List Ed} {fl : List Int} (h1 : fl.length = es.length) (h2 : rightB n es = true) (h3 : ∀ j, j < fl.length → capB es fl j = true) : withinB n es fl = true := by
  have : (List.range fl.length).all (capB es fl) = true := List.all_eq_true.2 fun j hj => h3 j (List.mem_range.1 hj)
  simp [withinB, h1, h2, this]
  rw [← h1]; simpa using this
theorem within_cap {n : Int} {es : List Ed} {fl : List Int} (h : withinB n es fl = true) : fl.length = es.length ∧ rightB n es = true ∧ ∀ j, j < fl.length → capB es fl j = true := by
  simp only [withinB, Bool.and_eq_true, decide_eq_true_eq] at h
  exact ⟨h.1.1, h.1.2, fun j hj => List.all_eq_true.1 h.2 j (List.mem_range.2 hj)⟩

/-- What the first i edges' numbers cost. -/
def edAt (es : List Ed) (j : Nat) : Ed := es.getD j ⟨0, 0, 0, 0⟩
theorem edAt_of {es : List Ed} {j : Nat} (h : j < es.length) : edAt es j = es[j] := by simp [edAt, h]
def flowCost (es : List Ed) (fl : List Int) (i : Nat) : Int := ((List.range i).map (fun j => fl.getD j 0 * (edAt es j).k)).sum
theorem flowCost_succ (es : List Ed) (fl : List Int) (i : Nat) : flowCost es fl (i + 1) = flowCost es fl i + fl.getD i 0 * (edAt es i).k := by
  simp [flowCost, List.range_succ, List.sum_append]
def costV (n : Int) (es : List Ed) (fl : List Int) : Int := if withinB n es fl = true then flowCost es fl fl.length else 0
theorem right_cap {n : Int} {es : List Ed} (h : rightB n es = true) : 1 ≤ n ∧ n ≤ 40 ∧ es.length ≤ 200 ∧ costs es ≤ 4611686018427387904 ∧ ∀ e ∈ es, edgeB n e = true := by
  simp only [rightB, Bool.and_eq_true, decide_eq_true_eq] at h
  exact ⟨h.1.1.1.1, h.1.1.1.2, h.1.1.2, h.2, fun e he => List.all_eq_true.1 h.1.2 e he⟩
theorem within_at {n : Int} {es : List Ed} {fl : List Int} (h : withinB n es fl = true) {i : Nat} (hi : i < es.length) : 0 ≤ fl.getD i 0 ∧ fl.getD i 0 ≤ es[i].c := by
  obtain ⟨h1, _, h3⟩ := within_cap h
  have := h3 i (by omega)
  rw [capB_at hi] at this
  simpa using this
theorem flowCost_le {n : Int} {es : List Ed} {fl : List Int} (h : withinB n es fl = true) : ∀ i, i ≤ es.length → (flowCost es fl i).natAbs ≤ costs (es.take i)
  | 0, _ => by simp [flowCost]
  | i + 1, hi => by
    have ih := flowCost_le h i (by omega)
    have hlt : i < es.length := by omega
    obtain ⟨h0, h1⟩ := within_at h hlt
    rw [flowCost_succ, costs_snoc hlt, edAt_of hlt]
    have h2 : (fl.getD i 0 * es[i].k).natAbs ≤ costE es[i] := by
      rw [Int.natAbs_mul]
      unfold costE absI
      exact Nat.mul_le_mul (by omega) (Nat.le_refl _)
    have := Int.natAbs_add_le (flowCost es fl i) (fl.getD i 0 * es[i].k)
    omega
theorem flowCost_bound {n : Int} {es : List Ed} {fl : List Int} (h : withinB n es fl = true) {i : Nat} (hi : i ≤ es.length) : -4611686018427387904 ≤ flowCost es fl i ∧ flowCost es fl i ≤ 4611686018427387904 := by
  have h1 := flowCost_le h i hi
  have h2 := costs_take es i
  obtain ⟨_, _, _, h3, _⟩ := right_cap (within_cap h).2.1
  omega
theorem costP_bound {n : Int} {es : List Ed} {fl : List Int} (h : withinB n es fl = true) {i : Nat} (hi : i < es.length) : -4503599627370496000 ≤ fl.getD i 0 * es[i].k ∧ fl.getD i 0 * es[i].k ≤ 4503599627370496000 := by
  obtain ⟨h0, h1⟩ := within_at h hi
  obtain ⟨_, _, _, _, h3⟩ := right_cap (within_cap h).2.1
  have h4 := costE_le (h3 _ (List.getElem_mem hi))
  have h2 : (fl.getD i 0 * es[i].k).natAbs ≤ costE es[i] := by
    rw [Int.natAbs_mul]
    unfold costE absI
    exact Nat.mul_le_mul (by omega) (Nat.le_refl _)
  omega
end Go.NetP
namespace Go.NetP
open Go Go.Mem

def gain (c : Bool) (x : Int) : Int := if c = true then x else 0
/-- What the first i edges bring to node v. -/
def overAt (es : List Ed) (fl : List Int) (v : Nat) (i : Nat) : Int := ((List.range i).map (fun j => gain (decide ((edAt es j).t = v)) (fl.getD j 0) - gain (decide ((edAt es j).f = v)) (fl.getD j 0))).sum
theorem overAt_succ (es : List Ed) (fl : List Int) (v i : Nat) : overAt es fl v (i + 1) = overAt es fl v i + gain (decide ((edAt es i).t = v)) (fl.getD i 0) - gain (decide ((edAt es i).f = v)) (fl.getD i 0) := by
  simp only [overAt, List.range_succ, List.map_append, List.sum_append, List.map_cons, List.map_nil, List.sum_cons, List.sum_nil]; omega
theorem gain_bound (c : Bool) (x : Int) (h : 0 ≤ x) : 0 ≤ gain c x ∧ gain c x ≤ x := by unfold gain; split <;> omega
def overL (n : Nat) (es : List Ed) (fl : List Int) : List Int := (List.range n).map (fun u => overAt es fl u fl.length)
def overV (n : Int) (es : List Ed) (fl : List Int) : List Int := if withinB n es fl = true then overL n.toNat es fl else []
theorem overAt_bound {n : Int} {es : List Ed} {fl : List Int} (h : withinB n es fl = true) (v : Nat) : ∀ i, i ≤ es.length → -(i * 4503599627370496 : Int) ≤ overAt es fl v i ∧ overAt es fl v i ≤ i * 4503599627370496
  | 0, _ => by simp [overAt]
  | i + 1, hi => by
    have ih := overAt_bound h v i (by omega)
    obtain ⟨h0, h1⟩ := within_at h (show i < es.length by omega)
    obtain ⟨_, _, _, _, h3⟩ := right_cap (within_cap h).2.1
    have h4 := (edgeB_iff _ _).1 (h3 _ (List.getElem_mem (show i < es.length by omega)))
    have p1 := gain_bound (decide ((edAt es i).t = v)) (fl.getD i 0) h0
    have p2 := gain_bound (decide ((edAt es i).f = v)) (fl.getD i 0) h0
    rw [overAt_succ]
    omega
/-- The row while node v is reckoned. -/
def row (n : Nat) (es : List Ed) (fl : List Int) (v : Nat) (x : Int) : List Int := (List.range v).map (fun u => overAt es fl u fl.length) ++ x :: List.replicate (n - v - 1) 0
def pre (n : Nat) (es : List Ed) (fl : List Int) (v : Nat) : List Int := (List.range v).map (fun u => overAt es fl u fl.length) ++ List.replicate (n - v) 0
theorem row_length {n : Nat} {es : List Ed} {fl : List Int} {v : Nat} {x : Int} (h : v < n) : (row n es fl v x).length = n := by simp [row]; omega
theorem row_get {n : Nat} {es : List Ed} {fl : List Int} {v : Nat} {x : Int} : (row n es fl v x).getD v 0 = x := by
  unfold row
  rw [List.getD_eq_getElem?_getD, List.getElem?_append_right (by simp)]
  simp
theorem row_set {n : Nat} {es : List Ed} {fl : List Int} {v : Nat} {x y : Int} : (row n es fl v x).set v y = row n es fl v y := by
  unfold row
  rw [List.set_append_right _ _ (by simp)]
  simp
theorem row_start {n : Nat} {es : List Ed} {fl : List Int} {v : Nat} (h : v < n) : pre n es fl v = row n es fl v 0 := by
  unfold pre row
  rw [show n - v = (n - v - 1) + 1 by omega, List.replicate_succ]
  rfl
theorem row_end {n : Nat} {es : List Ed} {fl : List Int} {v : Nat} : row n es fl v (overAt es fl v fl.length) = pre n es fl (v + 1) := by
  unfold pre row
  rw [List.range_succ, List.map_append, List.append_assoc, show n - (v + 1) = n - v - 1 by omega]
  rfl
theorem pre_end (n : Nat) (es : List Ed) (fl : List Int) : pre n es fl n = overL n es fl := by simp [pre, overL]
def flowsB (n : Int) (es : List Ed) (fl : List Int) : Bool := withinB n es fl && (overV n es fl).all (fun x => x == 0)
theorem zero_no {l : List Int} {i : Nat} (hi : i < l.length) (h : l.getD i 0 ≠ 0) : l.all (fun x => x == 0) = false := by
  rw [Bool.eq_false_iff]; intro h'
  have := List.all_eq_true.1 h' _ (List.getElem_mem hi)
  exact h (by simpa [hi] using this)
theorem zero_all {l : List Int} (h : ∀ i, i < l.length → l.getD i 0 = 0) : l.all (fun x => x == 0) = true := by
  rw [List.all_eq_true]
  intro x hx
  obtain ⟨i, hi, rfl⟩ := List.getElem_of_mem hx
  simpa [hi] using h i hi
end Go.NetP
namespace Go.NetP
open Go Go.Mem

/-- What the first i nodes have over, by the first m edges. -/
def psum (es : List Ed) (fl : List Int) (i : Nat) : Nat → Int
  | 0 => 0
  | m + 1 => psum es fl i m + (gain (decide ((edAt es m).t < i)) (fl.getD m 0) - gain (decide ((edAt es m).f < i)) (fl.getD m 0))
theorem psum_zero (es : List Ed) (fl : List Int) (m : Nat) (h : ∀ j, j < m → 0 ≤ (edAt es j).t ∧ 0 ≤ (edAt es j).f) : psum es fl 0 m = 0 := by
  induction m with
  | zero => rfl
  | succ m ih =>
    obtain ⟨h0, h1⟩ := h m (by omega)
    have a : ¬ (edAt es m).t < ((0 : Nat) : Int) := by omega
    have b : ¬ (edAt es m).f < ((0 : Nat) : Int) := by omega
    simp only [psum, ih (fun j hj => h j (by omega)), a, b]
    simp [gain]
theorem psum_succ (es : List Ed) (fl : List Int) (i : Nat) : ∀ m, psum es fl (i + 1) m = psum es fl i m + overAt es fl i m
  | 0 => by simp [psum, overAt]
  | m + 1 => by
    rw [psum, psum, overAt_succ, psum_succ es fl i m]
    have key : ∀ t x : Int, gain (decide (t < ((i + 1 : Nat) : Int))) x = gain (decide (t < (i : Int))) x + gain (decide (t = (i : Int))) x := by
      intro t x
      unfold gain
      rcases Int.lt_trichotomy t i with h | h | h
      · rw [decide_eq_true (show t < ((i + 1 : Nat) : Int) by omega), decide_eq_true h, decide_eq_false (show ¬ t = (i : Int) by omega)]; simp
      · rw [decide_eq_true (show t < ((i + 1 : Nat) : Int) by omega), decide_eq_false (show ¬ t < (i : Int) by omega), decide_eq_true h]; simp
      · rw [decide_eq_false (show ¬ t < ((i + 1 : Nat) : Int) by omega), decide_eq_false (show ¬ t < (i : Int) by omega), decide_eq_false (show ¬ t = (i : Int) by omega)]; simp
    rw [key, key]; omega
theorem sum_take_over (n : Nat) (es : List Ed) (fl : List Int) (h : ∀ j, j < fl.length → 0 ≤ (edAt es j).t ∧ 0 ≤ (edAt es j).f) : ∀ i, i ≤ n → ((overL n es fl).take i).sum = psum es fl i fl.length
  | 0, _ => by simp [psum_zero es fl fl.length h]
  | i + 1, hi => by
    have hl : i < (overL n es fl).length := by simp [overL]; omega
    rw [List.take_succ_eq_append_getElem hl, List.sum_append, sum_take_over n es fl h i (by omega), psum_succ]
    simp [overL]
theorem psum_bound {n : Int} {es : List Ed} {fl : List Int} (h : withinB n es fl = true) (i : Nat) : ∀ m, m ≤ es.length → -(m * 4503599627370496 : Int) ≤ psum es fl i m ∧ psum es fl i m ≤ m * 4503599627370496
  | 0, _ => by simp [psum]
  | m + 1, hm => by
    have ih := psum_bound h i m (by omega)
    obtain ⟨h0, h1⟩ := within_at h (show m < es.length by omega)
    obtain ⟨_, _, _, _, h3⟩ := right_cap (within_cap h).2.1
    have h4 := (edgeB_iff _ _).1 (h3 _ (List.getElem_mem (show m < es.length by omega)))
    have p1 := gain_bound (decide ((edAt es m).t < i)) (fl.getD m 0) h0
    have p2 := gain_bound (decide ((edAt es m).f < i)) (fl.getD m 0) h0
    rw [psum]; omega
theorem psum_all {n : Nat} {es : List Ed} {fl : List Int} (h : ∀ j, j < fl.length → (edAt es j).t < n ∧ (edAt es j).f < n) : ∀ m, m ≤ fl.length → psum es fl n m = 0
  | 0, _ => rfl
  | m + 1, hm => by
    obtain ⟨a, b⟩ := h m (by omega)
    rw [psum, psum_all h m (by omega)]
    simp [gain, a, b]
theorem within_ends {n : Nat} {es : List Ed} {fl : List Int} (h : withinB n es fl = true) (j : Nat) (hj : j < fl.length) : (0 ≤ (edAt es j).t ∧ (edAt es j).t < n) ∧ 0 ≤ (edAt es j).f ∧ (edAt es j).f < n := by
  have hl := (within_cap h).1
  have hj' : j < es.length := by omega
  obtain ⟨_, _, _, _, h3⟩ := right_cap (within_cap h).2.1
  have h4 := (edgeB_iff _ _).1 (h3 _ (List.getElem_mem hj'))
  rw [edAt_of hj']
  exact ⟨h4.2.1, h4.1⟩
theorem sums_bound {n : Nat} {es : List Ed} {fl : List Int} (h : withinB n es fl = true) {i : Nat} (hi : i ≤ n) : -900719925474099200 ≤ ((overL n es fl).take i).sum ∧ ((overL n es fl).take i).sum ≤ 900719925474099200 := by
  rw [sum_take_over n es fl (fun j hj => ⟨(within_ends h j hj).1.1, (within_ends h j hj).2.1⟩) i hi]
  have hl := (within_cap h).1
  have := psum_bound h i fl.length (by omega)
  have h2 := (right_cap (within_cap h).2.1).2.2.1
  omega
theorem sums_zero {n : Nat} {es : List Ed} {fl : List Int} (h : withinB n es fl = true) : (overL n es fl).sum = 0 := by
  have := sum_take_over n es fl (fun j hj => ⟨(within_ends h j hj).1.1, (within_ends h j hj).2.1⟩) n (Nat.le_refl _)
  rw [List.take_of_length_le (by simp [overL])] at this
  rw [this, psum_all (fun j hj => ⟨(within_ends h j hj).1.2, (within_ends h j hj).2.2⟩) _ (Nat.le_refl _)]
theorem over_len {n : Nat} {es : List Ed} {fl : List Int} : (overL n es fl).length = n := by simp [overL]
theorem over_at_bound {n : Nat} {es : List Ed} {fl : List Int} (h : withinB n es fl = true) (i : Nat) (hi : i < n) : -900719925474099200 ≤ (overL n es fl).getD i 0 ∧ (overL n es fl).getD i 0 ≤ 900719925474099200 := by
  have hl := (within_cap h).1
  have h2 := (right_cap (within_cap h).2.1).2.2.1
  have := overAt_bound h i fl.length (by omega)
  have e : (overL n es fl).getD i 0 = overAt es fl i fl.length := by simp [overL, hi]
  rw [e]; omega
theorem sum_take_succ (l : List Int) {i : Nat} (h : i < l.length) : (l.take (i + 1)).sum = (l.take i).sum + l.getD i 0 := by
  rw [List.take_succ_eq_append_getElem h, List.sum_append]
  simp [h]
theorem zero_take_succ (l : List Int) {i : Nat} (h : i < l.length) : (l.take (i + 1)).all (fun x => x == 0) = ((l.take i).all (fun x => x == 0) && (l.getD i 0 == 0)) := by
  rw [List.take_succ_eq_append_getElem h, List.all_append]
  simp [h]
end Go.NetP
namespace Go.NetP
open Go Go.Mem

/-- The first i numbers summed. -/
def stepL (a b : List Int) (i : Nat) : List Int := (List.range a.length).map fun j => if j < i then a.getD j 0 + b.getD j 0 else a.getD j 0
def sumL (a b : List Int) : List Int := stepL a b a.length
theorem stepL_length (a b : List Int) (i : Nat) : (stepL a b i).length = a.length := by simp [stepL]
theorem stepL_zero (a b : List Int) : stepL a b 0 = a := by
  refine List.ext_getElem (by simp [stepL]) fun j h1 h2 => ?_
  simp [stepL, h2]
theorem stepL_get (a b : List Int) {i : Nat} (h : i < a.length) : (stepL a b i).getD i 0 = a.getD i 0 := by simp [stepL, h]
theorem stepL_set (a b : List Int) {i : Nat} (h : i < a.length) : (stepL a b i).set i (a.getD i 0 + b.getD i 0) = stepL a b (i + 1) := by
  refine List.ext_getElem (by simp [stepL]) fun j h1 h2 => ?_
  rw [List.getElem_set]
  simp only [stepL, List.getElem_map, List.getElem_range]
  by_cases e : i = j
  · subst e; simp
  · by_cases e2 : j < i
    · have : j < i + 1 := by omega
      simp [e, e2, this]
    · have : ¬ j < i + 1 := by omega
      simp [e, e2, this]
theorem sumL_length (a b : List Int) : (sumL a b).length = a.length := stepL_length _ _ _
theorem sumL_get (a b : List Int) {j : Nat} (h : j < a.length) : (sumL a b).getD j 0 = a.getD j 0 + b.getD j 0 := by simp [sumL, stepL, h]
theorem gain_add (c : Bool) (x y : Int) : gain c (x + y) = gain c x + gain c y := by unfold gain; split <;> omega
theorem overAt_add (es : List Ed) (a b : List Int) (v : Nat) : ∀ m, m ≤ a.length → overAt es (sumL a b) v m = overAt es a v m + overAt es b v m
  | 0, _ => by simp [overAt]
  | m + 1, h => by rw [overAt_succ, overAt_succ, overAt_succ, overAt_add es a b v m (by omega), sumL_get a b (by omega), gain_add, gain_add]; omega
theorem flowCost_add (es : List Ed) (a b : List Int) : ∀ m, m ≤ a.length → flowCost es (sumL a b) m = flowCost es a m + flowCost es b m
  | 0, _ => by simp [flowCost]
  | m + 1, h => by rw [flowCost_succ, flowCost_succ, flowCost_succ, flowCost_add es a b m (by omega), sumL_get a b (by omega), Int.add_mul]; omega
theorem over_get {n : Nat} (es : List Ed) (fl : List Int) {v : Nat} (h : v < n) : (overL n es fl).getD v 0 = overAt es fl v fl.length := by simp [overL, h]
theorem over_add {n : Nat} (es : List Ed) (a b : List Int) (hl : a.length = b.length) {v : Nat} (h : v < n) : (overL n es (sumL a b)).getD v 0 = (overL n es a).getD v 0 + (overL n es b).getD v 0 := by
  rw [over_get _ _ h, over_get _ _ h, over_get _ _ h, sumL_length, overAt_add es a b v _ (Nat.le_refl _), hl]
theorem all_zero {l : List Int} : l.all (fun x => x == 0) = true ↔ ∀ i, i < l.length → l.getD i 0 = 0 := by
  constructor
  · intro h i hi
    have := List.all_eq_true.1 h _ (List.getElem_mem hi)
    simpa [hi] using this
  · exact zero_all
/-- Of two flows and their sum: where one flows, the other flows just if the sum does. -/
theorem flows_add {n : Nat} {es : List Ed} {a b : List Int} (ha : withinB n es a = true) (hb : withinB n es b = true) (hc : withinB n es (sumL a b) = true) :
    (flowsB n es a = true → flowsB n es b = flowsB n es (sumL a b)) ∧ (flowsB n es b = true → flowsB n es a = flowsB n es (sumL a b)) := by
  have hl : a.length = b.length := by rw [(within_cap ha).1, (within_cap hb).1]
  have f : ∀ x, withinB n es x = true → flowsB n es x = (overL n es x).all (fun x => x == 0) := fun x h => by simp [flowsB, overV, h]
  rw [f _ ha, f _ hb, f _ hc]
  constructor
  · intro h
    have h := all_zero.1 h
    rw [Bool.eq_iff_iff, all_zero, all_zero]
    rw [over_len] at h ⊢
    rw [over_len]
    constructor
    · intro k i hi; rw [over_add es a b hl hi, h i hi, k i hi]; rfl
    · intro k i hi; have := k i hi; rw [over_add es a b hl hi, h i hi] at this; omega
  · intro h
    have h := all_zero.1 h
    rw [Bool.eq_iff_iff, all_zero, all_zero]
    rw [over_len] at h ⊢
    rw [over_len]
    constructor
    · intro k i hi; rw [over_add es a b hl hi, h i hi, k i hi]; rfl
    · intro k i hi; have := k i hi; rw [over_add es a b hl hi, h i hi] at this; omega
end Go.NetP
namespace Go.RestP
open Go Go.Mem Go.NetP

def hasB (l : Nat) (a : Int) : Bool := decide (0 ≤ a) && decide (a < 2 * (l : Int))
theorem hasB_iff (l : Nat) (a : Int) : hasB l a = true ↔ 0 ≤ a ∧ a < 2 * (l : Int) := by simp [hasB]
/-- An arc against its edge. -/
def oddB (a : Nat) : Bool := a % 2 == 1
def endsE (es : List Ed) (a : Nat) : Int × Int × Int := if oddB a = true then ((edAt es (a / 2)).t, (edAt es (a / 2)).f, -(edAt es (a / 2)).k) else ((edAt es (a / 2)).f, (edAt es (a / 2)).t, (edAt es (a / 2)).k)
def endsV (n : Int) (es : List Ed) (a : Int) : Int × Int × Int := if (hasB es.length a && rightB n es) = true then endsE es a.toNat else (0, 0, 0)
def roomE (es : List Ed) (fl : List Int) (a : Nat) : Int := if oddB a = true then fl.getD (a / 2) 0 else (edAt es (a / 2)).c - fl.getD (a / 2) 0
def roomV (n : Int) (es : List Ed) (fl : List Int) (a : Int) : Int := if (hasB es.length a && withinB n es fl) = true then roomE es fl a.toNat else 0
def sgn (a : Nat) (b : Int) : Int := if oddB a = true then -b else b
def pushL (fl : List Int) (a : Nat) (b : Int) : List Int := fl.set (a / 2) (fl.getD (a / 2) 0 + sgn a b)
/-- What a push answers. -/
def pushE (n : Int) (es : List Ed) (fl : List Int) (a b : Int) : Int := if b < 0 ∨ hasB es.length a = false ∨ withinB n es fl = false then 1 else if roomE es fl a.toNat < b then 7 else 0
def pushV (n : Int) (es : List Ed) (fl : List Int) (a b : Int) : List Int := if pushE n es fl a b = 0 then pushL fl a.toNat b else []
theorem pushE_no {n : Int} {es : List Ed} {fl : List Int} {a b : Int} (h : b < 0 ∨ hasB es.length a = false ∨ withinB n es fl = false) : pushE n es fl a b = 1 ∧ pushV n es fl a b = [] := by
  have : pushE n es fl a b = 1 := by unfold pushE; rw [if_pos h]
  exact ⟨this, by unfold pushV; rw [this]; rfl⟩
theorem pushE_full {n : Int} {es : List Ed} {fl : List Int} {a b : Int} (h0 : 0 ≤ b) (h1 : hasB es.length a = true) (h2 : withinB n es fl = true) (h : roomE es fl a.toNat < b) : pushE n es fl a b = 7 ∧ pushV n es fl a b = [] := by
  have : pushE n es fl a b = 7 := by
    unfold pushE
    rw [if_neg (by rintro (q | q | q); omega; rw [h1] at q; cases q; rw [h2] at q; cases q), if_pos h]
  exact ⟨this, by unfold pushV; rw [this]; rfl⟩
theorem pushE_ok {n : Int} {es : List Ed} {fl : List Int} {a b : Int} (h0 : 0 ≤ b) (h1 : hasB es.length a = true) (h2 : withinB n es fl = true) (h : b ≤ roomE es fl a.toNat) : pushE n es fl a b = 0 ∧ pushV n es fl a b = pushL fl a.toNat b := by
  have : pushE n es fl a b = 0 := by
    unfold pushE
    rw [if_neg (by rintro (q | q | q); omega; rw [h1] at q; cases q; rw [h2] at q; cases q), if_neg (by omega)]
  exact ⟨this, by unfold pushV; rw [if_pos this]⟩
theorem has_half {l : Nat} {a : Nat} (h : hasB l a = true) : a / 2 < l := by have := (hasB_iff _ _).1 h; omega
/-- The rooms of what is within. -/
theorem room_bound {n : Int} {es : List Ed} {fl : List Int} (h : withinB n es fl = true) {a : Nat} (ha : hasB es.length a = true) : 0 ≤ roomE es fl a ∧ roomE es fl a ≤ 4503599627370496 := by
  have hh := has_half ha
  obtain ⟨h0, h1⟩ := within_at h hh
  have he := (edgeB_iff _ _).1 ((right_cap (within_cap h).2.1).2.2.2.2 _ (List.getElem_mem hh))
  unfold roomE
  rw [edAt_of hh]
  split <;> omega
theorem pushL_length (fl : List Int) (a : Nat) (b : Int) : (pushL fl a b).length = fl.length := by simp [pushL]
end Go.RestP
namespace Go.RestP
open Go Go.Mem Go.NetP

def arcAt (arcs : List Int) (j : Nat) : Nat := (arcs.getD j 0).toNat
def stepB (es : List Ed) (arcs : List Int) (j : Nat) : Bool := hasB es.length (arcs.getD j 0) && (j == 0 || (endsE es (arcAt arcs j)).1 == (endsE es (arcAt arcs (j - 1))).2.1)
def okW (es : List Ed) (arcs : List Int) (i : Nat) : Bool := (List.range i).all (stepB es arcs)
def wayB (n : Int) (es : List Ed) (arcs : List Int) : Bool := decide (0 < arcs.length) && rightB n es && okW es arcs arcs.length
def lastV (es : List Ed) (arcs : List Int) (i : Nat) : Int := if i = 0 then 0 else (endsE es (arcAt arcs (i - 1))).2.1
theorem okW_succ (es : List Ed) (arcs : List Int) (i : Nat) : okW es arcs (i + 1) = (okW es arcs i && stepB es arcs i) := by simp [okW, List.range_succ, List.all_append]
theorem way_step {n : Int} {es : List Ed} {arcs : List Int} {i : Nat} (hi : i < arcs.length) (h : stepB es arcs i = false) : wayB n es arcs = false := by
  have : okW es arcs arcs.length = false := by
    rw [Bool.eq_false_iff]; intro h'
    have := List.all_eq_true.1 h' i (List.mem_range.2 hi)
    rw [this] at h; cases h
  simp [wayB, this]
theorem way_cap {n : Int} {es : List Ed} {arcs : List Int} (h : wayB n es arcs = true) : 0 < arcs.length ∧ rightB n es = true ∧ ∀ j, j < arcs.length → stepB es arcs j = true := by
  simp only [wayB, Bool.and_eq_true, decide_eq_true_eq] at h
  exact ⟨h.1.1, h.1.2, fun j hj => List.all_eq_true.1 h.2 j (List.mem_range.2 hj)⟩
theorem step_has {es : List Ed} {arcs : List Int} {j : Nat} (h : stepB es arcs j = true) : hasB es.length (arcs.getD j 0) = true := by
  simp only [stepB, Bool.and_eq_true] at h; exact h.1
theorem has_cast {l : Nat} {x : Int} (h : hasB l x = true) : x = (x.toNat : Int) := by have := (hasB_iff _ _).1 h; omega
theorem has_nat {l : Nat} {x : Int} (h : hasB l x = true) : hasB l (x.toNat : Int) = true := by rw [← has_cast h]; exact h

/-- One push of the way. -/
def alongO (es : List Ed) (b : Int) (o : Option (List Int)) (a : Int) : Option (List Int) := o.bind fun l => if roomE es l a.toNat < b then none else some (pushL l a.toNat b)
def alongF (es : List Ed) (fl : List Int) (b : Int) (arcs : List Int) : Option (List Int) := arcs.foldl (alongO es b) (some fl)
theorem along_none (es : List Ed) (b : Int) : ∀ arcs : List Int, arcs.foldl (alongO es b) none = none
  | [] => rfl
  | a :: t => by rw [List.foldl_cons]; exact along_none es b t
theorem along_succ {es : List Ed} {fl : List Int} {b : Int} {arcs : List Int} {i : Nat} (hi : i < arcs.length) : alongF es fl b (arcs.take (i + 1)) = alongO es b (alongF es fl b (arcs.take i)) (arcs.getD i 0) := by
  unfold alongF
  rw [List.take_succ_eq_append_getElem hi, List.foldl_append]
  simp [hi]
theorem along_stop {es : List Ed} {fl : List Int} {b : Int} {arcs : List Int} {i : Nat} (h : alongF es fl b (arcs.take i) = none) : alongF es fl b arcs = none := by
  unfold alongF at h ⊢
  have e : arcs.foldl (alongO es b) (some fl) = (arcs.drop i).foldl (alongO es b) ((arcs.take i).foldl (alongO es b) (some fl)) := by rw [← List.foldl_append, List.take_append_drop]
  rw [e, h, along_none]
def alongBad (n : Int) (es : List Ed) (fl arcs : List Int) (b : Int) : Bool := decide (b < 0) || !wayB n es arcs || !withinB n es fl
def alongE (n : Int) (es : List Ed) (fl arcs : List Int) (b : Int) : Int := if alongBad n es fl arcs b = true then 1 else match alongF es fl b arcs with | none => 7 | some _ => 0
def alongV (n : Int) (es : List Ed) (fl arcs : List Int) (b : Int) : List Int := if alongBad n es fl arcs b = true then [] else match alongF es fl b arcs with | none => [] | some l => l
theorem along_bad {n : Int} {es : List Ed} {fl arcs : List Int} {b : Int} (h : alongBad n es fl arcs b = true) : alongE n es fl arcs b = 1 ∧ alongV n es fl arcs b = [] := by simp [alongE, alongV, h]
theorem along_full {n : Int} {es : List Ed} {fl arcs : List Int} {b : Int} (h : alongBad n es fl arcs b = false) (h2 : alongF es fl b arcs = none) : alongE n es fl arcs b = 7 ∧ alongV n es fl arcs b = [] := by simp [alongE, alongV, h, h2]
theorem along_ok {n : Int} {es : List Ed} {fl arcs l : List Int} {b : Int} (h : alongBad n es fl arcs b = false) (h2 : alongF es fl b arcs = some l) : alongE n es fl arcs b = 0 ∧ alongV n es fl arcs b = l := by simp [alongE, alongV, h, h2]

theorem push_get {fl : List Int} {a : Nat} {b : Int} {j : Nat} (hj : j < fl.length) : (pushL fl a b).getD j 0 = if a / 2 = j then fl.getD j 0 + sgn a b else fl.getD j 0 := by
  unfold pushL
  simp only [List.getD_eq_getElem?_getD, List.getElem?_set]
  by_cases h : a / 2 = j
  · subst h; simp [hj]
  · simp [h]
/-- What is pushed where there is room stays within. -/
theorem push_within {n : Int} {es : List Ed} {fl : List Int} {a : Nat} {b : Int} (h : withinB n es fl = true) (ha : hasB es.length a = true) (h0 : 0 ≤ b) (h1 : b ≤ roomE es fl a) : withinB n es (pushL fl a b) = true := by
  have hl := (within_cap h).1
  have hh := has_half ha
  refine within_ok (by rw [pushL_length, hl]) (within_cap h).2.1 fun j hj => ?_
  rw [pushL_length] at hj
  have hje : j < es.length := by omega
  rw [capB_at hje, push_get hj, Bool.and_eq_true, decide_eq_true_eq, decide_eq_true_eq]
  obtain ⟨q0, q1⟩ := within_at h hje
  by_cases e : a / 2 = j
  · subst e
    rw [if_pos rfl]
    unfold roomE at h1
    unfold sgn
    rw [edAt_of hh] at h1
    split at h1
    · rename_i ho; rw [if_pos ho]; omega
    · rename_i ho; rw [if_neg ho]; omega
  · rw [if_neg e]; exact ⟨q0, q1⟩
end Go.RestP
namespace Go.RestP
open Go Go.Mem Go.NetP

/-- How often an arc is among the first i. -/
def cnt (arcs : List Int) (i : Nat) (x : Int) : Int := ((arcs.take i).count x : Int)
theorem cnt_zero (arcs : List Int) (x : Int) : cnt arcs 0 x = 0 := by simp [cnt]
theorem cnt_succ {arcs : List Int} {i : Nat} (hi : i < arcs.length) (x : Int) : cnt arcs (i + 1) x = cnt arcs i x + if arcs.getD i 0 = x then 1 else 0 := by
  unfold cnt
  rw [List.take_succ_eq_append_getElem hi, List.count_append]
  simp only [List.getD_eq_getElem?_getD, List.getElem?_eq_getElem hi, Option.getD_some]
  by_cases h : arcs[i] = x
  · subst h; simp
  · simp [h]
theorem cnt_bound (arcs : List Int) (i : Nat) (x : Int) : 0 ≤ cnt arcs i x ∧ cnt arcs i x ≤ i := by
  unfold cnt
  have h1 := List.count_le_length (a := x) (l := arcs.take i)
  have h2 : (arcs.take i).length ≤ i := List.length_take_le _ _
  omega
/-- How often more than its other one, this one among them. -/
def need (arcs : List Int) (i : Nat) : Int := 1 + cnt arcs i (arcs.getD i 0) - cnt arcs i (Mem.flip (arcAt arcs i) : Nat)
def pairN (arcs : List Int) (i e : Nat) : Int := cnt arcs i ((2 * e : Nat) : Int) - cnt arcs i ((2 * e + 1 : Nat) : Int)
/-- What flows when i pushes are done. -/
theorem along_get {es : List Ed} {fl : List Int} {b : Int} {arcs : List Int} (hw : ∀ j, j < arcs.length → hasB es.length (arcs.getD j 0) = true) (hl : fl.length = es.length) :
    ∀ (i : Nat) (l : List Int), i ≤ arcs.length → alongF es fl b (arcs.take i) = some l → l.length = fl.length ∧ ∀ e, e < fl.length → l.getD e 0 = fl.getD e 0 + b * pairN arcs i e
  | 0, l, _, h => by
    have : l = fl := by simpa [alongF] using h.symm
    subst this
    exact ⟨rfl, fun e _ => by simp [pairN, cnt_zero]⟩
  | i + 1, l, hi, h => by
    have hlt : i < arcs.length := by omega
    rw [along_succ hlt] at h
    cases hp : alongF es fl b (arcs.take i) with
    | none => rw [hp] at h; simp [alongO] at h
    | some l0 =>
      rw [hp] at h
      obtain ⟨h1, h2⟩ := along_get hw hl i l0 (by omega) hp
      simp only [alongO, Option.bind_some] at h
      split at h
      · cases h
      · have hl2 : l = pushL l0 (arcs.getD i 0).toNat b := (Option.some.inj h).symm
        subst hl2
        refine ⟨by rw [pushL_length, h1], fun e he => ?_⟩
        have hh := has_cast (hw i hlt)
        have hhf := has_half (has_nat (hw i hlt))
        obtain ⟨a, ha⟩ : ∃ a : Nat, (arcs.getD i 0).toNat = a := ⟨_, rfl⟩
        rw [ha] at hh hhf ⊢
        rw [push_get (by omega), h2 e he]
        have c0 := cnt_succ hlt ((2 * e : Nat) : Int)
        have c1 := cnt_succ hlt ((2 * e + 1 : Nat) : Int)
        rw [hh] at c0 c1
        unfold pairN
        rw [c0, c1]
        unfold sgn oddB
        by_cases hq : a / 2 = e
        · rw [if_pos hq]
          rcases Nat.mod_two_eq_zero_or_one a with hm | hm
          · have e1 : (a : Int) = ((2 * e : Nat) : Int) := by omega
            have e2 : ¬ (a : Int) = ((2 * e + 1 : Nat) : Int) := by omega
            rw [if_pos e1, if_neg e2, hm]
            simp
            rw [show cnt arcs i (2 * (e : Int)) + 1 - cnt arcs i (2 * (e : Int) + 1) = (cnt arcs i (2 * (e : Int)) - cnt arcs i (2 * (e : Int) + 1)) + 1 by omega, Int.mul_add, Int.mul_one]; omega
          · have e1 : ¬ (a : Int) = ((2 * e : Nat) : Int) := by omega
            have e2 : (a : Int) = ((2 * e + 1 : Nat) : Int) := by omega
            rw [if_neg e1, if_pos e2, hm]
            simp
            rw [show cnt arcs i (2 * (e : Int)) - (cnt arcs i (2 * (e : Int) + 1) + 1) = (cnt arcs i (2 * (e : Int)) - cnt arcs i (2 * (e : Int) + 1)) - 1 by omega, Int.mul_sub (b) (cnt arcs i (2 * (e : Int)) - cnt arcs i (2 * (e : Int) + 1)) 1, Int.mul_one]; omega
        · have e1 : ¬ (a : Int) = ((2 * e : Nat) : Int) := by omega
          have e2 : ¬ (a : Int) = ((2 * e + 1 : Nat) : Int) := by omega
          rw [if_neg hq, if_neg e1, if_neg e2]; simp
/-- The room that is left ahead of push i. -/
theorem along_room {es : List Ed} {fl : List Int} {b : Int} {arcs : List Int} (hw : ∀ j, j < arcs.length → hasB es.length (arcs.getD j 0) = true) (hl : fl.length = es.length) {i : Nat} (hi : i < arcs.length) {l : List Int} (h : alongF es fl b (arcs.take i) = some l) :
    roomE es l (arcAt arcs i) = roomE es fl (arcAt arcs i) - b * (need arcs i - 1) := by
  obtain ⟨h1, h2⟩ := along_get hw hl i l (by omega) h
  have hh := has_cast (hw i hi)
  have hhf := has_half (has_nat (hw i hi))
  unfold need
  unfold arcAt
  obtain ⟨a, ha⟩ : ∃ a : Nat, (arcs.getD i 0).toNat = a := ⟨_, rfl⟩
  rw [ha] at hh hhf ⊢
  rw [hh]
  have h3 := h2 (a / 2) (by omega)
  unfold roomE oddB
  rw [h3]
  unfold pairN Mem.flip
  rcases Nat.mod_two_eq_zero_or_one a with hm | hm
  · have e1 : ((2 * (a / 2) : Nat) : Int) = (a : Int) := by omega
    have e2 : ((2 * (a / 2) + 1 : Nat) : Int) = ((a + 1 : Nat) : Int) := by omega
    rw [e1, e2, hm, if_pos rfl]
    simp only [Nat.reduceBEq, Bool.false_eq_true, if_false]
    rw [show (1 : Int) + cnt arcs i (a : Int) - cnt arcs i ((a + 1 : Nat) : Int) - 1 = cnt arcs i (a : Int) - cnt arcs i ((a + 1 : Nat) : Int) by omega]; omega
  · have e1 : ((2 * (a / 2) : Nat) : Int) = ((a - 1 : Nat) : Int) := by omega
    have e2 : ((2 * (a / 2) + 1 : Nat) : Int) = (a : Int) := by omega
    rw [e1, e2, hm]
    simp only [Nat.reduceBEq, if_true, if_neg (show ¬ (1 : Nat) = 0 by decide)]
    rw [show (1 : Int) + cnt arcs i (a : Int) - cnt arcs i ((a - 1 : Nat) : Int) - 1 = -(cnt arcs i ((a - 1 : Nat) : Int) - cnt arcs i (a : Int)) by omega, Int.mul_neg]; omega
/-- All goes just if each push finds room. -/
theorem along_iff {es : List Ed} {fl : List Int} {b : Int} {arcs : List Int} (hw : ∀ j, j < arcs.length → hasB es.length (arcs.getD j 0) = true) (hl : fl.length = es.length) :
    ∀ i, i ≤ arcs.length → ((∃ l, alongF es fl b (arcs.take i) = some l) ↔ ∀ j, j < i → b * need arcs j ≤ roomE es fl (arcAt arcs j))
  | 0, _ => ⟨fun _ j hj => by omega, fun _ => ⟨fl, by simp [alongF]⟩⟩
  | i + 1, hi => by
    have hlt : i < arcs.length := by omega
    have ih := along_iff (b := b) hw hl i (by omega)
    constructor
    · rintro ⟨l, h⟩ j hj
      rw [along_succ hlt] at h
      cases hp : alongF es fl b (arcs.take i) with
      | none => rw [hp] at h; simp [alongO] at h
      | some l0 =>
        by_cases hji : j = i
        · subst hji
          rw [hp] at h
          simp only [alongO, Option.bind_some] at h
          split at h
          · cases h
          · rename_i hr
            have := along_room hw hl hlt hp
            unfold arcAt at this ⊢
            rw [this] at hr
            rw [Int.mul_sub, Int.mul_one] at hr
            omega
        · exact ih.1 ⟨l0, hp⟩ j (by omega)
    · intro h
      obtain ⟨l0, hp⟩ := ih.2 (fun j hj => h j (by omega))
      have h3 := h i (by omega)
      have h4 := along_room hw hl hlt hp
      rw [along_succ hlt, hp]
      simp only [alongO, Option.bind_some]
      rw [if_neg]
      · exact ⟨_, rfl⟩
      · unfold arcAt at h3 h4
        rw [h4, Int.mul_sub, Int.mul_one]; omega
/-- The least when i arcs have been seen. -/
def leastS (es : List Ed) (fl arcs : List Int) : Nat → Int
  | 0 => roomE es fl (arcAt arcs 0)
  | i + 1 => if 0 < need arcs i then min (leastS es fl arcs i) (roomE es fl (arcAt arcs i) / need arcs i) else leastS es fl arcs i
def bottleV (n : Int) (es : List Ed) (fl arcs : List Int) : Int := if (wayB n es arcs && withinB n es fl) = true then leastS es fl arcs arcs.length else 0
theorem least_iff (es : List Ed) (fl arcs : List Int) (b : Int) : ∀ i, b ≤ leastS es fl arcs i ↔ b ≤ roomE es fl (arcAt arcs 0) ∧ ∀ j, j < i → 0 < need arcs j → b * need arcs j ≤ roomE es fl (arcAt arcs j)
  | 0 => by simp [leastS]
  | i + 1 => by
    have ih := least_iff es fl arcs b i
    unfold leastS
    split
    · rename_i h
      rw [Int.le_min, ih, Int.le_ediv_iff_mul_le h]
      constructor
      · rintro ⟨⟨h1, h2⟩, h3⟩
        refine ⟨h1, fun j hj hn => ?_⟩
        by_cases e : j = i
        · subst e; exact h3
        · exact h2 j (by omega) hn
      · rintro ⟨h1, h2⟩
        exact ⟨⟨h1, fun j hj hn => h2 j (by omega) hn⟩, h2 i (by omega) h⟩
    · rename_i h
      rw [ih]
      constructor
      · rintro ⟨h1, h2⟩
        refine ⟨h1, fun j hj hn => ?_⟩
        by_cases e : j = i
        · subst e; omega
        · exact h2 j (by omega) hn
      · rintro ⟨h1, h2⟩
        exact ⟨h1, fun j hj hn => h2 j (by omega) hn⟩
theorem need_zero (arcs : List Int) : need arcs 0 = 1 := by simp [need, cnt_zero]
theorem least_bound {n : Int} {es : List Ed} {fl arcs : List Int} (hw : wayB n es arcs = true) (hr : withinB n es fl = true) (i : Nat) (hi : i ≤ arcs.length) : 0 ≤ leastS es fl arcs i ∧ leastS es fl arcs i ≤ 4503599627370496 := by
  have hrb : ∀ j, j < arcs.length → 0 ≤ roomE es fl (arcAt arcs j) ∧ roomE es fl (arcAt arcs j) ≤ 4503599627370496 := fun j hj => room_bound hr (has_nat (step_has ((way_cap hw).2.2 j hj)))
  have h0 := hrb 0 (way_cap hw).1
  constructor
  · rw [least_iff]
    exact ⟨h0.1, fun j hj _ => by have := hrb j (by omega); simpa using this.1⟩
  · have := (least_iff es fl arcs (leastS es fl arcs i) i).1 (Int.le_refl _)
    omega
/-- **As much as Bottle says may be pushed, and no more.** -/
theorem bottle_iff {n : Int} {es : List Ed} {fl arcs : List Int} (hw : wayB n es arcs = true) (hr : withinB n es fl = true) {b : Int} (hb : 0 ≤ b) : (alongE n es fl arcs b = 0) ↔ b ≤ bottleV n es fl arcs := by
  have hbad : alongBad n es fl arcs b = false := by simp [alongBad, hw, hr]; omega
  have hb2 : bottleV n es fl arcs = leastS es fl arcs arcs.length := by simp [bottleV, hw, hr]
  have hhas : ∀ j, j < arcs.length → hasB es.length (arcs.getD j 0) = true := fun j hj => step_has ((way_cap hw).2.2 j hj)
  have hiff := along_iff (b := b) (fl := fl) hhas (within_cap hr).1 arcs.length (Nat.le_refl _)
  rw [List.take_length] at hiff
  rw [hb2, least_iff]
  have h1 : alongE n es fl arcs b = 0 ↔ ∃ l, alongF es fl b arcs = some l := by
    unfold alongE
    rw [if_neg (by rw [hbad]; simp)]
    cases alongF es fl b arcs <;> simp
  rw [h1, hiff]
  constructor
  · intro h
    refine ⟨?_, fun j hj _ => h j hj⟩
    have := h 0 (way_cap hw).1
    rwa [need_zero, Int.mul_one] at this
  · rintro ⟨_, h⟩ j hj
    by_cases hn : 0 < need arcs j
    · exact h j hj hn
    · have h2 := room_bound hr (has_nat (hhas j hj))
      have h3 : b * need arcs j ≤ 0 := Int.mul_nonpos_of_nonneg_of_nonpos hb (by omega)
      unfold arcAt; omega
theorem along_bad0 {n : Int} {es : List Ed} {fl arcs : List Int} (h : (wayB n es arcs && withinB n es fl) = false) (b : Int) : alongE n es fl arcs b = 1 := by
  refine (along_bad ?_).1
  rw [Bool.and_eq_false_iff] at h
  rcases h with h | h <;> simp [alongBad, h]
theorem bottle_bound (n : Int) (es : List Ed) (fl arcs : List Int) : 0 ≤ bottleV n es fl arcs ∧ bottleV n es fl arcs ≤ 4503599627370496 := by
  unfold bottleV
  split
  · rename_i h
    rw [Bool.and_eq_true] at h
    exact least_bound h.1 h.2 _ (Nat.le_refl _)
  · omega
end Go.RestP
namespace Go.RestP
open Go Go.Mem Go.NetP

theorem flip_half (a : Nat) : Mem.flip a / 2 = a / 2 := by unfold Mem.flip; split <;> omega
theorem flip_odd (a : Nat) : oddB (Mem.flip a) = !oddB a := by
  unfold oddB Mem.flip
  rcases Nat.mod_two_eq_zero_or_one a with h | h
  · rw [if_pos h, h, show (a + 1) % 2 = 1 by omega]; rfl
  · rw [if_neg (by omega), h, show (a - 1) % 2 = 0 by omega]; rfl
theorem flip_has {l a : Nat} (h : hasB l a = true) : hasB l (Mem.flip a : Nat) = true := by
  rw [hasB_iff] at h ⊢
  unfold Mem.flip
  split <;> omega
theorem flip_flip (a : Nat) : Mem.flip (Mem.flip a) = a := by unfold Mem.flip; split <;> split <;> omega
theorem ends_flip (es : List Ed) (a : Nat) : endsE es (Mem.flip a) = ((endsE es a).2.1, (endsE es a).1, -(endsE es a).2.2) := by
  unfold endsE
  rw [flip_half, flip_odd]
  cases oddB a <;> simp
theorem room_both (es : List Ed) (fl : List Int) (a : Nat) : roomE es fl a + roomE es fl (Mem.flip a) = (edAt es (a / 2)).c := by
  unfold roomE
  rw [flip_half, flip_odd]
  cases oddB a <;> simp <;> omega
theorem push_back {fl : List Int} {a : Nat} (h : a / 2 < fl.length) (b : Int) : pushL (pushL fl a b) (Mem.flip a) b = fl := by
  have hg := push_get (fl := fl) (a := a) (b := b) h
  rw [if_pos rfl] at hg
  rw [pushL, flip_half, hg]
  unfold pushL
  rw [List.set_set, show fl.getD (a / 2) 0 + sgn a b + sgn (Mem.flip a) b = fl.getD (a / 2) 0 by unfold sgn; rw [flip_odd]; cases oddB a <;> simp <;> omega]
  rw [List.getD_eq_getElem?_getD, List.getElem?_eq_getElem h, Option.getD_some, List.set_getElem_self]
theorem room_push {es : List Ed} {fl : List Int} {a : Nat} (h : a / 2 < fl.length) (b : Int) : roomE es (pushL fl a b) a = roomE es fl a - b := by
  have hg := push_get (fl := fl) (a := a) (b := b) h
  rw [if_pos rfl] at hg
  unfold roomE
  rw [hg]
  unfold sgn
  cases oddB a <;> simp <;> omega
theorem room_flip {es : List Ed} {fl : List Int} {a : Nat} (h : a / 2 < fl.length) (b : Int) : roomE es (pushL fl a b) (Mem.flip a) = roomE es fl (Mem.flip a) + b := by
  have h1 := room_both es (pushL fl a b) a
  have h2 := room_both es fl a
  have h3 := room_push (es := es) h b
  omega
/-- What holds of an arc where the flow is within. -/
theorem ends_in {n : Int} {es : List Ed} {fl : List Int} {a : Nat} (hw : withinB n es fl = true) (ha : hasB es.length a = true) : endsV n es a = endsE es a := by
  rw [endsV, if_pos (by rw [ha, (within_cap hw).2.1]; rfl), Int.toNat_natCast]
theorem room_in {n : Int} {es : List Ed} {fl : List Int} {a : Nat} (hw : withinB n es fl = true) (ha : hasB es.length a = true) : roomV n es fl a = roomE es fl a := by
  rw [roomV, if_pos (by rw [ha, hw]; rfl), Int.toNat_natCast]
theorem cost_bound {n : Int} {es : List Ed} {fl : List Int} {a : Nat} (hw : withinB n es fl = true) (ha : hasB es.length a = true) : -1000 ≤ (endsE es a).2.2 ∧ (endsE es a).2.2 ≤ 1000 := by
  have hh := has_half ha
  have he := (edgeB_iff _ _).1 ((right_cap (within_cap hw).2.1).2.2.2.2 _ (List.getElem_mem hh))
  unfold endsE
  rw [edAt_of hh]
  split <;> simp only [] <;> omega
/-- A push back. -/
theorem back_ok {n : Int} {es : List Ed} {fl : List Int} {a : Nat} {b : Int} (hw : withinB n es fl = true) (ha : hasB es.length a = true) (h0 : 0 ≤ b) (h1 : b ≤ roomE es fl a) :
    pushE n es (pushL fl a b) (Mem.flip a : Nat) b = 0 ∧ pushV n es (pushL fl a b) (Mem.flip a : Nat) b = fl := by
  have hh : a / 2 < fl.length := by have := has_half ha; have := (within_cap hw).1; omega
  have hf := room_flip (es := es) hh b
  have hb := (room_bound hw (flip_has ha)).1
  have := pushE_ok (n := n) (es := es) (fl := pushL fl a b) (a := (Mem.flip a : Nat)) h0 (flip_has ha) (push_within hw ha h0 h1) (by rw [Int.toNat_natCast, hf]; omega)
  rw [Int.toNat_natCast, push_back hh] at this
  exact this
/-- A way of one arc. -/
theorem bottle_one {n : Int} {es : List Ed} {fl : List Int} {a : Nat} (hw : withinB n es fl = true) (ha : hasB es.length a = true) : bottleV n es fl [(a : Int)] = roomE es fl a := by
  have hr := (within_cap hw).2.1
  have hway : wayB n es [(a : Int)] = true := by simp [wayB, okW, stepB, hr, ha]
  rw [bottleV, if_pos (by rw [hway, hw]; rfl)]
  show leastS es fl [(a : Int)] 1 = _
  have h0 : arcAt [(a : Int)] 0 = a := by simp [arcAt]
  rw [leastS, need_zero, if_pos (by decide), leastS, h0, Int.ediv_one, Int.min_self]
theorem even_odd (i k A J : Nat) (hk : k < 2) (hA : A = 2 * i + k) (hJ : J = 2 * i + 1 - k) : A / 2 = i ∧ J = Mem.flip A := by
  unfold Mem.flip
  split <;> omega
theorem ends_even {n : Int} {es : List Ed} {fl : List Int} {i : Nat} (hw : withinB n es fl = true) (hi : i < es.length) : endsV n es (2 * (i : Int)) = (es[i].f, es[i].t, es[i].k) ∧ endsV n es (2 * (i : Int) + 1) = (es[i].t, es[i].f, -es[i].k) := by
  have h0 : hasB es.length ((2 * i : Nat) : Int) = true := by rw [hasB_iff]; omega
  have h1 := ends_in hw h0
  have h2 := ends_in hw (flip_has h0)
  have hf : Mem.flip (2 * i) = 2 * i + 1 := by unfold Mem.flip; split <;> omega
  have hE : endsE es (2 * i) = (es[i].f, es[i].t, es[i].k) := by
    unfold endsE
    rw [if_neg (by unfold oddB; simp), show 2 * i / 2 = i by omega, edAt_of hi]
  rw [ends_flip, hE, hf] at h2
  rw [hE] at h1
  exact ⟨by rw [← h1]; congr 1, by rw [show (2 * (i : Int) + 1) = ((2 * i + 1 : Nat) : Int) by omega, h2]⟩
end Go.RestP
namespace Go.RestP
open Go Go.Mem Go.NetP

theorem gain_neg (c : Bool) (x : Int) : gain c (-x) = -gain c x := by unfold gain; split <;> omega
theorem set_at (fl : List Int) {k j : Nat} (x : Int) (hj : j < fl.length) : (fl.set k x).getD j 0 = if k = j then x else fl.getD j 0 := by
  simp only [List.getD_eq_getElem?_getD, List.getElem?_set]
  by_cases h : k = j
  · subst h; simp [hj]
  · simp [h]
theorem over_by (es : List Ed) (fl : List Int) (k v : Nat) (d : Int) : ∀ m, m ≤ fl.length → overAt es (fl.set k (fl.getD k 0 + d)) v m = overAt es fl v m + (if k < m then gain (decide ((edAt es k).t = v)) d - gain (decide ((edAt es k).f = v)) d else 0)
  | 0, _ => by simp [overAt]
  | m + 1, h => by
    rw [overAt_succ, overAt_succ, over_by es fl k v d m (by omega), set_at fl _ (by omega)]
    by_cases e : k = m
    · subst e
      simp only [Nat.lt_irrefl, if_false, Nat.lt_succ_self, if_true, gain_add]; omega
    · by_cases e2 : k < m
      · have : k < m + 1 := by omega
        simp only [e, e2, this, if_true, if_false]; omega
      · have : ¬ k < m + 1 := by omega
        simp only [e, e2, this, if_false]; omega
theorem cost_by (es : List Ed) (fl : List Int) (k : Nat) (d : Int) : ∀ m, m ≤ fl.length → flowCost es (fl.set k (fl.getD k 0 + d)) m = flowCost es fl m + (if k < m then d * (edAt es k).k else 0)
  | 0, _ => by simp [flowCost]
  | m + 1, h => by
    rw [flowCost_succ, flowCost_succ, cost_by es fl k d m (by omega), set_at fl _ (by omega)]
    by_cases e : k = m
    · subst e
      simp only [Nat.lt_irrefl, if_false, Nat.lt_succ_self, if_true, Int.add_mul]; omega
    · by_cases e2 : k < m
      · have : k < m + 1 := by omega
        simp only [e, e2, this, if_true, if_false]; omega
      · have : ¬ k < m + 1 := by omega
        simp only [e, e2, this, if_false]; omega
/-- What a push does to a node, and to the cost. -/
theorem over_push {es : List Ed} {fl : List Int} {a : Nat} (h : a / 2 < fl.length) (b : Int) (v : Nat) :
    overAt es (pushL fl a b) v fl.length = overAt es fl v fl.length + (gain (decide ((endsE es a).2.1 = v)) b - gain (decide ((endsE es a).1 = v)) b) := by
  unfold pushL
  rw [over_by es fl _ v _ _ (Nat.le_refl _), if_pos h]
  unfold endsE sgn
  cases oddB a
  · simp
  · simp only [if_true, gain_neg]; omega
theorem cost_push {es : List Ed} {fl : List Int} {a : Nat} (h : a / 2 < fl.length) (b : Int) :
    flowCost es (pushL fl a b) fl.length = flowCost es fl fl.length + (endsE es a).2.2 * b := by
  unfold pushL
  rw [cost_by es fl _ _ _ (Nat.le_refl _), if_pos h]
  unfold endsE sgn
  cases oddB a
  · simp [Int.mul_comm]
  · simp only [if_true, Int.neg_mul]; rw [Int.mul_comm]
/-- What the first i arcs cost, by each. -/
def wayC (es : List Ed) (arcs : List Int) (b : Int) : Nat → Int
  | 0 => 0
  | i + 1 => wayC es arcs b i + (endsE es (arcAt arcs i)).2.2 * b
def bringV (es : List Ed) (arcs : List Int) (b : Int) (v : Nat) : Nat → Int
  | 0 => 0
  | i + 1 => gain (decide ((endsE es (arcAt arcs i)).2.1 = v)) b - gain (decide ((endsE es (arcAt arcs 0)).1 = v)) b
theorem along_over {n : Int} {es : List Ed} {fl : List Int} {b : Int} {arcs : List Int} (hway : wayB n es arcs = true) (hw : withinB n es fl = true) (hb : 0 ≤ b) :
    ∀ (i : Nat) (l : List Int), i ≤ arcs.length → alongF es fl b (arcs.take i) = some l →
      withinB n es l = true ∧ (∀ v, overAt es l v l.length = overAt es fl v fl.length + bringV es arcs b v i) ∧ flowCost es l l.length = flowCost es fl fl.length + wayC es arcs b i ∧ (0 < i → b ≤ 4503599627370496)
  | 0, l, _, h => by
    have : l = fl := by simpa [alongF] using h.symm
    subst this
    exact ⟨hw, fun v => by simp [bringV], by simp [wayC], fun h => by omega⟩
  | i + 1, l, hi, h => by
    have hlt : i < arcs.length := by omega
    rw [along_succ hlt] at h
    cases hp : alongF es fl b (arcs.take i) with
    | none => rw [hp] at h; simp [alongO] at h
    | some l0 =>
      rw [hp] at h
      obtain ⟨h1, h2, h3, _⟩ := along_over hway hw hb i l0 (by omega) hp
      simp only [alongO, Option.bind_some] at h
      split at h
      · cases h
      · rename_i hroom
        have hl2 : l = pushL l0 (arcs.getD i 0).toNat b := (Option.some.inj h).symm
        subst hl2
        have hst := (way_cap hway).2.2 i hlt
        have hhas := has_nat (step_has hst)
        have hll : l0.length = es.length := (within_cap h1).1
        have hhf : (arcs.getD i 0).toNat / 2 < l0.length := by rw [hll]; exact has_half hhas
        have hrb := room_bound h1 hhas
        refine ⟨push_within h1 hhas hb (by omega), fun v => ?_, ?_, fun _ => by omega⟩
        · rw [pushL_length, over_push hhf, h2 v]
          show _ + bringV es arcs b v i + (gain (decide ((endsE es (arcAt arcs i)).2.1 = v)) b - gain (decide ((endsE es (arcAt arcs i)).1 = v)) b) = _ + bringV es arcs b v (i + 1)
          rcases i with _ | i
          · simp only [bringV]; omega
          · have hlink : (endsE es (arcAt arcs (i + 1))).1 = (endsE es (arcAt arcs i)).2.1 := by
              simp only [stepB, Bool.and_eq_true, Bool.or_eq_true, beq_iff_eq] at hst
              rcases hst.2 with q | q
              · omega
              · simpa using q
            simp only [bringV, hlink]; omega
        · rw [pushL_length, cost_push hhf, h3]
          show _ + wayC es arcs b i + (endsE es (arcAt arcs i)).2.2 * b = _ + (wayC es arcs b i + (endsE es (arcAt arcs i)).2.2 * b)
          omega
/-- Two flows' costs differ by no more than all costs. -/
theorem diff_le {n : Int} {es : List Ed} {x y : List Int} (hx : withinB n es x = true) (hy : withinB n es y = true) : ∀ i, i ≤ es.length → (flowCost es x i - flowCost es y i).natAbs ≤ costs (es.take i)
  | 0, _ => by simp [flowCost]
  | i + 1, hi => by
    have ih := diff_le hx hy i (by omega)
    have hlt : i < es.length := by omega
    obtain ⟨h0, h1⟩ := within_at hx hlt
    obtain ⟨g0, g1⟩ := within_at hy hlt
    rw [flowCost_succ, flowCost_succ, costs_snoc hlt, edAt_of hlt]
    have h2 : ((x.getD i 0 - y.getD i 0) * es[i].k).natAbs ≤ costE es[i] := by
      rw [Int.natAbs_mul]
      unfold costE absI
      exact Nat.mul_le_mul (by omega) (Nat.le_refl _)
    rw [Int.sub_mul] at h2
    omega
theorem diff_bound {n : Int} {es : List Ed} {x y : List Int} (hx : withinB n es x = true) (hy : withinB n es y = true) : -4611686018427387904 ≤ flowCost es x x.length - flowCost es y y.length ∧ flowCost es x x.length - flowCost es y y.length ≤ 4611686018427387904 := by
  have h1 := diff_le hx hy es.length (Nat.le_refl _)
  rw [List.take_length] at h1
  rw [(within_cap hx).1, (within_cap hy).1]
  obtain ⟨_, _, _, h3, _⟩ := right_cap (within_cap hx).2.1
  omega
theorem along_prefix {es : List Ed} {fl : List Int} {b : Int} {arcs l : List Int} (h : alongF es fl b arcs = some l) (i : Nat) : ∃ l0, alongF es fl b (arcs.take i) = some l0 := by
  cases hp : alongF es fl b (arcs.take i) with
  | none => rw [along_stop hp] at h; cases h
  | some l0 => exact ⟨l0, rfl⟩
/-- All that the walk of the law asks. -/
theorem along_all {N : Nat} {es : List Ed} {fl l : List Int} {b : Int} {arcs : List Int} (hE : alongE N es fl arcs b = 0) (hV : l = alongV N es fl arcs b) :
    withinB N es fl = true ∧ withinB N es l = true ∧ 0 < arcs.length ∧ 0 ≤ b ∧ b ≤ 4503599627370496 ∧
    (∀ j, j < arcs.length → hasB es.length (arcs.getD j 0) = true) ∧
    (∀ i, i ≤ arcs.length → -4611686018427387904 ≤ wayC es arcs b i ∧ wayC es arcs b i ≤ 4611686018427387904) ∧
    costV N es l = costV N es fl + wayC es arcs b arcs.length ∧
    (∃ S E : Nat, S < N ∧ E < N ∧ (endsE es (arcAt arcs 0)).1 = S ∧ (endsE es (arcAt arcs (arcs.length - 1))).2.1 = E ∧
      ((overL N es fl).set S ((overL N es fl).getD S 0 - b)).set E (((overL N es fl).set S ((overL N es fl).getD S 0 - b)).getD E 0 + b) = overL N es l ∧
      (S = E → flowsB N es l = flowsB N es fl)) := by
  have hbad : alongBad N es fl arcs b = false := by
    rw [Bool.eq_false_iff]; intro h
    rw [(along_bad h).1] at hE; omega
  have hF : alongF es fl b arcs = some l := by
    cases hp : alongF es fl b arcs with
    | none => rw [(along_full hbad hp).1] at hE; omega
    | some l0 => rw [hV, (along_ok hbad hp).2]
  simp only [alongBad, Bool.or_eq_false_iff, decide_eq_false_iff_not, Bool.not_eq_false'] at hbad
  obtain ⟨⟨hb, hway⟩, hw⟩ := hbad
  have hb : 0 ≤ b := by omega
  obtain ⟨hpos, hr, hst⟩ := way_cap hway
  have hF' : alongF es fl b (arcs.take arcs.length) = some l := by rw [List.take_length]; exact hF
  obtain ⟨g1, g2, g3, g4⟩ := along_over hway hw hb arcs.length l (Nat.le_refl _) hF'
  have hll : l.length = es.length := (within_cap g1).1
  have hfl : fl.length = es.length := (within_cap hw).1
  have hhas : ∀ j, j < arcs.length → hasB es.length (arcs.getD j 0) = true := fun j hj => step_has (hst j hj)
  have node : ∀ j, j < arcs.length → (0 ≤ (endsE es (arcAt arcs j)).1 ∧ (endsE es (arcAt arcs j)).1 < N) ∧ 0 ≤ (endsE es (arcAt arcs j)).2.1 ∧ (endsE es (arcAt arcs j)).2.1 < N := fun j hj => by
    have hh : arcAt arcs j / 2 < fl.length := by rw [hfl]; exact has_half (has_nat (hhas j hj))
    have := within_ends hw _ hh
    unfold endsE
    split
    · exact ⟨this.1, this.2⟩
    · exact ⟨this.2, this.1⟩
  obtain ⟨S, hS⟩ : ∃ S : Nat, (endsE es (arcAt arcs 0)).1 = S := ⟨(endsE es (arcAt arcs 0)).1.toNat, by have := (node 0 hpos).1; omega⟩
  obtain ⟨E, hE2⟩ : ∃ E : Nat, (endsE es (arcAt arcs (arcs.length - 1))).2.1 = E := ⟨(endsE es (arcAt arcs (arcs.length - 1))).2.1.toNat, by have := (node (arcs.length - 1) (by omega)).2; omega⟩
  have hSN : S < N := by have := (node 0 hpos).1; omega
  have hEN : E < N := by have := (node (arcs.length - 1) (by omega)).2; omega
  obtain ⟨m, hm⟩ : ∃ m, arcs.length = m + 1 := ⟨arcs.length - 1, by omega⟩
  have hbr : ∀ v, overAt es l v l.length = overAt es fl v fl.length + (gain (decide ((E : Int) = v)) b - gain (decide ((S : Int) = v)) b) := fun v => by
    rw [g2 v, hm]
    rw [hm, show m + 1 - 1 = m by omega] at hE2
    simp only [bringV, hE2, hS]
  refine ⟨hw, g1, hpos, hb, g4 hpos, hhas, fun i hi => ?_, ?_, S, E, hSN, hEN, hS, hE2, ?_, fun hse => ?_⟩
  · obtain ⟨l0, h0⟩ := along_prefix hF i
    obtain ⟨k1, _, k3, _⟩ := along_over hway hw hb i l0 hi h0
    have := diff_bound k1 hw
    omega
  · unfold costV
    rw [if_pos hw, if_pos g1, g3]
  · refine List.ext_getElem (by simp [overL]) fun v h1 h2 => ?_
    have hvN : v < N := by simpa [overL] using h2
    have e1 : (overL N es l)[v] = overAt es l v l.length := by simp [overL]
    have e2 : ∀ u, u < N → (overL N es fl).getD u 0 = overAt es fl u fl.length := fun u hu => over_get es fl hu
    have e3 : ∀ (L : List Int) (h : v < L.length), L[v] = L.getD v 0 := fun L h => by simp [h]
    rw [e1, e3 _ h1, set_at _ _ (by simpa [overL] using hvN), set_at _ _ (by simpa [overL] using hEN), set_at _ _ (by simpa [overL] using hvN), hbr v, e2 S hSN, e2 E hEN, e2 v hvN]
    by_cases q1 : E = v
    · subst q1
      by_cases q2 : S = E
      · subst q2; simp [gain]
      · have : ¬ (S : Int) = (E : Int) := by omega
        simp [gain, q2, this]
    · have : ¬ (E : Int) = (v : Int) := by omega
      by_cases q2 : S = v
      · subst q2; simp [gain, q1, this]; omega
      · have : ¬ (S : Int) = (v : Int) := by omega
        simp [gain, q1, q2, *]
  · subst hse
    have : overL N es l = overL N es fl := by
      refine List.ext_getElem (by simp [overL]) fun v h1 h2 => ?_
      have hvN : v < N := by simpa [overL] using h2
      have e1 : (overL N es l)[v] = overAt es l v l.length := by simp [overL]
      have e2 : (overL N es fl)[v] = overAt es fl v fl.length := by simp [overL]
      rw [e1, e2, hbr v]; omega
    unfold flowsB overV
    rw [if_pos hw, if_pos g1, hw, g1, Int.toNat_natCast, this]
end Go.RestP
namespace Go.CertP
open Go Go.Mem Go.NetP Go.RestP

def potAt (pot : List Int) (i : Int) : Int := pot.getD i.toNat 0
/-- An arc's length. -/
def lenA (es : List Ed) (pot : List Int) (a : Nat) : Int := (endsE es a).2.2 + potAt pot (endsE es a).1 - potAt pot (endsE es a).2.1
def tightS (es : List Ed) (fl pot : List Int) (a : Nat) : Bool := !(decide (lenA es pot a < 0) && decide (0 < roomE es fl a))
def tightB (es : List Ed) (fl pot : List Int) : Bool := (List.range (2 * es.length)).all (tightS es fl pot)
def farB (x : Int) : Bool := decide (-1099511627776 ≤ x) && decide (x ≤ 1099511627776)
theorem farB_iff (x : Int) : farB x = true ↔ -1099511627776 ≤ x ∧ x ≤ 1099511627776 := by simp [farB]
theorem farB_no (x : Int) : farB x = false ↔ x < -1099511627776 ∨ 1099511627776 < x := by
  rw [← Bool.not_eq_true, farB_iff]; omega
def potB (n : Int) (pot : List Int) : Bool := pot.all farB && decide ((pot.length : Int) = n)
def checkB (n : Int) (es : List Ed) (fl pot : List Int) : Bool := rightB n es && flowsB n es fl && potB n pot && tightB es fl pot
def fitsB (n : Int) (es : List Ed) (fl pot : List Int) : Bool := withinB n es fl && potB n pot && tightB es fl pot
theorem flows_within {n : Int} {es : List Ed} {fl : List Int} (h : flowsB n es fl = true) : withinB n es fl = true := by
  simp only [flowsB, Bool.and_eq_true] at h; exact h.1
theorem check_fits (n : Int) (es : List Ed) (fl pot : List Int) : (rightB n es && flowsB n es fl && fitsB n es fl pot) = checkB n es fl pot := by
  unfold checkB fitsB
  cases hf : flowsB n es fl
  · simp
  · rw [flows_within hf]
    cases rightB n es <;> cases potB n pot <;> cases tightB es fl pot <;> rfl
theorem tight_at {es : List Ed} {fl pot : List Int} (h : tightB es fl pot = true) {a : Nat} (ha : a < 2 * es.length) (hr : 0 < roomE es fl a) : 0 ≤ lenA es pot a := by
  have := List.all_eq_true.1 h a (List.mem_range.2 ha)
  simp only [tightS, Bool.not_eq_true', Bool.and_eq_false_iff, decide_eq_false_iff_not] at this
  omega
theorem tight_stop {es : List Ed} {fl pot : List Int} {a : Nat} (ha : a < 2 * es.length) (h : tightS es fl pot a = false) : tightB es fl pot = false := by
  rw [Bool.eq_false_iff]; intro h'
  have := List.all_eq_true.1 h' a (List.mem_range.2 ha)
  rw [this] at h; cases h
theorem far_stop {pot : List Int} {i : Nat} (hi : i < pot.length) (h : farB (pot.getD i 0) = false) : pot.all farB = false := by
  rw [Bool.eq_false_iff]; intro h'
  have := List.all_eq_true.1 h' _ (List.getElem_mem hi)
  simp only [List.getD_eq_getElem?_getD, List.getElem?_eq_getElem hi, Option.getD_some] at h
  rw [this] at h; cases h
theorem far_step {pot : List Int} {i : Nat} (hi : i < pot.length) (h : (pot.take i).all farB = true) (hx : farB (pot.getD i 0) = true) : (pot.take (i + 1)).all farB = true := by
  rw [List.take_succ_eq_append_getElem hi, List.all_append, h]
  simp only [List.getD_eq_getElem?_getD, List.getElem?_eq_getElem hi, Option.getD_some] at hx
  simp [hx]
theorem pot_cap {n : Int} {pot : List Int} (h : potB n pot = true) : (pot.length : Int) = n ∧ ∀ i, -1099511627776 ≤ pot.getD i 0 ∧ pot.getD i 0 ≤ 1099511627776 := by
  simp only [potB, Bool.and_eq_true, decide_eq_true_eq] at h
  refine ⟨h.2, fun i => ?_⟩
  by_cases hi : i < pot.length
  · have := (farB_iff _).1 (List.all_eq_true.1 h.1 _ (List.getElem_mem hi))
    simpa only [List.getD_eq_getElem?_getD, List.getElem?_eq_getElem hi, Option.getD_some] using this
  · simp only [List.getD_eq_getElem?_getD, List.getElem?_eq_none (Nat.le_of_not_lt hi), Option.getD_none]; omega
/-- The ends of an arc are nodes. -/
theorem ends_node {n : Int} {es : List Ed} (hr : rightB n es = true) {a : Nat} (ha : a < 2 * es.length) : (0 ≤ (endsE es a).1 ∧ (endsE es a).1 < n) ∧ (0 ≤ (endsE es a).2.1 ∧ (endsE es a).2.1 < n) ∧ -1000 ≤ (endsE es a).2.2 ∧ (endsE es a).2.2 ≤ 1000 := by
  have hh : a / 2 < es.length := by omega
  have he := (edgeB_iff _ _).1 ((right_cap hr).2.2.2.2 _ (List.getElem_mem hh))
  unfold endsE
  rw [edAt_of hh]
  split <;> simp only [] <;> omega

/-! ### The sums -/
def sumN (g : Nat → Int) : Nat → Int
  | 0 => 0
  | n + 1 => sumN g n + g n
theorem sumN_add (g h : Nat → Int) : ∀ n, sumN (fun v => g v + h v) n = sumN g n + sumN h n
  | 0 => rfl
  | n + 1 => by simp only [sumN, sumN_add g h n]; omega
theorem sumN_sub (g h : Nat → Int) : ∀ n, sumN (fun v => g v - h v) n = sumN g n - sumN h n
  | 0 => rfl
  | n + 1 => by simp only [sumN, sumN_sub g h n]; omega
theorem sumN_congr {g h : Nat → Int} : ∀ n, (∀ v, v < n → g v = h v) → sumN g n = sumN h n
  | 0, _ => rfl
  | n + 1, e => by simp only [sumN]; rw [sumN_congr n (fun v hv => e v (by omega)), e n (by omega)]
theorem sumN_zero : ∀ n, sumN (fun _ => 0) n = 0
  | 0 => rfl
  | n + 1 => by simp [sumN, sumN_zero n]
theorem sumN_one (p : Nat → Int) (t : Nat) (x : Int) : ∀ n, sumN (fun v => p v * gain (decide ((t : Int) = v)) x) n = if t < n then p t * x else 0
  | 0 => rfl
  | n + 1 => by
    simp only [sumN, sumN_one p t x n]
    rcases Nat.lt_trichotomy t n with h | h | h
    · rw [if_pos h, if_pos (by omega), decide_eq_false (by omega)]; simp [gain]
    · subst h
      rw [if_neg (by omega), if_pos (by omega), decide_eq_true rfl]; simp [gain]
    · rw [if_neg (by omega), if_neg (by omega), decide_eq_false (by omega)]; simp [gain]
/-- What the numbers of the nodes make of a flow. -/
def potSum (es : List Ed) (fl : List Int) (p : Nat → Int) : Nat → Int
  | 0 => 0
  | m + 1 => potSum es fl p m + fl.getD m 0 * (p (edAt es m).t.toNat - p (edAt es m).f.toNat)
theorem pot_over {n : Nat} {es : List Ed} {fl : List Int} (p : Nat → Int) : ∀ m, (∀ j, j < m → (0 ≤ (edAt es j).t ∧ (edAt es j).t < n) ∧ 0 ≤ (edAt es j).f ∧ (edAt es j).f < n) →
    sumN (fun v => p v * overAt es fl v m) n = potSum es fl p m
  | 0, _ => by
    rw [potSum, sumN_congr n (h := fun _ => 0) (fun v _ => by simp [overAt]), sumN_zero]
  | m + 1, h => by
    have ih := pot_over (fl := fl) p m (fun j hj => h j (by omega))
    obtain ⟨⟨t0, t1⟩, f0, f1⟩ := h m (by omega)
    obtain ⟨t, ht⟩ : ∃ t : Nat, (edAt es m).t = t := ⟨(edAt es m).t.toNat, by omega⟩
    obtain ⟨f, hf⟩ : ∃ f : Nat, (edAt es m).f = f := ⟨(edAt es m).f.toNat, by omega⟩
    rw [potSum, ← ih, ht, hf, Int.toNat_natCast, Int.toNat_natCast]
    have e : sumN (fun v => p v * overAt es fl v (m + 1)) n = sumN (fun v => (p v * overAt es fl v m + p v * gain (decide ((t : Int) = v)) (fl.getD m 0)) - p v * gain (decide ((f : Int) = v)) (fl.getD m 0)) n := by
      refine sumN_congr n (fun v _ => ?_)
      rw [overAt_succ, ht, hf, Int.mul_sub, Int.mul_add]
    rw [e, sumN_sub, sumN_add, sumN_one, sumN_one, if_pos (by omega), if_pos (by omega), Int.mul_sub, Int.mul_comm (p t), Int.mul_comm (p f)]
    omega
theorem pot_flows {n : Nat} {es : List Ed} {fl : List Int} (h : flowsB n es fl = true) (p : Nat → Int) : potSum es fl p fl.length = 0 := by
  have hw := flows_within h
  have ho : overV n es fl = overL n es fl := by unfold overV; rw [if_pos hw, Int.toNat_natCast]
  simp only [flowsB, Bool.and_eq_true] at h
  have hz := all_zero.1 h.2
  rw [ho, over_len] at hz
  rw [← pot_over p fl.length (fun j hj => within_ends hw j hj), sumN_congr n (h := fun _ => 0) (fun v hv => by
    have := hz v hv
    rw [over_get es fl hv] at this
    rw [this, Int.mul_zero]), sumN_zero]
/-- The cost by lengths. -/
def redSum (es : List Ed) (fl pot : List Int) : Nat → Int
  | 0 => 0
  | m + 1 => redSum es fl pot m + fl.getD m 0 * lenA es pot (2 * m)
theorem ends_even2 (es : List Ed) (m : Nat) : endsE es (2 * m) = ((edAt es m).f, (edAt es m).t, (edAt es m).k) := by
  unfold endsE
  rw [if_neg (by unfold oddB; simp), show 2 * m / 2 = m by omega]
theorem ends_odd2 (es : List Ed) (m : Nat) : endsE es (2 * m + 1) = ((edAt es m).t, (edAt es m).f, -(edAt es m).k) := by
  unfold endsE
  rw [if_pos (by unfold oddB; simp), show (2 * m + 1) / 2 = m by omega]
theorem len_even (es : List Ed) (pot : List Int) (m : Nat) : lenA es pot (2 * m) = (edAt es m).k + potAt pot (edAt es m).f - potAt pot (edAt es m).t := by unfold lenA; rw [ends_even2]
theorem len_odd (es : List Ed) (pot : List Int) (m : Nat) : lenA es pot (2 * m + 1) = -lenA es pot (2 * m) := by
  rw [len_even]; unfold lenA; rw [ends_odd2]; simp only []; omega
theorem red_cost (es : List Ed) (fl pot : List Int) : ∀ m, redSum es fl pot m = flowCost es fl m - potSum es fl (fun v => pot.getD v 0) m
  | 0 => by simp [redSum, potSum, flowCost]
  | m + 1 => by
    rw [redSum, flowCost_succ, potSum, red_cost es fl pot m, len_even]
    unfold potAt
    have e : ∀ x k a b : Int, x * (k + a - b) = x * k - x * (b - a) := fun x k a b => by rw [show k + a - b = k - (b - a) by omega, Int.mul_sub]
    rw [e]; omega
/-- Nothing that is within is cheaper by lengths than what is tight. -/
theorem red_least {n : Int} {es : List Ed} {x y pot : List Int} (hx : withinB n es x = true) (hy : withinB n es y = true) (ht : tightB es y pot = true) : ∀ m, m ≤ es.length → redSum es y pot m ≤ redSum es x pot m
  | 0, _ => Int.le_refl _
  | m + 1, hm => by
    have ih := red_least hx hy ht m (by omega)
    have hlt : m < es.length := by omega
    obtain ⟨x0, x1⟩ := within_at hx hlt
    obtain ⟨y0, y1⟩ := within_at hy hlt
    have r0 : roomE es y (2 * m) = es[m].c - y.getD m 0 := by
      unfold roomE
      rw [if_neg (by unfold oddB; simp), show 2 * m / 2 = m by omega, edAt_of hlt]
    have r1 : roomE es y (2 * m + 1) = y.getD m 0 := by
      unfold roomE
      rw [if_pos (by unfold oddB; simp), show (2 * m + 1) / 2 = m by omega]
    have t0 := tight_at ht (a := 2 * m) (by omega)
    have t1 := tight_at ht (a := 2 * m + 1) (by omega)
    rw [r0] at t0
    rw [r1, len_odd] at t1
    rw [redSum, redSum]
    have key : y.getD m 0 * lenA es pot (2 * m) ≤ x.getD m 0 * lenA es pot (2 * m) := by
      rcases Int.lt_trichotomy (lenA es pot (2 * m)) 0 with h | h | h
      · have : y.getD m 0 = es[m].c := by
          rcases Int.lt_or_le (y.getD m 0) es[m].c with q | q
          · have := t0 (by omega); omega
          · omega
        exact Int.mul_le_mul_of_nonpos_right (by omega) (by omega)
      · rw [h]; simp
      · have : y.getD m 0 = 0 := by
          rcases Int.lt_or_le 0 (y.getD m 0) with q | q
          · have := t1 q; omega
          · omega
        exact Int.mul_le_mul_of_nonneg_right (by omega) (by omega)
    omega
/-- **Whatever flows costs no less than what is accepted.** -/
theorem best {n : Int} {es : List Ed} {x y pot : List Int} (hx : flowsB n es x = true) (hc : checkB n es y pot = true) : costV n es y ≤ costV n es x := by
  simp only [checkB, Bool.and_eq_true] at hc
  obtain ⟨⟨⟨hr, hy⟩, _⟩, ht⟩ := hc
  have hn := (right_cap hr).1
  obtain ⟨N, rfl⟩ : ∃ N : Nat, n = N := ⟨n.toNat, by omega⟩
  have wx := flows_within hx
  have wy := flows_within hy
  have lx := (within_cap wx).1
  have ly := (within_cap wy).1
  have h := red_least wx wy ht es.length (Nat.le_refl _)
  have ex := red_cost es x pot x.length
  have ey := red_cost es y pot y.length
  rw [pot_flows hx] at ex
  rw [pot_flows hy] at ey
  rw [lx] at ex
  rw [ly] at ey
  unfold costV
  rw [if_pos wx, if_pos wy, lx, ly]
  omega
/-- Numbers that are all moved. -/
def moveL (pot : List Int) (b : Int) : List Int := pot.map (· + b)
theorem move_get {pot : List Int} {b : Int} {i : Nat} (h : i < pot.length) : (moveL pot b).getD i 0 = pot.getD i 0 + b := by simp [moveL, h]
theorem move_check {n : Int} {es : List Ed} {fl pot : List Int} {b : Int} (hp : ∀ i, i < pot.length → -549755813888 ≤ pot.getD i 0 ∧ pot.getD i 0 ≤ 549755813888) (hb : -2147483648 ≤ b ∧ b ≤ 2147483647) : checkB n es fl (moveL pot b) = checkB n es fl pot := by
  have hl : (moveL pot b).length = pot.length := by simp [moveL]
  have a1 : pot.all farB = true := List.all_eq_true.2 fun x hx => by
    obtain ⟨i, hi, rfl⟩ := List.getElem_of_mem hx
    have := hp i hi
    simp only [List.getD_eq_getElem?_getD, List.getElem?_eq_getElem hi, Option.getD_some] at this
    rw [farB_iff]; omega
  have a2 : (moveL pot b).all farB = true := List.all_eq_true.2 fun x hx => by
    obtain ⟨y, hy, rfl⟩ := List.mem_map.1 hx
    obtain ⟨i, hi, rfl⟩ := List.getElem_of_mem hy
    have := hp i hi
    simp only [List.getD_eq_getElem?_getD, List.getElem?_eq_getElem hi, Option.getD_some] at this
    rw [farB_iff]; omega
  unfold checkB potB
  rw [a1, a2, hl]
  by_cases hr : rightB n es = true
  · by_cases hn : (pot.length : Int) = n
    · have : tightB es fl (moveL pot b) = tightB es fl pot := by
        unfold tightB
        rw [Bool.eq_iff_iff, List.all_eq_true, List.all_eq_true]
        have e : ∀ a ∈ List.range (2 * es.length), tightS es fl (moveL pot b) a = tightS es fl pot a := fun a ha => by
          have hh := ends_node hr (List.mem_range.1 ha)
          have e : lenA es (moveL pot b) a = lenA es pot a := by
            unfold lenA potAt
            rw [move_get (by omega), move_get (by omega)]; omega
          unfold tightS
          rw [e]
        exact ⟨fun h a ha => by rw [← e a ha]; exact h a ha, fun h a ha => by rw [e a ha]; exact h a ha⟩
      rw [this]
    · simp [hn]
  · simp only [Bool.not_eq_true] at hr
    simp [hr]
def gapB (n : Int) (es : List Ed) (fl pot x : List Int) : Bool := flowsB n es x && checkB n es fl pot
def gapV (n : Int) (es : List Ed) (fl pot x : List Int) : Int := if gapB n es fl pot x = true then costV n es x - costV n es fl else 0
theorem cost_diff {n : Int} {es : List Ed} {x y : List Int} (hx : withinB n es x = true) (hy : withinB n es y = true) : -4611686018427387904 ≤ costV n es x - costV n es y ∧ costV n es x - costV n es y ≤ 4611686018427387904 := by
  unfold costV
  rw [if_pos hx, if_pos hy]
  exact diff_bound hx hy
theorem check_flows {n : Int} {es : List Ed} {fl pot : List Int} (h : checkB n es fl pot = true) : rightB n es = true ∧ flowsB n es fl = true ∧ potB n pot = true ∧ tightB es fl pot = true := by
  simp only [checkB, Bool.and_eq_true] at h
  exact ⟨h.1.1.1, h.1.1.2, h.1.2, h.2⟩
/-- Two that are accepted cost the same. -/
theorem gap_zero {n : Int} {es : List Ed} {x y p q : List Int} (hx : checkB n es x p = true) (hy : checkB n es y q = true) : gapB n es x p y = true ∧ gapV n es x p y = 0 := by
  have fx := (check_flows hx).2.1
  have fy := (check_flows hy).2.1
  have h1 := best fy hx
  have h2 := best fx hy
  have hb : gapB n es x p y = true := by simp [gapB, fy, hx]
  exact ⟨hb, by unfold gapV; rw [if_pos hb]; omega⟩
end Go.CertP
