/-
  Nets in plain lists. Plain lemmas.
-/
import Derived.Test.YtfafecgnjjkagaaRec
namespace Go.NetP
open Go Go.Mem

/-- An edge. -/
structure Ed where
  f : Int
  t : Int
  c : Int
  k : Int
deriving DecidableEq
def edR : Rec Ed where
  m := 4
  cells e := [.int .i64 e.f, .int .i64 e.t, .int .i64 e.c, .int .i64 e.k]
  len _ := rfl
  one e u hu := by simp only [List.mem_cons, List.not_mem_nil, or_false] at hu; rcases hu with rfl | rfl | rfl | rfl <;> rfl
  pos := by decide

def nodeB (n i : Int) : Bool := decide (0 ≤ i) && decide (i < n)
theorem nodeB_iff (n i : Int) : nodeB n i = true ↔ 0 ≤ i ∧ i < n := by simp [nodeB]
def edgeB (n : Int) (e : Ed) : Bool := nodeB n e.f && nodeB n e.t && decide (0 ≤ e.c) && decide (e.c ≤ 4503599627370496) && decide (-1000 ≤ e.k) && decide (e.k ≤ 1000)
theorem edgeB_iff (n : Int) (e : Ed) : edgeB n e = true ↔ (0 ≤ e.f ∧ e.f < n) ∧ (0 ≤ e.t ∧ e.t < n) ∧ 0 ≤ e.c ∧ e.c ≤ 4503599627370496 ∧ -1000 ≤ e.k ∧ e.k ≤ 1000 := by
  simp [edgeB, nodeB_iff, and_assoc]
/-- A number without its sign. -/
def absI (x : Int) : Nat := x.natAbs
theorem absI_le {x : Int} (h : -1000 ≤ x ∧ x ≤ 1000) : absI x ≤ 1000 := by unfold absI; omega
/-- What an edge can cost at most. -/
def costE (e : Ed) : Nat := e.c.toNat * absI e.k
def costs (es : List Ed) : Nat := (es.map costE).sum
def edges (n : Int) (es : List Ed) : Bool := es.all (edgeB n)
def rightB (n : Int) (es : List Ed) : Bool := decide (1 ≤ n) && decide (n ≤ 40) && decide (es.length ≤ 200) && edges n es && decide (costs es ≤ 4611686018427387904)
theorem take_snoc {es : List Ed} {i : Nat} (h : i < es.length) : es.take (i + 1) = es.take i ++ [es[i]] := List.take_succ_eq_append_getElem h
theorem costs_snoc {es : List Ed} {i : Nat} (h : i < es.length) : costs (es.take (i + 1)) = costs (es.take i) + costE es[i] := by
  rw [take_snoc h]; unfold costs; rw [List.map_append, List.sum_append]; rfl
theorem costs_take (es : List Ed) (i : Nat) : costs (es.take i) ≤ costs es := by
  have : costs es = costs (es.take i) + costs (es.drop i) := by simp only [costs]; rw [← List.sum_append, ← List.map_append, List.take_append_drop]
  omega
theorem edges_snoc {n : Int} {es : List Ed} {i : Nat} (h : i < es.length) (h1 : edges n (es.take i) = true) (h2 : edgeB n es[i] = true) : edges n (es.take (i + 1)) = true := by
  rw [take_snoc h]; simp only [edges, List.all_append, List.all_cons, List.all_nil, Bool.and_true, Bool.and_eq_true] at *; exact ⟨h1, h2⟩
theorem right_n {n : Int} {es : List Ed} (h : n < 1 ∨ 40 < n ∨ 200 < es.length) : rightB n es = false := by
  rw [Bool.eq_false_iff]; intro h'; simp [rightB] at h'; omega
theorem right_edge {n : Int} {es : List Ed} {i : Nat} (hi : i < es.length) (h : edgeB n es[i] = false) : rightB n es = false := by
  have : edges n es = false := by
    rw [Bool.eq_false_iff]; intro h'
    have := List.all_eq_true.1 h' _ (List.getElem_mem hi)
    rw [this] at h; cases h
  simp [rightB, this]
theorem right_cost {n : Int} {es : List Ed} {i : Nat} (hi : i < es.length) (h : 4611686018427387904 < costs (es.take i) + costE es[i]) : rightB n es = false := by
  have h1 := costs_take es (i + 1)
  rw [costs_snoc hi] at h1
  have : ¬ costs es ≤ 4611686018427387904 := by omega
  simp [rightB, this]
theorem right_ok {n : Int} {es : List Ed} (h1 : 1 ≤ n) (h2 : n ≤ 40) (h3 : es.length ≤ 200) (h4 : edges n es = true) (h5 : costs es ≤ 4611686018427387904) : rightB n es = true := by
  simp [rightB, h1, h2, h3, h4, h5]
theorem costE_le {n : Int} {e : Ed} (h : edgeB n e = true) : costE e ≤ 4503599627370496000 := by
  have := (edgeB_iff _ _).1 h
  unfold costE absI
  have h1 : e.c.toNat ≤ 4503599627370496 := by omega
  have h2 : e.k.natAbs ≤ 1000 := by omega
  exact Nat.mul_le_mul h1 h2

/-- Whether an edge's number is within its bounds. -/
def capB (es : List Ed) (fl : List Int) (i : Nat) : Bool := match es[i]? with | some e => decide (0 ≤ fl.getD i 0) && decide (fl.getD i 0 ≤ e.c) | none => false
theorem capB_at {es : List Ed} {fl : List Int} {i : Nat} (h : i < es.length) : capB es fl i = (decide (0 ≤ fl.getD i 0) && decide (fl.getD i 0 ≤ es[i].c)) := by simp [capB, h]
def withinB (n : Int) (es : List Ed) (fl : List Int) : Bool := decide (fl.length = es.length) && rightB n es && (List.range fl.length).all (capB es fl)
theorem within_no {n : Int} {es : List Ed} {fl : List Int} {i : Nat} (hi : i < fl.length) (_ : i < es.length) (h : capB es fl i = false) : withinB n es fl = false := by
  have : (List.range fl.length).all (capB es fl) = false := by
    rw [Bool.eq_false_iff]; intro h'
    have := List.all_eq_true.1 h' i (List.mem_range.2 hi)
    rw [this] at h; cases h
  simp [withinB, this]
theorem within_ok {n : Int} {es : List Ed} {fl : List Int} (h1 : fl.length = es.length) (h2 : rightB n es = true) (h3 : ∀ j, j < fl.length → capB es fl j = true) : withinB n es fl = true := by
  have : (List.range fl.length).all (capB es fl) = true := List.all_eq_true.2 fun j hj => h3 j (List.mem_range.1 hj)
  simp [withinB, h1, h2, this]
  rw [← h1]; simpa using this
theorem within_cap {n : Int} {es : List Ed} {fl : List Int} (h : withinB n es fl = true) : fl.length = es.length ∧ rightB n es = true ∧ ∀ j, j < fl.length → capB es fl j = true := by
  simp only [withinB, Bool.and_eq_true, decide_eq_true_eq] at h
  exact ⟨h.1.1, h.1.2, fun j hj => List.all_eq_true.1 h.2 j (List.mem_range.2 hj)⟩

/-- What the first i edges' numbers cost. -/
def edAt (es : List Ed) (j : Nat) : Ed := es.getD j ⟨0, 0, 0, 0⟩
theorem edAt_of {es : List Ed} {j : Nat} (h : j < es.length) : edAt es j = es[j] := by simp [edAt, h]
def flowCost (es : List Ed) (fl : List Int) (i : Nat) : Int := ((List.range i).map (fun j => fl.getD j 0 * (edAt es j).k)).sum
theorem flowCost_succ (es : List Ed) (fl : List Int) (i : Nat) : flowCost es fl (i + 1) = flowCost es fl i + fl.getD i 0 * (edAt es i).k := by
  simp [flowCost, List.range_succ, List.sum_append]
def costV (n : Int) (es : List Ed) (fl : List Int) : Int := if withinB n es fl = true then flowCost es fl fl.length else 0
theorem right_cap {n : Int} {es : List Ed} (h : rightB n es = true) : 1 ≤ n ∧ n ≤ 40 ∧ es.length ≤ 200 ∧ costs es ≤ 4611686018427387904 ∧ ∀ e ∈ es, edgeB n e = true := by
  simp only [rightB, Bool.and_eq_true, decide_eq_true_eq] at h
  exact ⟨h.1.1.1.1, h.1.1.1.2, h.1.1.2, h.2, fun e he => List.all_eq_true.1 h.1.2 e he⟩
theorem within_at {n : Int} {es : List Ed} {fl : List Int} (h : withinB n es fl = true) {i : Nat} (hi : i < es.length) : 0 ≤ fl.getD i 0 ∧ fl.getD i 0 ≤ es[i].c := by
  obtain ⟨h1, _, h3⟩ := within_cap h
  have := h3 i (by omega)
  rw [capB_at hi] at this
  simpa using this
theorem flowCost_le {n : Int} {es : List Ed} {fl : List Int} (h : withinB n es fl = true) : ∀ i, i ≤ es.length → (flowCost es fl i).natAbs ≤ costs (es.take i)
  | 0, _ => by simp [flowCost]
  | i + 1, hi => by
    have ih := flowCost_le h i (by omega)
    have hlt : i < es.length := by omega
    obtain ⟨h0, h1⟩ := within_at h hlt
    rw [flowCost_succ, costs_snoc hlt, edAt_of hlt]
    have h2 : (fl.getD i 0 * es[i].k).natAbs ≤ costE es[i] := by
      rw [Int.natAbs_mul]
      unfold costE absI
      exact Nat.mul_le_mul (by omega) (Nat.le_refl _)
    have := Int.natAbs_add_le (flowCost es fl i) (fl.getD i 0 * es[i].k)
    omega
theorem flowCost_bound {n : Int} {es : List Ed} {fl : List Int} (h : withinB n es fl = true) {i : Nat} (hi : i ≤ es.length) : -4611686018427387904 ≤ flowCost es fl i ∧ flowCost es fl i ≤ 4611686018427387904 := by
  have h1 := flowCost_le h i hi
  have h2 := costs_take es i
  obtain ⟨_, _, _, h3, _⟩ := right_cap (within_cap h).2.1
  omega
theorem costP_bound {n : Int} {es : List Ed} {fl : List Int} (h : withinB n es fl = true) {i : Nat} (hi : i < es.length) : -4503599627370496000 ≤ fl.getD i 0 * es[i].k ∧ fl.getD i 0 * es[i].k ≤ 4503599627370496000 := by
  obtain ⟨h0, h1⟩ := within_at h hi
  obtain ⟨_, _, _, _, h3⟩ := right_cap (within_cap h).2.1
  have h4 := costE_le (h3 _ (List.getElem_mem hi))
  have h2 : (fl.getD i 0 * es[i].k).natAbs ≤ costE es[i] := by
    rw [Int.natAbs_mul]
    unfold costE absI
    exact Nat.mul_le_mul (by omega) (Nat.le_refl _)
  omega
end Go.NetP
