/-
  Nets, arcs, pushes, proofs: plain.
-/
import Derived.Test.YtjijhpflkkicaaaLA
set_option linter.unusedVariables false
set_option linter.unusedSimpArgs false
namespace Go.NetP
open Go Go.Mem

/-- An edge. -/
structure Ed where
  f : Int
  t : Int
  c : Int
  k : Int
deriving DecidableEq
def edR : Rec Ed where
  m := 4
  cells e := [.int .i64 e.f, .int .i64 e.t, .int .i64 e.c, .int .i64 e.k]
  len _ := rfl
  one e u hu := by simp only [List.mem_cons, List.not_mem_nil, or_false] at hu; rcases hu with rfl | rfl | rfl | rfl <;> rfl
  pos := by decide

def nodeB (n i : Int) : Bool := decide (0 ≤ i) && decide (i < n)
theorem nodeB_iff (n i : Int) : nodeB n i = true ↔ 0 ≤ i ∧ i < n := by simp [nodeB]
def edgeB (n : Int) (e : Ed) : Bool := nodeB n e.f && nodeB n e.t && decide (0 ≤ e.c) && decide (e.c ≤ 4503599627370496) && decide (-1000 ≤ e.k) && decide (e.k ≤ 1000)
theorem edgeB_iff (n : Int) (e : Ed) : edgeB n e = true ↔ (0 ≤ e.f ∧ e.f < n) ∧ (0 ≤ e.t ∧ e.t < n) ∧ 0 ≤ e.c ∧ e.c ≤ 4503599627370496 ∧ -1000 ≤ e.k ∧ e.k ≤ 1000 := by
  simp [edgeB, nodeB_iff, and_assoc]
/-- A number without its sign. -/
def absI (x : Int) : Nat := x.natAbs
theorem absI_le {x : Int} (h : -1000 ≤ x ∧ x ≤ 1000) : absI x ≤ 1000 := by unfold absI; omega
/-- What an edge can cost at most. -/
def costE (e : Ed) : Nat := e.c.toNat * absI e.k
def costs (es : List Ed) : Nat := (es.map costE).sum
def edges (n : Int) (es : List Ed) : Bool := es.all (edgeB n)
def rightB (n : Int) (es : List Ed) : Bool := decide (1 ≤ n) && decide (n ≤ 40) && decide (es.length ≤ 200) && edges n es && decide (costs es ≤ 4611686018427387904)
theorem take_snoc {es : List Ed} {i : Nat} (h : i < es.length) : es.take (i + 1) = es.take i ++ [es[i]] := List.take_succ_eq_append_getElem h
theorem costs_snoc {es : List Ed} {i : Nat} (h : i < es.length) : costs (es.take (i + 1)) = costs (es.take i) + costE es[i] := by
  rw [take_snoc h]; unfold costs; rw [List.map_append, List.sum_append]; rfl
theorem costs_take (es : List Ed) (i : Nat) : costs (es.take i) ≤ costs es := by
  have : costs es = costs (es.take i) + costs (es.drop i) := by simp only [costs]; rw [← List.sum_append, ← List.map_append, List.take_append_drop]
  omega
theorem edges_snoc {n : Int} {es : List Ed} {i : Nat} (h : i < es.length) (h1 : edges n (es.take i) = true) (h2 : edgeB n es[i] = true) : edges n (es.take (i + 1)) = true := by
  rw [take_snoc h]; simp only [edges, List.all_append, List.all_cons, List.all_nil, Bool.and_true, Bool.and_eq_true] at *; exact ⟨h1, h2⟩
theorem right_n {n : Int} {es : List Ed} (h : n < 1 ∨ 40 < n ∨ 200 < es.length) : rightB n es = false := by
  rw [Bool.eq_false_iff]; intro h'; simp [rightB] at h'; omega
theorem right_edge {n : Int} {es : List Ed} {i : Nat} (hi : i < es.length) (h : edgeB n es[i] = false) : rightB n es = false := by
  have : edges n es = false := by
    rw [Bool.eq_false_iff]; intro h'
    have := List.all_eq_true.1 h' _ (List.getElem_mem hi)
    rw [this] at h; cases h
  simp [rightB, this]
theorem right_cost {n : Int} {es : List Ed} {i : Nat} (hi : i < es.length) (h : 4611686018427387904 < costs (es.take i) + costE es[i]) : rightB n es = false := by
  have h1 := costs_take es (i + 1)
  rw [costs_snoc hi] at h1
  have : ¬ costs es ≤ 4611686018427387904 := by omega
  simp [rightB, this]
theorem right_ok {n : Int} {es : List Ed} (h1 : 1 ≤ n) (h2 : n ≤ 40) (h3 : es.length ≤ 200) (h4 : edges n es = true) (h5 : costs es ≤ 4611686018427387904) : rightB n es = true := by
  simp [rightB, h1, h2, h3, h4, h5]
theorem costE_le {n : Int} {e : Ed} (h : edgeB n e = true) : costE e ≤ 4503599627370496000 := by
  have := (edgeB_iff _ _).1 h
  unfold costE absI
  have h1 : e.c.toNat ≤ 4503599627370496 := by omega
  have h2 : e.k.natAbs ≤ 1000 := by omega
  exact Nat.mul_le_mul h1 h2

/-- Whether an edge's number is within its bounds. -/
def capB (es : List Ed) (fl : List Int) (i : Nat) : Bool := match es[i]? with | some e => decide (0 ≤ fl.getD i 0) && decide (fl.getD i 0 ≤ e.c) | none => false
theorem capB_at {es : List Ed} {fl : List Int} {i : Nat} (h : i < es.length) : capB es fl i = (decide (0 ≤ fl.getD i 0) && decide (fl.getD i 0 ≤ es[i].c)) := by simp [capB, h]
def withinB (n : Int) (es : List Ed) (fl : List Int) : Bool := decide (fl.length = es.length) && rightB n es && (List.range fl.length).all (capB es fl)
theorem within_no {n : Int} {es : List Ed} {fl : List Int} {i : Nat} (hi : i < fl.length) (_ : i < es.length) (h : capB es fl i = false) : withinB n es fl = false := by
  have : (List.range fl.length).all (capB es fl) = false := by
    rw [Bool.eq_false_iff]; intro h'
    have := List.all_eq_true.1 h' i (List.mem_range.2 hi)
    rw [this] at h; cases h
  simp [withinB, this]
theorem within_ok {n : Int} {es : List Ed} {fl : List Int} (h1 : fl.length = es.length) (h2 : rightB n es = true) (h3 : ∀ j, j < fl.length → capB es fl j = true) : withinB n es fl = true := by
  have : (List.range fl.length).all (capB es fl) = true := List.all_eq_true.2 fun j hj => h3 j (List.mem_range.1 hj)
  simp [withinB, h1, h2, this]
  rw [← h1]; simpa using this
theorem within_cap {n : Int} {es : List Ed} {fl : List Int} (h : withinB n es fl = true) : fl.length = es.length ∧ rightB n es = true ∧ ∀ j, j < fl.length → capB es fl j = true := by
  simp only [withinB, Bool.and_eq_true, decide_eq_true_eq] at h
  exact ⟨h.1.1, h.1.2, fun j hj => List.all_eq_true.1 h.2 j (List.mem_range.2 hj)⟩

/-- What the first i edges' numbers cost. -/
def edAt (es : List Ed) (j : Nat) : Ed := es.getD j ⟨0, 0, 0, 0⟩
theorem edAt_of {es : List Ed} {j : Nat} (h : j < es.length) : edAt es j = es[j] := by simp [edAt, h]
def flowCost (es : List Ed) (fl : List Int) (i : Nat) : Int := ((List.range i).map (fun j => fl.getD j 0 * (edAt es j).k)).sum
theorem flowCost_succ (es : List Ed) (fl : List Int) (i : Nat) : flowCost es fl (i + 1) = flowCost es fl i + fl.getD i 0 * (edAt es i).k := by
  simp [flowCost, List.range_succ, List.sum_append]
def costV (n : Int) (es : List Ed) (fl : List Int) : Int := if withinB n es fl = true then flowCost es fl fl.length else 0
theorem right_cap {n : Int} {es : List Ed} (h : rightB n es = true) : 1 ≤ n ∧ n ≤ 40 ∧ es.length ≤ 200 ∧ costs es ≤ 4611686018427387904 ∧ ∀ e ∈ es, edgeB n e = true := by
  simp only [rightB, Bool.and_eq_true, decide_eq_true_eq] at h
  exact ⟨h.1.1.1.1, h.1.1.1.2, h.1.1.2, h.2, fun e he => List.all_eq_true.1 h.1.2 e he⟩
theorem within_at {n : Int} {es : List Ed} {fl : List Int} (h : withinB n es fl = true) {i : Nat} (hi : i < es.length) : 0 ≤ fl.getD i 0 ∧ fl.getD i 0 ≤ es[i].c := by
  obtain ⟨h1, _, h3⟩ := within_cap h
  have := h3 i (by omega)
  rw [capB_at hi] at this
  simpa using this
end Go.NetP
namespace Go.NetP
open Go Go.Mem

def gain (c : Bool) (x : Int) : Int := if c = true then x else 0
/-- What the first i edges bring to node v. -/
def overAt (es : List Ed) (fl : List Int) (v : Nat) (i : Nat) : Int := ((List.range i).map (fun j => gain (decide ((edAt es j).t = v)) (fl.getD j 0) - gain (decide ((edAt es j).f = v)) (fl.getD j 0))).sum
theorem overAt_succ (es : List Ed) (fl : List Int) (v i : Nat) : overAt es fl v (i + 1) = overAt es fl v i + gain (decide ((edAt es i).t = v)) (fl.getD i 0) - gain (decide ((edAt es i).f = v)) (fl.getD i 0) := by
  simp only [overAt, List.range_succ, List.map_append, List.sum_append, List.map_cons, List.map_nil, List.sum_cons, List.sum_nil]; omega
theorem gain_bound (c : Bool) (x : Int) (h : 0 ≤ x) : 0 ≤ gain c x ∧ gain c x ≤ x := by unfold gain; split <;> omega
def overL (n : Nat) (es : List Ed) (fl : List Int) : List Int := (List.range n).map (fun u => overAt es fl u fl.length)
def overV (n : Int) (es : List Ed) (fl : List Int) : List Int := if withinB n es fl = true then overL n.toNat es fl else []
theorem overAt_bound {n : Int} {es : List Ed} {fl : List Int} (h : withinB n es fl = true) (v : Nat) : ∀ i, i ≤ es.length → -(i * 4503599627370496 : Int) ≤ overAt es fl v i ∧ overAt es fl v i ≤ i * 4503599627370496
  | 0, _ => by simp [overAt]
  | i + 1, hi => by
    have ih := overAt_bound h v i (by omega)
    obtain ⟨h0, h1⟩ := within_at h (show i < es.length by omega)
    obtain ⟨_, _, _, _, h3⟩ := right_cap (within_cap h).2.1
    have h4 := (edgeB_iff _ _).1 (h3 _ (List.getElem_mem (show i < es.length by omega)))
    have p1 := gain_bound (decide ((edAt es i).t = v)) (fl.getD i 0) h0
    have p2 := gain_bound (decide ((edAt es i).f = v)) (fl.getD i 0) h0
    rw [overAt_succ]
    omega
/-- The row while node v is reckoned. -/
def row (n : Nat) (es : List Ed) (fl : List Int) (v : Nat) (x : Int) : List Int := (List.range v).map (fun u => overAt es fl u fl.length) ++ x :: List.replicate (n - v - 1) 0
def pre (n : Nat) (es : List Ed) (fl : List Int) (v : Nat) : List Int := (List.range v).map (fun u => overAt es fl u fl.length) ++ List.replicate (n - v) 0
def flowsB (n : Int) (es : List Ed) (fl : List Int) : Bool := withinB n es fl && (overV n es fl).all (fun x => x == 0)
theorem zero_all {l : List Int} (h : ∀ i, i < l.length → l.getD i 0 = 0) : l.all (fun x => x == 0) = true := by
  rw [List.all_eq_true]
  intro x hx
  obtain ⟨i, hi, rfl⟩ := List.getElem_of_mem hx
  simpa [hi] using h i hi
end Go.NetP
namespace Go.NetP
open Go Go.Mem

/-- What the first i nodes have over, by the first m edges. -/
def psum (es : List Ed) (fl : List Int) (i : Nat) : Nat → Int
  | 0 => 0
  | m + 1 => psum es fl i m + (gain (decide ((edAt es m).t < i)) (fl.getD m 0) - gain (decide ((edAt es m).f < i)) (fl.getD m 0))
theorem psum_zero (es : List Ed) (fl : List Int) (m : Nat) (h : ∀ j, j < m → 0 ≤ (edAt es j).t ∧ 0 ≤ (edAt es j).f) : psum es fl 0 m = 0 := by
  induction m with
  | zero => rfl
  | succ m ih =>
    obtain ⟨h0, h1⟩ := h m (by omega)
    have a : ¬ (edAt es m).t < ((0 : Nat) : Int) := by omega
    have b : ¬ (edAt es m).f < ((0 : Nat) : Int) := by omega
    simp only [psum, ih (fun j hj => h j (by omega)), a, b]
    simp [gain]
theorem psum_succ (es : List Ed) (fl : List Int) (i : Nat) : ∀ m, psum es fl (i + 1) m = psum es fl i m + overAt es fl i m
  | 0 => by simp [psum, overAt]
  | m + 1 => by
    rw [psum, psum, overAt_succ, psum_succ es fl i m]
    have key : ∀ t x : Int, gain (decide (t < ((i + 1 : Nat) : Int))) x = gain (decide (t < (i : Int))) x + gain (decide (t = (i : Int))) x := by
      intro t x
      unfold gain
      rcases Int.lt_trichotomy t i with h | h | h
      · rw [decide_eq_true (show t < ((i + 1 : Nat) : Int) by omega), decide_eq_true h, decide_eq_false (show ¬ t = (i : Int) by omega)]; simp
      · rw [decide_eq_true (show t < ((i + 1 : Nat) : Int) by omega), decide_eq_false (show ¬ t < (i : Int) by omega), decide_eq_true h]; simp
      · rw [decide_eq_false (show ¬ t < ((i + 1 : Nat) : Int) by omega), decide_eq_false (show ¬ t < (i : Int) by omega), decide_eq_false (show ¬ t = (i : Int) by omega)]; simp
    rw [key, key]; omega
theorem sum_take_over (n : Nat) (es : List Ed) (fl : List Int) (h : ∀ j, j < fl.length → 0 ≤ (edAt es j).t ∧ 0 ≤ (edAt es j).f) : ∀ i, i ≤ n → ((overL n es fl).take i).sum = psum es fl i fl.length
  | 0, _ => by simp [psum_zero es fl fl.length h]
  | i + 1, hi => by
    have hl : i < (overL n es fl).length := by simp [overL]; omega
    rw [List.take_succ_eq_append_getElem hl, List.sum_append, sum_take_over n es fl h i (by omega), psum_succ]
    simp [overL]
theorem psum_all {n : Nat} {es : List Ed} {fl : List Int} (h : ∀ j, j < fl.length → (edAt es j).t < n ∧ (edAt es j).f < n) : ∀ m, m ≤ fl.length → psum es fl n m = 0
  | 0, _ => rfl
  | m + 1, hm => by
    obtain ⟨a, b⟩ := h m (by omega)
    rw [psum, psum_all h m (by omega)]
    simp [gain, a, b]
theorem within_ends {n : Nat} {es : List Ed} {fl : List Int} (h : withinB n es fl = true) (j : Nat) (hj : j < fl.length) : (0 ≤ (edAt es j).t ∧ (edAt es j).t < n) ∧ 0 ≤ (edAt es j).f ∧ (edAt es j).f < n := by
  have hl := (within_cap h).1
  have hj' : j < es.length := by omega
  obtain ⟨_, _, _, _, h3⟩ := right_cap (within_cap h).2.1
  have h4 := (edgeB_iff _ _).1 (h3 _ (List.getElem_mem hj'))
  rw [edAt_of hj']
  exact ⟨h4.2.1, h4.1⟩
theorem sums_zero {n : Nat} {es : List Ed} {fl : List Int} (h : withinB n es fl = true) : (overL n es fl).sum = 0 := by
  have := sum_take_over n es fl (fun j hj => ⟨(within_ends h j hj).1.1, (within_ends h j hj).2.1⟩) n (Nat.le_refl _)
  rw [List.take_of_length_le (by simp [overL])] at this
  rw [this, psum_all (fun j hj => ⟨(within_ends h j hj).1.2, (within_ends h j hj).2.2⟩) _ (Nat.le_refl _)]
theorem over_len {n : Nat} {es : List Ed} {fl : List Int} : (overL n es fl).length = n := by simp [overL]
theorem over_at_bound {n : Nat} {es : List Ed} {fl : List Int} (h : withinB n es fl = true) (i : Nat) (hi : i < n) : -900719925474099200 ≤ (overL n es fl).getD i 0 ∧ (overL n es fl).getD i 0 ≤ 900719925474099200 := by
  have hl := (within_cap h).1
  have h2 := (right_cap (within_cap h).2.1).2.2.1
  have := overAt_bound h i fl.length (by omega)
  have e : (overL n es fl).getD i 0 = overAt es fl i fl.length := by simp [overL, hi]
  rw [e]; omega
end Go.NetP
namespace Go.NetP
open Go Go.Mem

/-- The first i numbers summed. -/
def stepL (a b : List Int) (i : Nat) : List Int := (List.range a.length).map fun j => if j < i then a.getD j 0 + b.getD j 0 else a.getD j 0
def sumL (a b : List Int) : List Int := stepL a b a.length
theorem gain_add (c : Bool) (x y : Int) : gain c (x + y) = gain c x + gain c y := by unfold gain; split <;> omega
theorem over_get {n : Nat} (es : List Ed) (fl : List Int) {v : Nat} (h : v < n) : (overL n es fl).getD v 0 = overAt es fl v fl.length := by simp [overL, h]
theorem all_zero {l : List Int} : l.all (fun x => x == 0) = true ↔ ∀ i, i < l.length → l.getD i 0 = 0 := by
  constructor
  · intro h i hi
    have := List.all_eq_true.1 h _ (List.getElem_mem hi)
    simpa [hi] using this
  · exact zero_all
end Go.NetP
namespace Go.RestP
open Go Go.Mem Go.NetP

def hasB (l : Nat) (a : Int) : Bool := decide (0 ≤ a) && decide (a < 2 * (l : Int))
theorem hasB_iff (l : Nat) (a : Int) : hasB l a = true ↔ 0 ≤ a ∧ a < 2 * (l : Int) := by simp [hasB]
/-- An arc against its edge. -/
def oddB (a : Nat) : Bool := a % 2 == 1
def endsE (es : List Ed) (a : Nat) : Int × Int × Int := if oddB a = true then ((edAt es (a / 2)).t, (edAt es (a / 2)).f, -(edAt es (a / 2)).k) else ((edAt es (a / 2)).f, (edAt es (a / 2)).t, (edAt es (a / 2)).k)
def endsV (n : Int) (es : List Ed) (a : Int) : Int × Int × Int := if (hasB es.length a && rightB n es) = true then endsE es a.toNat else (0, 0, 0)
def roomE (es : List Ed) (fl : List Int) (a : Nat) : Int := if oddB a = true then fl.getD (a / 2) 0 else (edAt es (a / 2)).c - fl.getD (a / 2) 0
def roomV (n : Int) (es : List Ed) (fl : List Int) (a : Int) : Int := if (hasB es.length a && withinB n es fl) = true then roomE es fl a.toNat else 0
def sgn (a : Nat) (b : Int) : Int := if oddB a = true then -b else b
def pushL (fl : List Int) (a : Nat) (b : Int) : List Int := fl.set (a / 2) (fl.getD (a / 2) 0 + sgn a b)
/-- What a push answers. -/
def pushE (n : Int) (es : List Ed) (fl : List Int) (a b : Int) : Int := if b < 0 ∨ hasB es.length a = false ∨ withinB n es fl = false then 1 else if roomE es fl a.toNat < b then 7 else 0
def pushV (n : Int) (es : List Ed) (fl : List Int) (a b : Int) : List Int := if pushE n es fl a b = 0 then pushL fl a.toNat b else []
theorem has_half {l : Nat} {a : Nat} (h : hasB l a = true) : a / 2 < l := by have := (hasB_iff _ _).1 h; omega
/-- The rooms of what is within. -/
theorem room_bound {n : Int} {es : List Ed} {fl : List Int} (h : withinB n es fl = true) {a : Nat} (ha : hasB es.length a = true) : 0 ≤ roomE es fl a ∧ roomE es fl a ≤ 4503599627370496 := by
  have hh := has_half ha
  obtain ⟨h0, h1⟩ := within_at h hh
  have he := (edgeB_iff _ _).1 ((right_cap (within_cap h).2.1).2.2.2.2 _ (List.getElem_mem hh))
  unfold roomE
  rw [edAt_of hh]
  split <;> omega
theorem pushL_length (fl : List Int) (a : Nat) (b : Int) : (pushL fl a b).length = fl.length := by simp [pushL]
end Go.RestP
namespace Go.RestP
open Go Go.Mem Go.NetP

def arcAt (arcs : List Int) (j : Nat) : Nat := (arcs.getD j 0).toNat
def stepB (es : List Ed) (arcs : List Int) (j : Nat) : Bool := hasB es.length (arcs.getD j 0) && (j == 0 || (endsE es (arcAt arcs j)).1 == (endsE es (arcAt arcs (j - 1))).2.1)
def okW (es : List Ed) (arcs : List Int) (i : Nat) : Bool := (List.range i).all (stepB es arcs)
def wayB (n : Int) (es : List Ed) (arcs : List Int) : Bool := decide (0 < arcs.length) && rightB n es && okW es arcs arcs.length
def lastV (es : List Ed) (arcs : List Int) (i : Nat) : Int := if i = 0 then 0 else (endsE es (arcAt arcs (i - 1))).2.1
/-- One push of the way. -/
def alongO (es : List Ed) (b : Int) (o : Option (List Int)) (a : Int) : Option (List Int) := o.bind fun l => if roomE es l a.toNat < b then none else some (pushL l a.toNat b)
def alongF (es : List Ed) (fl : List Int) (b : Int) (arcs : List Int) : Option (List Int) := arcs.foldl (alongO es b) (some fl)
def alongBad (n : Int) (es : List Ed) (fl arcs : List Int) (b : Int) : Bool := decide (b < 0) || !wayB n es arcs || !withinB n es fl
def alongE (n : Int) (es : List Ed) (fl arcs : List Int) (b : Int) : Int := if alongBad n es fl arcs b = true then 1 else match alongF es fl b arcs with | none => 7 | some _ => 0
def alongV (n : Int) (es : List Ed) (fl arcs : List Int) (b : Int) : List Int := if alongBad n es fl arcs b = true then [] else match alongF es fl b arcs with | none => [] | some l => l
theorem push_get {fl : List Int} {a : Nat} {b : Int} {j : Nat} (hj : j < fl.length) : (pushL fl a b).getD j 0 = if a / 2 = j then fl.getD j 0 + sgn a b else fl.getD j 0 := by
  unfold pushL
  simp only [List.getD_eq_getElem?_getD, List.getElem?_set]
  by_cases h : a / 2 = j
  · subst h; simp [hj]
  · simp [h]
/-- What is pushed where there is room stays within. -/
theorem push_within {n : Int} {es : List Ed} {fl : List Int} {a : Nat} {b : Int} (h : withinB n es fl = true) (ha : hasB es.length a = true) (h0 : 0 ≤ b) (h1 : b ≤ roomE es fl a) : withinB n es (pushL fl a b) = true := by
  have hl := (within_cap h).1
  have hh := has_half ha
  refine within_ok (by rw [pushL_length, hl]) (within_cap h).2.1 fun j hj => ?_
  rw [pushL_length] at hj
  have hje : j < es.length := by omega
  rw [capB_at hje, push_get hj, Bool.and_eq_true, decide_eq_true_eq, decide_eq_true_eq]
  obtain ⟨q0, q1⟩ := within_at h hje
  by_cases e : a / 2 = j
  · subst e
    rw [if_pos rfl]
    unfold roomE at h1
    unfold sgn
    rw [edAt_of hh] at h1
    split at h1
    · rename_i ho; rw [if_pos ho]; omega
    · rename_i ho; rw [if_neg ho]; omega
  · rw [if_neg e]; exact ⟨q0, q1⟩
end Go.RestP
namespace Go.RestP
open Go Go.Mem Go.NetP

/-- How often an arc is among the first i. -/
def cnt (arcs : List Int) (i : Nat) (x : Int) : Int := ((arcs.take i).count x : Int)
/-- How often more than its other one, this one among them. -/
def need (arcs : List Int) (i : Nat) : Int := 1 + cnt arcs i (arcs.getD i 0) - cnt arcs i (Mem.flip (arcAt arcs i) : Nat)
def pairN (arcs : List Int) (i e : Nat) : Int := cnt arcs i ((2 * e : Nat) : Int) - cnt arcs i ((2 * e + 1 : Nat) : Int)
/-- The least when i arcs have been seen. -/
def leastS (es : List Ed) (fl arcs : List Int) : Nat → Int
  | 0 => roomE es fl (arcAt arcs 0)
  | i + 1 => if 0 < need arcs i then min (leastS es fl arcs i) (roomE es fl (arcAt arcs i) / need arcs i) else leastS es fl arcs i
def bottleV (n : Int) (es : List Ed) (fl arcs : List Int) : Int := if (wayB n es arcs && withinB n es fl) = true then leastS es fl arcs arcs.length else 0
end Go.RestP
namespace Go.RestP
open Go Go.Mem Go.NetP

theorem flip_half (a : Nat) : Mem.flip a / 2 = a / 2 := by unfold Mem.flip; split <;> omega
theorem flip_odd (a : Nat) : oddB (Mem.flip a) = !oddB a := by
  unfold oddB Mem.flip
  rcases Nat.mod_two_eq_zero_or_one a with h | h
  · rw [if_pos h, h, show (a + 1) % 2 = 1 by omega]; rfl
  · rw [if_neg (by omega), h, show (a - 1) % 2 = 0 by omega]; rfl
theorem ends_flip (es : List Ed) (a : Nat) : endsE es (Mem.flip a) = ((endsE es a).2.1, (endsE es a).1, -(endsE es a).2.2) := by
  unfold endsE
  rw [flip_half, flip_odd]
  cases oddB a <;> simp
theorem room_push {es : List Ed} {fl : List Int} {a : Nat} (h : a / 2 < fl.length) (b : Int) : roomE es (pushL fl a b) a = roomE es fl a - b := by
  have hg := push_get (fl := fl) (a := a) (b := b) h
  rw [if_pos rfl] at hg
  unfold roomE
  rw [hg]
  unfold sgn
  cases oddB a <;> simp <;> omega
/-- What holds of an arc where the flow is within. -/
theorem ends_in {n : Int} {es : List Ed} {fl : List Int} {a : Nat} (hw : withinB n es fl = true) (ha : hasB es.length a = true) : endsV n es a = endsE es a := by
  rw [endsV, if_pos (by rw [ha, (within_cap hw).2.1]; rfl), Int.toNat_natCast]
theorem room_in {n : Int} {es : List Ed} {fl : List Int} {a : Nat} (hw : withinB n es fl = true) (ha : hasB es.length a = true) : roomV n es fl a = roomE es fl a := by
  rw [roomV, if_pos (by rw [ha, hw]; rfl), Int.toNat_natCast]
end Go.RestP
namespace Go.RestP
open Go Go.Mem Go.NetP

theorem gain_neg (c : Bool) (x : Int) : gain c (-x) = -gain c x := by unfold gain; split <;> omega
theorem set_at (fl : List Int) {k j : Nat} (x : Int) (hj : j < fl.length) : (fl.set k x).getD j 0 = if k = j then x else fl.getD j 0 := by
  simp only [List.getD_eq_getElem?_getD, List.getElem?_set]
  by_cases h : k = j
  · subst h; simp [hj]
  · simp [h]
theorem over_by (es : List Ed) (fl : List Int) (k v : Nat) (d : Int) : ∀ m, m ≤ fl.length → overAt es (fl.set k (fl.getD k 0 + d)) v m = overAt es fl v m + (if k < m then gain (decide ((edAt es k).t = v)) d - gain (decide ((edAt es k).f = v)) d else 0)
  | 0, _ => by simp [overAt]
  | m + 1, h => by
    rw [overAt_succ, overAt_succ, over_by es fl k v d m (by omega), set_at fl _ (by omega)]
    by_cases e : k = m
    · subst e
      simp only [Nat.lt_irrefl, if_false, Nat.lt_succ_self, if_true, gain_add]; omega
    · by_cases e2 : k < m
      · have : k < m + 1 := by omega
        simp only [e, e2, this, if_true, if_false]; omega
      · have : ¬ k < m + 1 := by omega
        simp only [e, e2, this, if_false]; omega
/-- What a push does to a node, and to the cost. -/
theorem over_push {es : List Ed} {fl : List Int} {a : Nat} (h : a / 2 < fl.length) (b : Int) (v : Nat) :
    overAt es (pushL fl a b) v fl.length = overAt es fl v fl.length + (gain (decide ((endsE es a).2.1 = v)) b - gain (decide ((endsE es a).1 = v)) b) := by
  unfold pushL
  rw [over_by es fl _ v _ _ (Nat.le_refl _), if_pos h]
  unfold endsE sgn
  cases oddB a
  · simp
  · simp only [if_true, gain_neg]; omega
/-- What the first i arcs cost, by each. -/
def wayC (es : List Ed) (arcs : List Int) (b : Int) : Nat → Int
  | 0 => 0
  | i + 1 => wayC es arcs b i + (endsE es (arcAt arcs i)).2.2 * b
def bringV (es : List Ed) (arcs : List Int) (b : Int) (v : Nat) : Nat → Int
  | 0 => 0
  | i + 1 => gain (decide ((endsE es (arcAt arcs i)).2.1 = v)) b - gain (decide ((endsE es (arcAt arcs 0)).1 = v)) b
end Go.RestP
namespace Go.CertP
open Go Go.Mem Go.NetP Go.RestP

def potAt (pot : List Int) (i : Int) : Int := pot.getD i.toNat 0
/-- An arc's length. -/
def lenA (es : List Ed) (pot : List Int) (a : Nat) : Int := (endsE es a).2.2 + potAt pot (endsE es a).1 - potAt pot (endsE es a).2.1
def tightS (es : List Ed) (fl pot : List Int) (a : Nat) : Bool := !(decide (lenA es pot a < 0) && decide (0 < roomE es fl a))
def tightB (es : List Ed) (fl pot : List Int) : Bool := (List.range (2 * es.length)).all (tightS es fl pot)
def farB (x : Int) : Bool := decide (-1099511627776 ≤ x) && decide (x ≤ 1099511627776)
theorem farB_iff (x : Int) : farB x = true ↔ -1099511627776 ≤ x ∧ x ≤ 1099511627776 := by simp [farB]
theorem farB_no (x : Int) : farB x = false ↔ x < -1099511627776 ∨ 1099511627776 < x := by
  rw [← Bool.not_eq_true, farB_iff]; omega
def potB (n : Int) (pot : List Int) : Bool := pot.all farB && decide ((pot.length : Int) = n)
def checkB (n : Int) (es : List Ed) (fl pot : List Int) : Bool := rightB n es && flowsB n es fl && potB n pot && tightB es fl pot
def fitsB (n : Int) (es : List Ed) (fl pot : List Int) : Bool := withinB n es fl && potB n pot && tightB es fl pot
theorem flows_within {n : Int} {es : List Ed} {fl : List Int} (h : flowsB n es fl = true) : withinB n es fl = true := by
  simp only [flowsB, Bool.and_eq_true] at h; exact h.1
theorem tight_at {es : List Ed} {fl pot : List Int} (h : tightB es fl pot = true) {a : Nat} (ha : a < 2 * es.length) (hr : 0 < roomE es fl a) : 0 ≤ lenA es pot a := by
  have := List.all_eq_true.1 h a (List.mem_range.2 ha)
  simp only [tightS, Bool.not_eq_true', Bool.and_eq_false_iff, decide_eq_false_iff_not] at this
  omega
theorem far_stop {pot : List Int} {i : Nat} (hi : i < pot.length) (h : farB (pot.getD i 0) = false) : pot.all farB = false := by
  rw [Bool.eq_false_iff]; intro h'
  have := List.all_eq_true.1 h' _ (List.getElem_mem hi)
  simp only [List.getD_eq_getElem?_getD, List.getElem?_eq_getElem hi, Option.getD_some] at h
  rw [this] at h; cases h
theorem far_step {pot : List Int} {i : Nat} (hi : i < pot.length) (h : (pot.take i).all farB = true) (hx : farB (pot.getD i 0) = true) : (pot.take (i + 1)).all farB = true := by
  rw [List.take_succ_eq_append_getElem hi, List.all_append, h]
  simp only [List.getD_eq_getElem?_getD, List.getElem?_eq_getElem hi, Option.getD_some] at hx
  simp [hx]
theorem pot_cap {n : Int} {pot : List Int} (h : potB n pot = true) : (pot.length : Int) = n ∧ ∀ i, -1099511627776 ≤ pot.getD i 0 ∧ pot.getD i 0 ≤ 1099511627776 := by
  simp only [potB, Bool.and_eq_true, decide_eq_true_eq] at h
  refine ⟨h.2, fun i => ?_⟩
  by_cases hi : i < pot.length
  · have := (farB_iff _).1 (List.all_eq_true.1 h.1 _ (List.getElem_mem hi))
    simpa only [List.getD_eq_getElem?_getD, List.getElem?_eq_getElem hi, Option.getD_some] using this
  · simp only [List.getD_eq_getElem?_getD, List.getElem?_eq_none (Nat.le_of_not_lt hi), Option.getD_none]; omega
/-- The ends of an arc are nodes. -/
theorem ends_node {n : Int} {es : List Ed} (hr : rightB n es = true) {a : Nat} (ha : a < 2 * es.length) : (0 ≤ (endsE es a).1 ∧ (endsE es a).1 < n) ∧ (0 ≤ (endsE es a).2.1 ∧ (endsE es a).2.1 < n) ∧ -1000 ≤ (endsE es a).2.2 ∧ (endsE es a).2.2 ≤ 1000 := by
  have hh : a / 2 < es.length := by omega
  have he := (edgeB_iff _ _).1 ((right_cap hr).2.2.2.2 _ (List.getElem_mem hh))
  unfold endsE
  rw [edAt_of hh]
  split <;> simp only [] <;> omega

/-! ### The sums -/
def sumN (g : Nat → Int) : Nat → Int
  | 0 => 0
  | n + 1 => sumN g n + g n
theorem sumN_add (g h : Nat → Int) : ∀ n, sumN (fun v => g v + h v) n = sumN g n + sumN h n
  | 0 => rfl
  | n + 1 => by simp only [sumN, sumN_add g h n]; omega
theorem sumN_sub (g h : Nat → Int) : ∀ n, sumN (fun v => g v - h v) n = sumN g n - sumN h n
  | 0 => rfl
  | n + 1 => by simp only [sumN, sumN_sub g h n]; omega
theorem sumN_congr {g h : Nat → Int} : ∀ n, (∀ v, v < n → g v = h v) → sumN g n = sumN h n
  | 0, _ => rfl
  | n + 1, e => by simp only [sumN]; rw [sumN_congr n (fun v hv => e v (by omega)), e n (by omega)]
theorem sumN_zero : ∀ n, sumN (fun _ => 0) n = 0
  | 0 => rfl
  | n + 1 => by simp [sumN, sumN_zero n]
theorem sumN_one (p : Nat → Int) (t : Nat) (x : Int) : ∀ n, sumN (fun v => p v * gain (decide ((t : Int) = v)) x) n = if t < n then p t * x else 0
  | 0 => rfl
  | n + 1 => by
    simp only [sumN, sumN_one p t x n]
    rcases Nat.lt_trichotomy t n with h | h | h
    · rw [if_pos h, if_pos (by omega), decide_eq_false (by omega)]; simp [gain]
    · subst h
      rw [if_neg (by omega), if_pos (by omega), decide_eq_true rfl]; simp [gain]
    · rw [if_neg (by omega), if_neg (by omega), decide_eq_false (by omega)]; simp [gain]
/-- What the numbers of the nodes make of a flow. -/
def potSum (es : List Ed) (fl : List Int) (p : Nat → Int) : Nat → Int
  | 0 => 0
  | m + 1 => potSum es fl p m + fl.getD m 0 * (p (edAt es m).t.toNat - p (edAt es m).f.toNat)
theorem pot_over {n : Nat} {es : List Ed} {fl : List Int} (p : Nat → Int) : ∀ m, (∀ j, j < m → (0 ≤ (edAt es j).t ∧ (edAt es j).t < n) ∧ 0 ≤ (edAt es j).f ∧ (edAt es j).f < n) →
    sumN (fun v => p v * overAt es fl v m) n = potSum es fl p m
  | 0, _ => by
    rw [potSum, sumN_congr n (h := fun _ => 0) (fun v _ => by simp [overAt]), sumN_zero]
  | m + 1, h => by
    have ih := pot_over (fl := fl) p m (fun j hj => h j (by omega))
    obtain ⟨⟨t0, t1⟩, f0, f1⟩ := h m (by omega)
    obtain ⟨t, ht⟩ : ∃ t : Nat, (edAt es m).t = t := ⟨(edAt es m).t.toNat, by omega⟩
    obtain ⟨f, hf⟩ : ∃ f : Nat, (edAt es m).f = f := ⟨(edAt es m).f.toNat, by omega⟩
    rw [potSum, ← ih, ht, hf, Int.toNat_natCast, Int.toNat_natCast]
    have e : sumN (fun v => p v * overAt es fl v (m + 1)) n = sumN (fun v => (p v * overAt es fl v m + p v * gain (decide ((t : Int) = v)) (fl.getD m 0)) - p v * gain (decide ((f : Int) = v)) (fl.getD m 0)) n := by
      refine sumN_congr n (fun v _ => ?_)
      rw [overAt_succ, ht, hf, Int.mul_sub, Int.mul_add]
    rw [e, sumN_sub, sumN_add, sumN_one, sumN_one, if_pos (by omega), if_pos (by omega), Int.mul_sub, Int.mul_comm (p t), Int.mul_comm (p f)]
    omega
theorem pot_flows {n : Nat} {es : List Ed} {fl : List Int} (h : flowsB n es fl = true) (p : Nat → Int) : potSum es fl p fl.length = 0 := by
  have hw := flows_within h
  have ho : overV n es fl = overL n es fl := by unfold overV; rw [if_pos hw, Int.toNat_natCast]
  simp only [flowsB, Bool.and_eq_true] at h
  have hz := all_zero.1 h.2
  rw [ho, over_len] at hz
  rw [← pot_over p fl.length (fun j hj => within_ends hw j hj), sumN_congr n (h := fun _ => 0) (fun v hv => by
    have := hz v hv
    rw [over_get es fl hv] at this
    rw [this, Int.mul_zero]), sumN_zero]
/-- The cost by lengths. -/
def redSum (es : List Ed) (fl pot : List Int) : Nat → Int
  | 0 => 0
  | m + 1 => redSum es fl pot m + fl.getD m 0 * lenA es pot (2 * m)
theorem ends_even2 (es : List Ed) (m : Nat) : endsE es (2 * m) = ((edAt es m).f, (edAt es m).t, (edAt es m).k) := by
  unfold endsE
  rw [if_neg (by unfold oddB; simp), show 2 * m / 2 = m by omega]
theorem ends_odd2 (es : List Ed) (m : Nat) : endsE es (2 * m + 1) = ((edAt es m).t, (edAt es m).f, -(edAt es m).k) := by
  unfold endsE
  rw [if_pos (by unfold oddB; simp), show (2 * m + 1) / 2 = m by omega]
theorem len_even (es : List Ed) (pot : List Int) (m : Nat) : lenA es pot (2 * m) = (edAt es m).k + potAt pot (edAt es m).f - potAt pot (edAt es m).t := by unfold lenA; rw [ends_even2]
theorem len_odd (es : List Ed) (pot : List Int) (m : Nat) : lenA es pot (2 * m + 1) = -lenA es pot (2 * m) := by
  rw [len_even]; unfold lenA; rw [ends_odd2]; simp only []; omega
theorem red_cost (es : List Ed) (fl pot : List Int) : ∀ m, redSum es fl pot m = flowCost es fl m - potSum es fl (fun v => pot.getD v 0) m
  | 0 => by simp [redSum, potSum, flowCost]
  | m + 1 => by
    rw [redSum, flowCost_succ, potSum, red_cost es fl pot m, len_even]
    unfold potAt
    have e : ∀ x k a b : Int, x * (k + a - b) = x * k - x * (b - a) := fun x k a b => by rw [show k + a - b = k - (b - a) by omega, Int.mul_sub]
    rw [e]; omega
/-- Nothing that is within is cheaper by lengths than what is tight. -/
theorem red_least {n : Int} {es : List Ed} {x y pot : List Int} (hx : withinB n es x = true) (hy : withinB n es y = true) (ht : tightB es y pot = true) : ∀ m, m ≤ es.length → redSum es y pot m ≤ redSum es x pot m
  | 0, _ => Int.le_refl _
  | m + 1, hm => by
    have ih := red_least hx hy ht m (by omega)
    have hlt : m < es.length := by omega
    obtain ⟨x0, x1⟩ := within_at hx hlt
    obtain ⟨y0, y1⟩ := within_at hy hlt
    have r0 : roomE es y (2 * m) = es[m].c - y.getD m 0 := by
      unfold roomE
      rw [if_neg (by unfold oddB; simp), show 2 * m / 2 = m by omega, edAt_of hlt]
    have r1 : roomE es y (2 * m + 1) = y.getD m 0 := by
      unfold roomE
      rw [if_pos (by unfold oddB; simp), show (2 * m + 1) / 2 = m by omega]
    have t0 := tight_at ht (a := 2 * m) (by omega)
    have t1 := tight_at ht (a := 2 * m + 1) (by omega)
    rw [r0] at t0
    rw [r1, len_odd] at t1
    rw [redSum, redSum]
    have key : y.getD m 0 * lenA es pot (2 * m) ≤ x.getD m 0 * lenA es pot (2 * m) := by
      rcases Int.lt_trichotomy (lenA es pot (2 * m)) 0 with h | h | h
      · have : y.getD m 0 = es[m].c := by
          rcases Int.lt_or_le (y.getD m 0) es[m].c with q | q
          · have := t0 (by omega); omega
          · omega
        exact Int.mul_le_mul_of_nonpos_right (by omega) (by omega)
      · rw [h]; simp
      · have : y.getD m 0 = 0 := by
          rcases Int.lt_or_le 0 (y.getD m 0) with q | q
          · have := t1 q; omega
          · omega
        exact Int.mul_le_mul_of_nonneg_right (by omega) (by omega)
    omega
/-- **Whatever flows costs no less than what is accepted.** -/
theorem best {n : Int} {es : List Ed} {x y pot : List Int} (hx : flowsB n es x = true) (hc : checkB n es y pot = true) : costV n es y ≤ costV n es x := by
  simp only [checkB, Bool.and_eq_true] at hc
  obtain ⟨⟨⟨hr, hy⟩, _⟩, ht⟩ := hc
  have hn := (right_cap hr).1
  obtain ⟨N, rfl⟩ : ∃ N : Nat, n = N := ⟨n.toNat, by omega⟩
  have wx := flows_within hx
  have wy := flows_within hy
  have lx := (within_cap wx).1
  have ly := (within_cap wy).1
  have h := red_least wx wy ht es.length (Nat.le_refl _)
  have ex := red_cost es x pot x.length
  have ey := red_cost es y pot y.length
  rw [pot_flows hx] at ex
  rw [pot_flows hy] at ey
  rw [lx] at ex
  rw [ly] at ey
  unfold costV
  rw [if_pos wx, if_pos wy, lx, ly]
  omega
/-- Numbers that are all moved. -/
def moveL (pot : List Int) (b : Int) : List Int := pot.map (· + b)
def gapB (n : Int) (es : List Ed) (fl pot x : List Int) : Bool := flowsB n es x && checkB n es fl pot
def gapV (n : Int) (es : List Ed) (fl pot x : List Int) : Int := if gapB n es fl pot x = true then costV n es x - costV n es fl else 0
theorem check_flows {n : Int} {es : List Ed} {fl pot : List Int} (h : checkB n es fl pot = true) : rightB n es = true ∧ flowsB n es fl = true ∧ potB n pot = true ∧ tightB es fl pot = true := by
  simp only [checkB, Bool.and_eq_true] at h
  exact ⟨h.1.1.1, h.1.1.2, h.1.2, h.2⟩
end Go.CertP
