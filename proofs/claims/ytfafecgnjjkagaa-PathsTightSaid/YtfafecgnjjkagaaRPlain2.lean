/-
  Ways on what is left of a net: plain lemmas.
-/
import Derived.Test.YtfafecgnjjkagaaRPlain
namespace Go.RestP
open Go Go.Mem Go.NetP

def arcAt (arcs : List Int) (j : Nat) : Nat := (arcs.getD j 0).toNat
def stepB (es : List Ed) (arcs : List Int) (j : Nat) : Bool := hasB es.length (arcs.getD j 0) && (j == 0 || (endsE es (arcAt arcs j)).1 == (endsE es (arcAt arcs (j - 1))).2.1)
def okW (es : List Ed) (arcs : List Int) (i : Nat) : Bool := (List.range i).all (stepB es arcs)
def wayB (n : Int) (es : List Ed) (arcs : List Int) : Bool := decide (0 < arcs.length) && rightB n es && okW es arcs arcs.length
def lastV (es : List Ed) (arcs : List Int) (i : Nat) : Int := if i = 0 then 0 else (endsE es (arcAt arcs (i - 1))).2.1
theorem okW_succ (es : List Ed) (arcs : List Int) (i : Nat) : okW es arcs (i + 1) = (okW es arcs i && stepB es arcs i) := by simp [okW, List.range_succ, List.all_append]
theorem way_step {n : Int} {es : List Ed} {arcs : List Int} {i : Nat} (hi : i < arcs.length) (h : stepB es arcs i = false) : wayB n es arcs = false := by
  have : okW es arcs arcs.length = false := by
    rw [Bool.eq_false_iff]; intro h'
    have := List.all_eq_true.1 h' i (List.mem_range.2 hi)
    rw [this] at h; cases h
  simp [wayB, this]
theorem way_cap {n : Int} {es : List Ed} {arcs : List Int} (h : wayB n es arcs = true) : 0 < arcs.length ∧ rightB n es = true ∧ ∀ j, j < arcs.length → stepB es arcs j = true := by
  simp only [wayB, Bool.and_eq_true, decide_eq_true_eq] at h
  exact ⟨h.1.1, h.1.2, fun j hj => List.all_eq_true.1 h.2 j (List.mem_range.2 hj)⟩
theorem step_has {es : List Ed} {arcs : List Int} {j : Nat} (h : stepB es arcs j = true) : hasB es.length (arcs.getD j 0) = true := by
  simp only [stepB, Bool.and_eq_true] at h; exact h.1
theorem has_cast {l : Nat} {x : Int} (h : hasB l x = true) : x = (x.toNat : Int) := by have := (hasB_iff _ _).1 h; omega
theorem has_nat {l : Nat} {x : Int} (h : hasB l x = true) : hasB l (x.toNat : Int) = true := by rw [← has_cast h]; exact h

/-- One push of the way. -/
def alongO (es : List Ed) (b : Int) (o : Option (List Int)) (a : Int) : Option (List Int) := o.bind fun l => if roomE es l a.toNat < b then none else some (pushL l a.toNat b)
def alongF (es : List Ed) (fl : List Int) (b : Int) (arcs : List Int) : Option (List Int) := arcs.foldl (alongO es b) (some fl)
theorem along_none (es : List Ed) (b : Int) : ∀ arcs : List Int, arcs.foldl (alongO es b) none = none
  | [] => rfl
  | a :: t => by rw [List.foldl_cons]; exact along_none es b t
theorem along_succ {es : List Ed} {fl : List Int} {b : Int} {arcs : List Int} {i : Nat} (hi : i < arcs.length) : alongF es fl b (arcs.take (i + 1)) = alongO es b (alongF es fl b (arcs.take i)) (arcs.getD i 0) := by
  unfold alongF
  rw [List.take_succ_eq_append_getElem hi, List.foldl_append]
  simp [hi]
theorem along_stop {es : List Ed} {fl : List Int} {b : Int} {arcs : List Int} {i : Nat} (h : alongF es fl b (arcs.take i) = none) : alongF es fl b arcs = none := by
  unfold alongF at h ⊢
  have e : arcs.foldl (alongO es b) (some fl) = (arcs.drop i).foldl (alongO es b) ((arcs.take i).foldl (alongO es b) (some fl)) := by rw [← List.foldl_append, List.take_append_drop]
  rw [e, h, along_none]
def alongBad (n : Int) (es : List Ed) (fl arcs : List Int) (b : Int) : Bool := decide (b < 0) || !wayB n es arcs || !withinB n es fl
def alongE (n : Int) (es : List Ed) (fl arcs : List Int) (b : Int) : Int := if alongBad n es fl arcs b = true then 1 else match alongF es fl b arcs with | none => 7 | some _ => 0
def alongV (n : Int) (es : List Ed) (fl arcs : List Int) (b : Int) : List Int := if alongBad n es fl arcs b = true then [] else match alongF es fl b arcs with | none => [] | some l => l
theorem along_bad {n : Int} {es : List Ed} {fl arcs : List Int} {b : Int} (h : alongBad n es fl arcs b = true) : alongE n es fl arcs b = 1 ∧ alongV n es fl arcs b = [] := by simp [alongE, alongV, h]
theorem along_full {n : Int} {es : List Ed} {fl arcs : List Int} {b : Int} (h : alongBad n es fl arcs b = false) (h2 : alongF es fl b arcs = none) : alongE n es fl arcs b = 7 ∧ alongV n es fl arcs b = [] := by simp [alongE, alongV, h, h2]
theorem along_ok {n : Int} {es : List Ed} {fl arcs l : List Int} {b : Int} (h : alongBad n es fl arcs b = false) (h2 : alongF es fl b arcs = some l) : alongE n es fl arcs b = 0 ∧ alongV n es fl arcs b = l := by simp [alongE, alongV, h, h2]

theorem push_get {fl : List Int} {a : Nat} {b : Int} {j : Nat} (hj : j < fl.length) : (pushL fl a b).getD j 0 = if a / 2 = j then fl.getD j 0 + sgn a b else fl.getD j 0 := by
  unfold pushL
  simp only [List.getD_eq_getElem?_getD, List.getElem?_set]
  by_cases h : a / 2 = j
  · subst h; simp [hj]
  · simp [h]
/-- What is pushed where there is room stays within. -/
theorem push_within {n : Int} {es : List Ed} {fl : List Int} {a : Nat} {b : Int} (h : withinB n es fl = true) (ha : hasB es.length a = true) (h0 : 0 ≤ b) (h1 : b ≤ roomE es fl a) : withinB n es (pushL fl a b) = true := by
  have hl := (within_cap h).1
  have hh := has_half ha
  refine within_ok (by rw [pushL_length, hl]) (within_cap h).2.1 fun j hj => ?_
  rw [pushL_length] at hj
  have hje : j < es.length := by omega
  rw [capB_at hje, push_get hj, Bool.and_eq_true, decide_eq_true_eq, decide_eq_true_eq]
  obtain ⟨q0, q1⟩ := within_at h hje
  by_cases e : a / 2 = j
  · subst e
    rw [if_pos rfl]
    unfold roomE at h1
    unfold sgn
    rw [edAt_of hh] at h1
    split at h1
    · rename_i ho; rw [if_pos ho]; omega
    · rename_i ho; rw [if_neg ho]; omega
  · rw [if_neg e]; exact ⟨q0, q1⟩
end Go.RestP
