/-
  Dues that are looked at, tables, pays, what is left: plain.
-/
import Derived.Test.YtjijhpflkkicaaaBPlain
set_option linter.unusedVariables false
set_option linter.unusedSimpArgs false
namespace Go.OffP
open Go Go.Mem Go.MoneyP Go.BuildP
/-- May dues be looked at? -/
def allB (l : List Du) : Bool := decide (l.length ≤ 64) && l.all mayD
def belowX (n : Int) (d : Du) : Bool := decide (d.f < n) && decide (d.t < n)
def belowB (n : Int) (l : List Du) : Bool := l.all (belowX n)
def sumX (l : List Du) : Int := (l.map (·.x)).sum
/-- What Nets tells: an error. -/
def netsE (n : Int) (l : List Du) : Int :=
  if n < 0 ∨ 16 < n ∨ allB l = false then 1 else if belowB n l = false then 10 else if 4503599627370496 < sumX l then 13 else 0
def stepN (o : List Int) (d : Du) : List Int := if d.h = true then o else (o.set d.t.toNat (o.getD d.t.toNat 0 + d.x)).set d.f.toNat ((o.set d.t.toNat (o.getD d.t.toNat 0 + d.x)).getD d.f.toNat 0 - d.x)
/-- .. and what banks are owed. -/
def netsF (n : Nat) (l : List Du) : List Int := l.foldl stepN (List.replicate n 0)
/-- Dues of n banks that may be looked at. -/
structure GoodN (n : Nat) (l : List Du) : Prop where
  n16 : n ≤ 16
  len : l.length ≤ 64
  may : ∀ d ∈ l, MayD d
  inn : ∀ d ∈ l, d.f < n ∧ d.t < n
  sum : sumX l ≤ 4503599627370496
theorem netsE_good {n : Int} {l : List Du} (h : netsE n l = 0) : ∃ N : Nat, n = N ∧ GoodN N l := by
  unfold netsE at h
  split at h
  · cases h
  next h1 =>
  split at h
  · cases h
  next h2 =>
  split at h
  · cases h
  next h3 =>
  simp only [not_or, Bool.not_eq_false] at h1 h2
  obtain ⟨a, b, c⟩ := h1
  simp only [allB, Bool.and_eq_true, decide_eq_true_eq, List.all_eq_true] at c
  simp only [belowB, belowX, List.all_eq_true, Bool.and_eq_true, decide_eq_true_eq] at h2
  refine ⟨n.toNat, by omega, by omega, c.1, fun d hd => (mayD_iff d).1 (c.2 d hd), fun d hd => ?_, by omega⟩
  have := h2 d hd
  omega
theorem good_netsE {n : Nat} {l : List Du} (h : GoodN n l) : netsE n l = 0 := by
  unfold netsE
  have h16 := h.n16
  have hs := h.sum
  have h1 : allB l = true := by
    simp only [allB, Bool.and_eq_true, decide_eq_true_eq, List.all_eq_true]
    exact ⟨h.len, fun d hd => (mayD_iff d).2 (h.may d hd)⟩
  have h2 : belowB n l = true := by
    simp only [belowB, belowX, List.all_eq_true, Bool.and_eq_true, decide_eq_true_eq]
    exact h.inn
  rw [if_neg (by rw [h1]; simp; omega), if_neg (by rw [h2]; decide), if_neg (by omega)]
end Go.OffP
