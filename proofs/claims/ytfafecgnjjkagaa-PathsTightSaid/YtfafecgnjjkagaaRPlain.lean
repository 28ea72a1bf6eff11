/-
  What is left on the edges of a net: plain lemmas.
-/
import Derived.Test.YtfafecgnjjkagaaNAdds
namespace Go.RestP
open Go Go.Mem Go.NetP

def hasB (l : Nat) (a : Int) : Bool := decide (0 ≤ a) && decide (a < 2 * (l : Int))
theorem hasB_iff (l : Nat) (a : Int) : hasB l a = true ↔ 0 ≤ a ∧ a < 2 * (l : Int) := by simp [hasB]
/-- An arc against its edge. -/
def oddB (a : Nat) : Bool := a % 2 == 1
def endsE (es : List Ed) (a : Nat) : Int × Int × Int := if oddB a = true then ((edAt es (a / 2)).t, (edAt es (a / 2)).f, -(edAt es (a / 2)).k) else ((edAt es (a / 2)).f, (edAt es (a / 2)).t, (edAt es (a / 2)).k)
def endsV (n : Int) (es : List Ed) (a : Int) : Int × Int × Int := if (hasB es.length a && rightB n es) = true then endsE es a.toNat else (0, 0, 0)
def roomE (es : List Ed) (fl : List Int) (a : Nat) : Int := if oddB a = true then fl.getD (a / 2) 0 else (edAt es (a / 2)).c - fl.getD (a / 2) 0
def roomV (n : Int) (es : List Ed) (fl : List Int) (a : Int) : Int := if (hasB es.length a && withinB n es fl) = true then roomE es fl a.toNat else 0
def sgn (a : Nat) (b : Int) : Int := if oddB a = true then -b else b
def pushL (fl : List Int) (a : Nat) (b : Int) : List Int := fl.set (a / 2) (fl.getD (a / 2) 0 + sgn a b)
/-- What a push answers. -/
def pushE (n : Int) (es : List Ed) (fl : List Int) (a b : Int) : Int := if b < 0 ∨ hasB es.length a = false ∨ withinB n es fl = false then 1 else if roomE es fl a.toNat < b then 7 else 0
def pushV (n : Int) (es : List Ed) (fl : List Int) (a b : Int) : List Int := if pushE n es fl a b = 0 then pushL fl a.toNat b else []
theorem pushE_no {n : Int} {es : List Ed} {fl : List Int} {a b : Int} (h : b < 0 ∨ hasB es.length a = false ∨ withinB n es fl = false) : pushE n es fl a b = 1 ∧ pushV n es fl a b = [] := by
  have : pushE n es fl a b = 1 := by unfold pushE; rw [if_pos h]
  exact ⟨this, by unfold pushV; rw [this]; rfl⟩
theorem pushE_full {n : Int} {es : List Ed} {fl : List Int} {a b : Int} (h0 : 0 ≤ b) (h1 : hasB es.length a = true) (h2 : withinB n es fl = true) (h : roomE es fl a.toNat < b) : pushE n es fl a b = 7 ∧ pushV n es fl a b = [] := by
  have : pushE n es fl a b = 7 := by
    unfold pushE
    rw [if_neg (by rintro (q | q | q); omega; rw [h1] at q; cases q; rw [h2] at q; cases q), if_pos h]
  exact ⟨this, by unfold pushV; rw [this]; rfl⟩
theorem pushE_ok {n : Int} {es : List Ed} {fl : List Int} {a b : Int} (h0 : 0 ≤ b) (h1 : hasB es.length a = true) (h2 : withinB n es fl = true) (h : b ≤ roomE es fl a.toNat) : pushE n es fl a b = 0 ∧ pushV n es fl a b = pushL fl a.toNat b := by
  have : pushE n es fl a b = 0 := by
    unfold pushE
    rw [if_neg (by rintro (q | q | q); omega; rw [h1] at q; cases q; rw [h2] at q; cases q), if_neg (by omega)]
  exact ⟨this, by unfold pushV; rw [if_pos this]⟩
theorem has_half {l : Nat} {a : Nat} (h : hasB l a = true) : a / 2 < l := by have := (hasB_iff _ _).1 h; omega
/-- The rooms of what is within. -/
theorem room_bound {n : Int} {es : List Ed} {fl : List Int} (h : withinB n es fl = true) {a : Nat} (ha : hasB es.length a = true) : 0 ≤ roomE es fl a ∧ roomE es fl a ≤ 4503599627370496 := by
  have hh := has_half ha
  obtain ⟨h0, h1⟩ := within_at h hh
  have he := (edgeB_iff _ _).1 ((right_cap (within_cap h).2.1).2.2.2.2 _ (List.getElem_mem hh))
  unfold roomE
  rw [edAt_of hh]
  split <;> omega
theorem pushL_length (fl : List Int) (a : Nat) (b : Int) : (pushL fl a b).length = fl.length := by simp [pushL]
end Go.RestP
