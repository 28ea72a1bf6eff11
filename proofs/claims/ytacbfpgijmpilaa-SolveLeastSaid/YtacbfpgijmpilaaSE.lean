/-
  The best flow: how many phases. Plain lemmas.
-/
import Derived.Test.YtacbfpgijmpilaaSD
import Derived.Lib.BitFns
set_option linter.unusedVariables false
set_option linter.unusedSimpArgs false
namespace Go.SolveP
open Go Go.Mem Go.NetP Go.RestP Go.CertP Go.PathP
theorem bitAux_lt : ∀ (f x : Nat), x < 2 ^ f → x < 2 ^ Lib.bitLenAux f x
  | 0, x, h => by simpa [Lib.bitLenAux] using h
  | f + 1, x, h => by
    unfold Lib.bitLenAux
    by_cases e : x = 0
    · rw [if_pos e, e]; decide
    · rw [if_neg e]
      have := bitAux_lt f (x / 2) (by rw [Nat.pow_succ] at h; omega)
      rw [Nat.pow_add, Nat.pow_one]
      omega
theorem bitAux_le : ∀ (f x k : Nat), x < 2 ^ k → Lib.bitLenAux f x ≤ k
  | 0, x, k, h => Nat.zero_le _
  | f + 1, x, k, h => by
    unfold Lib.bitLenAux
    by_cases e : x = 0
    · rw [if_pos e]; omega
    · rw [if_neg e]
      cases k with
      | zero => simp at h; omega
      | succ k =>
        have := bitAux_le f (x / 2) k (by rw [Nat.pow_succ] at h; omega)
        omega
/-- How many bits the greatest Cap has. -/
def mostF (es : List Ed) : Nat → Nat
  | 0 => 0
  | i + 1 => max (mostF es i) (Lib.bitLen (edAt es i).c.toNat)
theorem mostF_le (es : List Ed) (h : ∀ j, (edAt es j).c.toNat < 2 ^ 53) : ∀ i, mostF es i ≤ 53
  | 0 => by unfold mostF; omega
  | i + 1 => by
    have h1 := mostF_le es h i
    have h2 := bitAux_le 64 (edAt es i).c.toNat 53 (h i)
    unfold mostF Lib.bitLen
    omega
theorem mostF_lt (es : List Ed) (h : ∀ j, (edAt es j).c.toNat < 2 ^ 53) : ∀ i j, j < i → (edAt es j).c.toNat < 2 ^ mostF es i
  | 0, j, hj => by omega
  | i + 1, j, hj => by
    have h2 := bitAux_lt 64 (edAt es j).c.toNat (Nat.lt_of_lt_of_le (h j) (Nat.pow_le_pow_right (by decide) (by decide)))
    unfold mostF
    rcases Nat.lt_or_ge j i with q | q
    · exact Nat.lt_of_lt_of_le (mostF_lt es h i j q) (Nat.pow_le_pow_right (by decide) (by omega))
    · obtain rfl : j = i := by omega
      exact Nat.lt_of_lt_of_le h2 (Nat.pow_le_pow_right (by decide) (by unfold Lib.bitLen; omega))
theorem cap53 {N : Nat} {es : List Ed} (hr : rightB N es = true) (j : Nat) : 0 ≤ (edAt es j).c ∧ (edAt es j).c.toNat < 2 ^ 53 := by
  by_cases h : j < es.length
  · have := (edgeB_iff _ _).1 ((right_cap hr).2.2.2.2 _ (List.getElem_mem h))
    rw [edAt_of h]
    have e : (2 : Nat) ^ 53 = 9007199254740992 := by decide
    rw [e]; omega
  · have : edAt es j = ⟨0, 0, 0, 0⟩ := by unfold edAt; rw [List.getD_eq_getElem?_getD, List.getElem?_eq_none (by omega)]; rfl
    rw [this]; decide
theorem most_none {N : Nat} {es : List Ed} (hr : rightB N es = true) : ∀ e ∈ es, e.c / 2 ^ mostF es es.length = 0 := by
  intro e he
  obtain ⟨j, hj, rfl⟩ := List.getElem_of_mem he
  have h1 := mostF_lt es (fun j => (cap53 hr j).2) es.length j hj
  have h0 := (cap53 hr j).1
  rw [edAt_of hj] at h1 h0
  have h2 : es[j].c < (2 : Int) ^ mostF es es.length := by
    have : ((es[j].c.toNat : Nat) : Int) < ((2 ^ mostF es es.length : Nat) : Int) := by exact_mod_cast h1
    rw [Int.toNat_of_nonneg h0] at this
    simpa using this
  exact Int.ediv_eq_zero_of_lt h0 h2
def zeroE (es : List Ed) (i : Nat) : List Ed := (List.range es.length).map fun j => if j < i then ⟨(edAt es j).f, (edAt es j).t, 0, (edAt es j).k⟩ else edAt es j
theorem zeroE_len (es : List Ed) (i : Nat) : (zeroE es i).length = es.length := by simp [zeroE]
theorem zeroE_at {es : List Ed} {i j : Nat} (h : j < es.length) : (zeroE es i)[j]'(by rw [zeroE_len]; exact h) = if j < i then ⟨(edAt es j).f, (edAt es j).t, 0, (edAt es j).k⟩ else edAt es j := by
  simp [zeroE]
theorem zeroE_zero (es : List Ed) : zeroE es 0 = es := by
  refine List.ext_getElem (zeroE_len ..) fun j h1 h2 => ?_
  rw [zeroE_at h2, if_neg (by omega), edAt_of h2]
theorem zeroE_succ {es : List Ed} {i : Nat} (h : i < es.length) : (zeroE es i).set i ⟨(edAt es i).f, (edAt es i).t, 0, (edAt es i).k⟩ = zeroE es (i + 1) := by
  refine List.ext_getElem (by simp [zeroE_len]) fun j h1 h2 => ?_
  have hj : j < es.length := by rw [zeroE_len] at h2; exact h2
  rw [List.getElem_set, zeroE_at hj, zeroE_at hj]
  by_cases e : i = j
  · subst e; rw [if_pos rfl, if_pos (by omega)]
  · rw [if_neg e]
    by_cases q : j < i
    · rw [if_pos q, if_pos (by omega)]
    · rw [if_neg q, if_neg (by omega)]
theorem zeroE_end {es : List Ed} {m : Nat} (hm : ∀ e ∈ es, e.c / 2 ^ m = 0) : zeroE es es.length = capL es m := by
  unfold zeroE capL
  refine List.ext_getElem (by simp) fun j h1 h2 => ?_
  have hj : j < es.length := by simpa using h1
  simp [hj, edAt_of hj, capE, hm _ (List.getElem_mem hj)]
end Go.SolveP
