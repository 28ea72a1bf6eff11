/-
  What best flows cost: certificates of nets that are like one another. Plain lemmas.
-/
import Derived.Test.YtacbfpgijmpilaaSF
set_option linter.unusedVariables false
set_option linter.unusedSimpArgs false
namespace Go.SolveP
open Go Go.Mem Go.NetP Go.RestP Go.CertP
/-- An edge's length. -/
def lenE (es : List Ed) (pot : List Int) (j : Nat) : Int := (edAt es j).k + potAt pot (edAt es j).f - potAt pot (edAt es j).t
theorem odd_even (j : Nat) : oddB (2 * j) = false ∧ oddB (2 * j + 1) = true := by unfold oddB; constructor <;> simp <;> omega
theorem len_arcs (es : List Ed) (fl pot : List Int) (j : Nat) : lenA es pot (2 * j) = lenE es pot j ∧ lenA es pot (2 * j + 1) = -lenE es pot j ∧ roomE es fl (2 * j) = (edAt es j).c - fl.getD j 0 ∧ roomE es fl (2 * j + 1) = fl.getD j 0 := by
  obtain ⟨h0, h1⟩ := odd_even j
  have e0 : 2 * j / 2 = j := by omega
  have e1 : (2 * j + 1) / 2 = j := by omega
  unfold lenA endsE roomE lenE
  rw [h0, h1, e0, e1]
  refine ⟨rfl, ?_, rfl, rfl⟩
  simp only [if_true]
  omega
theorem tight_iff {es : List Ed} {fl pot : List Int} : tightB es fl pot = true ↔ ∀ j, j < es.length → (fl.getD j 0 < (edAt es j).c → 0 ≤ lenE es pot j) ∧ (0 < fl.getD j 0 → lenE es pot j ≤ 0) := by
  constructor
  · intro h j hj
    obtain ⟨a1, a2, a3, a4⟩ := len_arcs es fl pot j
    have h0 := tight_at h (a := 2 * j) (by omega)
    have h1 := tight_at h (a := 2 * j + 1) (by omega)
    rw [a1, a3] at h0
    rw [a2, a4] at h1
    exact ⟨fun q => h0 (by omega), fun q => by have := h1 q; omega⟩
  · intro h
    unfold tightB
    refine List.all_eq_true.2 fun a ha => ?_
    have ha := List.mem_range.1 ha
    obtain ⟨q1, q2⟩ := h (a / 2) (by omega)
    obtain ⟨a1, a2, a3, a4⟩ := len_arcs es fl pot (a / 2)
    unfold tightS
    rcases Nat.mod_two_eq_zero_or_one a with e | e
    · have ea : a = 2 * (a / 2) := by omega
      rw [ea, a1, a3]
      clear a1 a2 a3 a4
      generalize fl.getD (a / 2) 0 = f at *
      simp
      rcases Int.lt_or_le f (edAt es (a / 2)).c with q | q
      · exact .inl (q1 q)
      · exact .inr (by omega)
    · have ea : a = 2 * (a / 2) + 1 := by omega
      rw [ea, a2, a4]
      clear a1 a2 a3 a4
      generalize fl.getD (a / 2) 0 = f at *
      simp
      rcases Int.lt_or_le 0 f with q | q
      · exact .inl (q2 q)
      · exact .inr q
theorem check_iff {n : Int} {es : List Ed} {fl pot : List Int} : checkB n es fl pot = true ↔ rightB n es = true ∧ flowsB n es fl = true ∧ potB n pot = true ∧ tightB es fl pot = true := by
  simp only [checkB, Bool.and_eq_true, and_assoc]
theorem over_mul {es es' : List Ed} {fl fl' : List Int} {v : Nat} (x : Int) : ∀ m, (∀ j, j < m → (edAt es' j).t = (edAt es j).t ∧ (edAt es' j).f = (edAt es j).f ∧ fl'.getD j 0 = x * fl.getD j 0) → overAt es' fl' v m = x * overAt es fl v m
  | 0, _ => by simp [overAt]
  | m + 1, h => by
    have ih := over_mul (es := es) (es' := es') (fl := fl) (fl' := fl') (v := v) x m fun j hj => h j (by omega)
    obtain ⟨h1, h2, h3⟩ := h m (by omega)
    rw [overAt_succ, overAt_succ, ih, h1, h2, h3]
    have hg : ∀ c y, gain c (x * y) = x * gain c y := fun c y => by unfold gain; split <;> simp
    rw [hg, hg, Int.mul_sub, Int.mul_add]
/-! ### All Caps twice as great -/
def capsL (es : List Ed) : List Ed := es.map fun e => ⟨e.f, e.t, 2 * e.c, e.k⟩
theorem capsL_len (es : List Ed) : (capsL es).length = es.length := by simp [capsL]
theorem capsL_at {es : List Ed} {j : Nat} (h : j < es.length) : edAt (capsL es) j = ⟨(edAt es j).f, (edAt es j).t, 2 * (edAt es j).c, (edAt es j).k⟩ := by
  rw [edAt_of (by rw [capsL_len]; exact h), edAt_of h]; simp [capsL]
theorem dbl_at (fl : List Int) (j : Nat) : (fl.map (2 * ·)).getD j 0 = 2 * fl.getD j 0 := by
  rw [List.getD_eq_getElem?_getD, List.getElem?_map, List.getD_eq_getElem?_getD]
  cases fl[j]? <;> rfl
theorem caps_check {n : Int} {es : List Ed} {fl pot : List Int} (h : checkB n es fl pot = true) (hr : rightB n (capsL es) = true) : checkB n (capsL es) (fl.map (2 * ·)) pot = true ∧ costV n (capsL es) (fl.map (2 * ·)) = 2 * costV n es fl := by
  obtain ⟨h1, h2, h3, h4⟩ := check_iff.1 h
  obtain ⟨hw, ho⟩ := flows_iff.1 h2
  obtain ⟨w1, w2, w3⟩ := within_iff.1 hw
  have hw' : withinB n (capsL es) (fl.map (2 * ·)) = true := within_iff.2 ⟨by rw [capsL_len, List.length_map]; exact w1, hr, fun i hi => by
    rw [capsL_len] at hi
    have := w3 i hi
    rw [capsL_at hi, dbl_at]; dsimp only; omega⟩
  refine ⟨check_iff.2 ⟨hr, flows_iff.2 ⟨hw', fun v hv => ?_⟩, h3, tight_iff.2 fun j hj => ?_⟩, ?_⟩
  · rw [List.length_map, over_mul (es := es) (fl := fl) 2 fl.length fun j hj => by rw [capsL_at (by omega)]; exact ⟨rfl, rfl, dbl_at fl j⟩, ho v hv]; rfl
  · rw [capsL_len] at hj
    obtain ⟨t1, t2⟩ := tight_iff.1 h4 j hj
    have e : lenE (capsL es) pot j = lenE es pot j := by unfold lenE; rw [capsL_at hj]
    rw [e, dbl_at, capsL_at hj]
    exact ⟨fun q => t1 (by dsimp only at q; omega), fun q => t2 (by omega)⟩
  · rw [costV_of hw', costV_of hw, capsL_len]
    exact cost_mul 2 _ fun j hj => by rw [capsL_at hj, dbl_at]; dsimp only; rw [Int.mul_assoc]
/-! ### All edges turned round -/
def turnL (es : List Ed) : List Ed := es.map fun e => ⟨e.t, e.f, e.c, e.k⟩
theorem turnL_len (es : List Ed) : (turnL es).length = es.length := by simp [turnL]
theorem turnL_at {es : List Ed} {j : Nat} (h : j < es.length) : edAt (turnL es) j = ⟨(edAt es j).t, (edAt es j).f, (edAt es j).c, (edAt es j).k⟩ := by
  rw [edAt_of (by rw [turnL_len]; exact h), edAt_of h]; simp [turnL]
theorem neg_at (pot : List Int) (j : Nat) : (pot.map (- ·)).getD j 0 = - pot.getD j 0 := by
  rw [List.getD_eq_getElem?_getD, List.getElem?_map, List.getD_eq_getElem?_getD]
  cases pot[j]? <;> simp
theorem turn_right {n : Int} {es : List Ed} (h : rightB n es = true) : rightB n (turnL es) = true := by
  obtain ⟨h1, h2, h3, h4, h5⟩ := right_cap h
  refine right_ok h1 h2 (by rw [turnL_len]; exact h3) ?_ ?_
  · unfold edges turnL
    rw [List.all_eq_true]
    intro e he
    obtain ⟨x, hx, rfl⟩ := List.mem_map.1 he
    have := (edgeB_iff _ _).1 (h5 x hx)
    rw [edgeB_iff]; exact ⟨this.2.1, this.1, this.2.2⟩
  · have : costs (turnL es) = costs es := by
      unfold costs turnL
      rw [List.map_map]; rfl
    omega
theorem over_turn {es : List Ed} {fl : List Int} {v : Nat} : ∀ m, m ≤ es.length → overAt (turnL es) fl v m = - overAt es fl v m
  | 0, _ => rfl
  | m + 1, h => by
    rw [overAt_succ, overAt_succ, over_turn m (by omega), turnL_at (by omega)]
    dsimp only; omega
theorem turn_check {n : Int} {es : List Ed} {fl pot : List Int} (h : checkB n es fl pot = true) : checkB n (turnL es) fl (pot.map (- ·)) = true ∧ costV n (turnL es) fl = costV n es fl := by
  obtain ⟨h1, h2, h3, h4⟩ := check_iff.1 h
  have hr := turn_right h1
  obtain ⟨hw, ho⟩ := flows_iff.1 h2
  obtain ⟨w1, w2, w3⟩ := within_iff.1 hw
  have hw' : withinB n (turnL es) fl = true := within_iff.2 ⟨by rw [turnL_len]; exact w1, hr, fun i hi => by
    rw [turnL_len] at hi
    have := w3 i hi
    rw [turnL_at hi]; exact this⟩
  refine ⟨check_iff.2 ⟨hr, flows_iff.2 ⟨hw', fun v hv => ?_⟩, ?_, tight_iff.2 fun j hj => ?_⟩, ?_⟩
  · rw [over_turn _ (by omega), ho v hv]; rfl
  · simp only [potB, Bool.and_eq_true, decide_eq_true_eq] at h3 ⊢
    refine ⟨List.all_eq_true.2 fun x hx => ?_, by rw [List.length_map]; exact h3.2⟩
    obtain ⟨y, hy, rfl⟩ := List.mem_map.1 hx
    have := (farB_iff y).1 (List.all_eq_true.1 h3.1 y hy)
    rw [farB_iff]; omega
  · rw [turnL_len] at hj
    have e : lenE (turnL es) (pot.map (- ·)) j = lenE es pot j := by unfold lenE potAt; rw [turnL_at hj]; dsimp only; rw [neg_at, neg_at]; omega
    rw [e, turnL_at hj]
    exact tight_iff.1 h4 j hj
  · rw [costV_of hw', costV_of hw, turnL_len]
    have := cost_mul (es := es) (es' := turnL es) (fl := fl) (fl' := fl) 1 es.length fun j hj => by rw [turnL_at hj, Int.one_mul]
    rw [this, Int.one_mul]
end Go.SolveP
