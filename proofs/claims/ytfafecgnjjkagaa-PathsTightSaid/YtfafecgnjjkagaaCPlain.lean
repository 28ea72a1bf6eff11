/-
  What is accepted, and that nothing that flows costs less: plain lemmas.
-/
import Derived.Test.YtfafecgnjjkagaaRPlain5
namespace Go.CertP
open Go Go.Mem Go.NetP Go.RestP

def potAt (pot : List Int) (i : Int) : Int := pot.getD i.toNat 0
/-- An arc's length. -/
def lenA (es : List Ed) (pot : List Int) (a : Nat) : Int := (endsE es a).2.2 + potAt pot (endsE es a).1 - potAt pot (endsE es a).2.1
def tightS (es : List Ed) (fl pot : List Int) (a : Nat) : Bool := !(decide (lenA es pot a < 0) && decide (0 < roomE es fl a))
def tightB (es : List Ed) (fl pot : List Int) : Bool := (List.range (2 * es.length)).all (tightS es fl pot)
def farB (x : Int) : Bool := decide (-1099511627776 ≤ x) && decide (x ≤ 1099511627776)
theorem farB_iff (x : Int) : farB x = true ↔ -1099511627776 ≤ x ∧ x ≤ 1099511627776 := by simp [farB]
theorem farB_no (x : Int) : farB x = false ↔ x < -1099511627776 ∨ 1099511627776 < x := by
  rw [← Bool.not_eq_true, farB_iff]; omega
def potB (n : Int) (pot : List Int) : Bool := pot.all farB && decide ((pot.length : Int) = n)
def checkB (n : Int) (es : List Ed) (fl pot : List Int) : Bool := rightB n es && flowsB n es fl && potB n pot && tightB es fl pot
def fitsB (n : Int) (es : List Ed) (fl pot : List Int) : Bool := withinB n es fl && potB n pot && tightB es fl pot
theorem flows_within {n : Int} {es : List Ed} {fl : List Int} (h : flowsB n es fl = true) : withinB n es fl = true := by
  simp only [flowsB, Bool.and_eq_true] at h; exact h.1
theorem check_fits (n : Int) (es : List Ed) (fl pot : List Int) : (rightB n es && flowsB n es fl && fitsB n es fl pot) = checkB n es fl pot := by
  unfold checkB fitsB
  cases hf : flowsB n es fl
  · simp
  · rw [flows_within hf]
    cases rightB n es <;> cases potB n pot <;> cases tightB es fl pot <;> rfl
theorem tight_at {es : List Ed} {fl pot : List Int} (h : tightB es fl pot = true) {a : Nat} (ha : a < 2 * es.length) (hr : 0 < roomE es fl a) : 0 ≤ lenA es pot a := by
  have := List.all_eq_true.1 h a (List.mem_range.2 ha)
  simp only [tightS, Bool.not_eq_true', Bool.and_eq_false_iff, decide_eq_false_iff_not] at this
  omega
theorem tight_stop {es : List Ed} {fl pot : List Int} {a : Nat} (ha : a < 2 * es.length) (h : tightS es fl pot a = false) : tightB es fl pot = false := by
  rw [Bool.eq_false_iff]; intro h'
  have := List.all_eq_true.1 h' a (List.mem_range.2 ha)
  rw [this] at h; cases h
theorem far_stop {pot : List Int} {i : Nat} (hi : i < pot.length) (h : farB (pot.getD i 0) = false) : pot.all farB = false := by
  rw [Bool.eq_false_iff]; intro h'
  have := List.all_eq_true.1 h' _ (List.getElem_mem hi)
  simp only [List.getD_eq_getElem?_getD, List.getElem?_eq_getElem hi, Option.getD_some] at h
  rw [this] at h; cases h
theorem far_step {pot : List Int} {i : Nat} (hi : i < pot.length) (h : (pot.take i).all farB = true) (hx : farB (pot.getD i 0) = true) : (pot.take (i + 1)).all farB = true := by
  rw [List.take_succ_eq_append_getElem hi, List.all_append, h]
  simp only [List.getD_eq_getElem?_getD, List.getElem?_eq_getElem hi, Option.getD_some] at hx
  simp [hx]
theorem pot_cap {n : Int} {pot : List Int} (h : potB n pot = true) : (pot.length : Int) = n ∧ ∀ i, -1099511627776 ≤ pot.getD i 0 ∧ pot.getD i 0 ≤ 1099511627776 := by
  simp only [potB, Bool.and_eq_true, decide_eq_true_eq] at h
  refine ⟨h.2, fun i => ?_⟩
  by_cases hi : i < pot.length
  · have := (farB_iff _).1 (List.all_eq_true.1 h.1 _ (List.getElem_mem hi))
    simpa only [List.getD_eq_getElem?_getD, List.getElem?_eq_getElem hi, Option.getD_some] using this
  · simp only [List.getD_eq_getElem?_getD, List.getElem?_eq_none (Nat.le_of_not_lt hi), Option.getD_none]; omega
/-- The ends of an arc are nodes. -/
theorem ends_node {n : Int} {es : List Ed} (hr : rightB n es = true) {a : Nat} (ha : a < 2 * es.length) : (0 ≤ (endsE es a).1 ∧ (endsE es a).1 < n) ∧ (0 ≤ (endsE es a).2.1 ∧ (endsE es a).2.1 < n) ∧ -1000 ≤ (endsE es a).2.2 ∧ (endsE es a).2.2 ≤ 1000 := by
  have hh : a / 2 < es.length := by omega
  have he := (edgeB_iff _ _).1 ((right_cap hr).2.2.2.2 _ (List.getElem_mem hh))
  unfold endsE
  rw [edAt_of hh]
  split <;> simp only [] <;> omega

/-! ### The sums -/
def sumN (g : Nat → Int) : Nat → Int
  | 0 => 0
  | n + 1 => sumN g n + g n
theorem sumN_add (g h : Nat → Int) : ∀ n, sumN (fun v => g v + h v) n = sumN g n + sumN h n
  | 0 => rfl
  | n + 1 => by simp only [sumN, sumN_add g h n]; omega
theorem sumN_sub (g h : Nat → Int) : ∀ n, sumN (fun v => g v - h v) n = sumN g n - sumN h n
  | 0 => rfl
  | n + 1 => by simp only [sumN, sumN_sub g h n]; omega
theorem sumN_congr {g h : Nat → Int} : ∀ n, (∀ v, v < n → g v = h v) → sumN g n = sumN h n
  | 0, _ => rfl
  | n + 1, e => by simp only [sumN]; rw [sumN_congr n (fun v hv => e v (by omega)), e n (by omega)]
theorem sumN_zero : ∀ n, sumN (fun _ => 0) n = 0
  | 0 => rfl
  | n + 1 => by simp [sumN, sumN_zero n]
theorem sumN_one (p : Nat → Int) (t : Nat) (x : Int) : ∀ n, sumN (fun v => p v * gain (decide ((t : Int) = v)) x) n = if t < n then p t * x else 0
  | 0 => rfl
  | n + 1 => by
    simp only [sumN, sumN_one p t x n]
    rcases Nat.lt_trichotomy t n with h | h | h
    · rw [if_pos h, if_pos (by omega), decide_eq_false (by omega)]; simp [gain]
    · subst h
      rw [if_neg (by omega), if_pos (by omega), decide_eq_true rfl]; simp [gain]
    · rw [if_neg (by omega), if_neg (by omega), decide_eq_false (by omega)]; simp [gain]
/-- What the numbers of the nodes make of a flow. -/
def potSum (es : List Ed) (fl : List Int) (p : Nat → Int) : Nat → Int
  | 0 => 0
  | m + 1 => potSum es fl p m + fl.getD m 0 * (p (edAt es m).t.toNat - p (edAt es m).f.toNat)
theorem pot_over {n : Nat} {es : List Ed} {fl : List Int} (p : Nat → Int) : ∀ m, (∀ j, j < m → (0 ≤ (edAt es j).t ∧ (edAt es j).t < n) ∧ 0 ≤ (edAt es j).f ∧ (edAt es j).f < n) →
    sumN (fun v => p v * overAt es fl v m) n = potSum es fl p m
  | 0, _ => by
    rw [potSum, sumN_congr n (h := fun _ => 0) (fun v _ => by simp [overAt]), sumN_zero]
  | m + 1, h => by
    have ih := pot_over (fl := fl) p m (fun j hj => h j (by omega))
    obtain ⟨⟨t0, t1⟩, f0, f1⟩ := h m (by omega)
    obtain ⟨t, ht⟩ : ∃ t : Nat, (edAt es m).t = t := ⟨(edAt es m).t.toNat, by omega⟩
    obtain ⟨f, hf⟩ : ∃ f : Nat, (edAt es m).f = f := ⟨(edAt es m).f.toNat, by omega⟩
    rw [potSum, ← ih, ht, hf, Int.toNat_natCast, Int.toNat_natCast]
    have e : sumN (fun v => p v * overAt es fl v (m + 1)) n = sumN (fun v => (p v * overAt es fl v m + p v * gain (decide ((t : Int) = v)) (fl.getD m 0)) - p v * gain (decide ((f : Int) = v)) (fl.getD m 0)) n := by
      refine sumN_congr n (fun v _ => ?_)
      rw [overAt_succ, ht, hf, Int.mul_sub, Int.mul_add]
    rw [e, sumN_sub, sumN_add, sumN_one, sumN_one, if_pos (by omega), if_pos (by omega), Int.mul_sub, Int.mul_comm (p t), Int.mul_comm (p f)]
    omega
theorem pot_flows {n : Nat} {es : List Ed} {fl : List Int} (h : flowsB n es fl = true) (p : Nat → Int) : potSum es fl p fl.length = 0 := by
  have hw := flows_within h
  have ho : overV n es fl = overL n es fl := by unfold overV; rw [if_pos hw, Int.toNat_natCast]
  simp only [flowsB, Bool.and_eq_true] at h
  have hz := all_zero.1 h.2
  rw [ho, over_len] at hz
  rw [← pot_over p fl.length (fun j hj => within_ends hw j hj), sumN_congr n (h := fun _ => 0) (fun v hv => by
    have := hz v hv
    rw [over_get es fl hv] at this
    rw [this, Int.mul_zero]), sumN_zero]
/-- The cost by lengths. -/
def redSum (es : List Ed) (fl pot : List Int) : Nat → Int
  | 0 => 0
  | m + 1 => redSum es fl pot m + fl.getD m 0 * lenA es pot (2 * m)
theorem ends_even2 (es : List Ed) (m : Nat) : endsE es (2 * m) = ((edAt es m).f, (edAt es m).t, (edAt es m).k) := by
  unfold endsE
  rw [if_neg (by unfold oddB; simp), show 2 * m / 2 = m by omega]
theorem ends_odd2 (es : List Ed) (m : Nat) : endsE es (2 * m + 1) = ((edAt es m).t, (edAt es m).f, -(edAt es m).k) := by
  unfold endsE
  rw [if_pos (by unfold oddB; simp), show (2 * m + 1) / 2 = m by omega]
theorem len_even (es : List Ed) (pot : List Int) (m : Nat) : lenA es pot (2 * m) = (edAt es m).k + potAt pot (edAt es m).f - potAt pot (edAt es m).t := by unfold lenA; rw [ends_even2]
theorem len_odd (es : List Ed) (pot : List Int) (m : Nat) : lenA es pot (2 * m + 1) = -lenA es pot (2 * m) := by
  rw [len_even]; unfold lenA; rw [ends_odd2]; simp only []; omega
theorem red_cost (es : List Ed) (fl pot : List Int) : ∀ m, redSum es fl pot m = flowCost es fl m - potSum es fl (fun v => pot.getD v 0) m
  | 0 => by simp [redSum, potSum, flowCost]
  | m + 1 => by
    rw [redSum, flowCost_succ, potSum, red_cost es fl pot m, len_even]
    unfold potAt
    have e : ∀ x k a b : Int, x * (k + a - b) = x * k - x * (b - a) := fun x k a b => by rw [show k + a - b = k - (b - a) by omega, Int.mul_sub]
    rw [e]; omega
/-- Nothing that is within is cheaper by lengths than what is tight. -/
theorem red_least {n : Int} {es : List Ed} {x y pot : List Int} (hx : withinB n es x = true) (hy : withinB n es y = true) (ht : tightB es y pot = true) : ∀ m, m ≤ es.length → redSum es y pot m ≤ redSum es x pot m
  | 0, _ => Int.le_refl _
  | m + 1, hm => by
    have ih := red_least hx hy ht m (by omega)
    have hlt : m < es.length := by omega
    obtain ⟨x0, x1⟩ := within_at hx hlt
    obtain ⟨y0, y1⟩ := within_at hy hlt
    have r0 : roomE es y (2 * m) = es[m].c - y.getD m 0 := by
      unfold roomE
      rw [if_neg (by unfold oddB; simp), show 2 * m / 2 = m by omega, edAt_of hlt]
    have r1 : roomE es y (2 * m + 1) = y.getD m 0 := by
      unfold roomE
      rw [if_pos (by unfold oddB; simp), show (2 * m + 1) / 2 = m by omega]
    have t0 := tight_at ht (a := 2 * m) (by omega)
    have t1 := tight_at ht (a := 2 * m + 1) (by omega)
    rw [r0] at t0
    rw [r1, len_odd] at t1
    rw [redSum, redSum]
    have key : y.getD m 0 * lenA es pot (2 * m) ≤ x.getD m 0 * lenA es pot (2 * m) := by
      rcases Int.lt_trichotomy (lenA es pot (2 * m)) 0 with h | h | h
      · have : y.getD m 0 = es[m].c := by
          rcases Int.lt_or_le (y.getD m 0) es[m].c with q | q
          · have := t0 (by omega); omega
          · omega
        exact Int.mul_le_mul_of_nonpos_right (by omega) (by omega)
      · rw [h]; simp
      · have : y.getD m 0 = 0 := by
          rcases Int.lt_or_le 0 (y.getD m 0) with q | q
          · have := t1 q; omega
          · omega
        exact Int.mul_le_mul_of_nonneg_right (by omega) (by omega)
    omega
/-- **Whatever flows costs no less than what is accepted.** -/
theorem best {n : Int} {es : List Ed} {x y pot : List Int} (hx : flowsB n es x = true) (hc : checkB n es y pot = true) : costV n es y ≤ costV n es x := by
  simp only [checkB, Bool.and_eq_true] at hc
  obtain ⟨⟨⟨hr, hy⟩, _⟩, ht⟩ := hc
  have hn := (right_cap hr).1
  obtain ⟨N, rfl⟩ : ∃ N : Nat, n = N := ⟨n.toNat, by omega⟩
  have wx := flows_within hx
  have wy := flows_within hy
  have lx := (within_cap wx).1
  have ly := (within_cap wy).1
  have h := red_least wx wy ht es.length (Nat.le_refl _)
  have ex := red_cost es x pot x.length
  have ey := red_cost es y pot y.length
  rw [pot_flows hx] at ex
  rw [pot_flows hy] at ey
  rw [lx] at ex
  rw [ly] at ey
  unfold costV
  rw [if_pos wx, if_pos wy, lx, ly]
  omega
/-- Numbers that are all moved. -/
def moveL (pot : List Int) (b : Int) : List Int := pot.map (· + b)
theorem move_get {pot : List Int} {b : Int} {i : Nat} (h : i < pot.length) : (moveL pot b).getD i 0 = pot.getD i 0 + b := by simp [moveL, h]
theorem move_check {n : Int} {es : List Ed} {fl pot : List Int} {b : Int} (hp : ∀ i, i < pot.length → -549755813888 ≤ pot.getD i 0 ∧ pot.getD i 0 ≤ 549755813888) (hb : -2147483648 ≤ b ∧ b ≤ 2147483647) : checkB n es fl (moveL pot b) = checkB n es fl pot := by
  have hl : (moveL pot b).length = pot.length := by simp [moveL]
  have a1 : pot.all farB = true := List.all_eq_true.2 fun x hx => by
    obtain ⟨i, hi, rfl⟩ := List.getElem_of_mem hx
    have := hp i hi
    simp only [List.getD_eq_getElem?_getD, List.getElem?_eq_getElem hi, Option.getD_some] at this
    rw [farB_iff]; omega
  have a2 : (moveL pot b).all farB = true := List.all_eq_true.2 fun x hx => by
    obtain ⟨y, hy, rfl⟩ := List.mem_map.1 hx
    obtain ⟨i, hi, rfl⟩ := List.getElem_of_mem hy
    have := hp i hi
    simp only [List.getD_eq_getElem?_getD, List.getElem?_eq_getElem hi, Option.getD_some] at this
    rw [farB_iff]; omega
  unfold checkB potB
  rw [a1, a2, hl]
  by_cases hr : rightB n es = true
  · by_cases hn : (pot.length : Int) = n
    · have : tightB es fl (moveL pot b) = tightB es fl pot := by
        unfold tightB
        rw [Bool.eq_iff_iff, List.all_eq_true, List.all_eq_true]
        have e : ∀ a ∈ List.range (2 * es.length), tightS es fl (moveL pot b) a = tightS es fl pot a := fun a ha => by
          have hh := ends_node hr (List.mem_range.1 ha)
          have e : lenA es (moveL pot b) a = lenA es pot a := by
            unfold lenA potAt
            rw [move_get (by omega), move_get (by omega)]; omega
          unfold tightS
          rw [e]
        exact ⟨fun h a ha => by rw [← e a ha]; exact h a ha, fun h a ha => by rw [e a ha]; exact h a ha⟩
      rw [this]
    · simp [hn]
  · simp only [Bool.not_eq_true] at hr
    simp [hr]
def gapB (n : Int) (es : List Ed) (fl pot x : List Int) : Bool := flowsB n es x && checkB n es fl pot
def gapV (n : Int) (es : List Ed) (fl pot x : List Int) : Int := if gapB n es fl pot x = true then costV n es x - costV n es fl else 0
theorem cost_diff {n : Int} {es : List Ed} {x y : List Int} (hx : withinB n es x = true) (hy : withinB n es y = true) : -4611686018427387904 ≤ costV n es x - costV n es y ∧ costV n es x - costV n es y ≤ 4611686018427387904 := by
  unfold costV
  rw [if_pos hx, if_pos hy]
  exact diff_bound hx hy
theorem check_flows {n : Int} {es : List Ed} {fl pot : List Int} (h : checkB n es fl pot = true) : rightB n es = true ∧ flowsB n es fl = true ∧ potB n pot = true ∧ tightB es fl pot = true := by
  simp only [checkB, Bool.and_eq_true] at h
  exact ⟨h.1.1.1, h.1.1.2, h.1.2, h.2⟩
/-- Two that are accepted cost the same. -/
theorem gap_zero {n : Int} {es : List Ed} {x y p q : List Int} (hx : checkB n es x p = true) (hy : checkB n es y q = true) : gapB n es x p y = true ∧ gapV n es x p y = 0 := by
  have fx := (check_flows hx).2.1
  have fy := (check_flows hy).2.1
  have h1 := best fy hx
  have h2 := best fx hy
  have hb : gapB n es x p y = true := by simp [gapB, fy, hx]
  exact ⟨hb, by unfold gapV; rw [if_pos hb]; omega⟩
end Go.CertP
