/-
  A flow along a way: what is over at its ends, and what it costs. Plain lemmas.
-/
import Derived.Test.YtfafecgnjjkagaaRPlain4
import Derived.Test.YtfafecgnjjkagaaNSums
namespace Go.RestP
open Go Go.Mem Go.NetP

theorem gain_neg (c : Bool) (x : Int) : gain c (-x) = -gain c x := by unfold gain; split <;> omega
theorem set_at (fl : List Int) {k j : Nat} (x : Int) (hj : j < fl.length) : (fl.set k x).getD j 0 = if k = j then x else fl.getD j 0 := by
  simp only [List.getD_eq_getElem?_getD, List.getElem?_set]
  by_cases h : k = j
  · subst h; simp [hj]
  · simp [h]
theorem over_by (es : List Ed) (fl : List Int) (k v : Nat) (d : Int) : ∀ m, m ≤ fl.length → overAt es (fl.set k (fl.getD k 0 + d)) v m = overAt es fl v m + (if k < m then gain (decide ((edAt es k).t = v)) d - gain (decide ((edAt es k).f = v)) d else 0)
  | 0, _ => by simp [overAt]
  | m + 1, h => by
    rw [overAt_succ, overAt_succ, over_by es fl k v d m (by omega), set_at fl _ (by omega)]
    by_cases e : k = m
    · subst e
      simp only [Nat.lt_irrefl, if_false, Nat.lt_succ_self, if_true, gain_add]; omega
    · by_cases e2 : k < m
      · have : k < m + 1 := by omega
        simp only [e, e2, this, if_true, if_false]; omega
      · have : ¬ k < m + 1 := by omega
        simp only [e, e2, this, if_false]; omega
theorem cost_by (es : List Ed) (fl : List Int) (k : Nat) (d : Int) : ∀ m, m ≤ fl.length → flowCost es (fl.set k (fl.getD k 0 + d)) m = flowCost es fl m + (if k < m then d * (edAt es k).k else 0)
  | 0, _ => by simp [flowCost]
  | m + 1, h => by
    rw [flowCost_succ, flowCost_succ, cost_by es fl k d m (by omega), set_at fl _ (by omega)]
    by_cases e : k = m
    · subst e
      simp only [Nat.lt_irrefl, if_false, Nat.lt_succ_self, if_true, Int.add_mul]; omega
    · by_cases e2 : k < m
      · have : k < m + 1 := by omega
        simp only [e, e2, this, if_true, if_false]; omega
      · have : ¬ k < m + 1 := by omega
        simp only [e, e2, this, if_false]; omega
/-- What a push does to a node, and to the cost. -/
theorem over_push {es : List Ed} {fl : List Int} {a : Nat} (h : a / 2 < fl.length) (b : Int) (v : Nat) :
    overAt es (pushL fl a b) v fl.length = overAt es fl v fl.length + (gain (decide ((endsE es a).2.1 = v)) b - gain (decide ((endsE es a).1 = v)) b) := by
  unfold pushL
  rw [over_by es fl _ v _ _ (Nat.le_refl _), if_pos h]
  unfold endsE sgn
  cases oddB a
  · simp
  · simp only [if_true, gain_neg]; omega
theorem cost_push {es : List Ed} {fl : List Int} {a : Nat} (h : a / 2 < fl.length) (b : Int) :
    flowCost es (pushL fl a b) fl.length = flowCost es fl fl.length + (endsE es a).2.2 * b := by
  unfold pushL
  rw [cost_by es fl _ _ _ (Nat.le_refl _), if_pos h]
  unfold endsE sgn
  cases oddB a
  · simp [Int.mul_comm]
  · simp only [if_true, Int.neg_mul]; rw [Int.mul_comm]
/-- What the first i arcs cost, by each. -/
def wayC (es : List Ed) (arcs : List Int) (b : Int) : Nat → Int
  | 0 => 0
  | i + 1 => wayC es arcs b i + (endsE es (arcAt arcs i)).2.2 * b
def bringV (es : List Ed) (arcs : List Int) (b : Int) (v : Nat) : Nat → Int
  | 0 => 0
  | i + 1 => gain (decide ((endsE es (arcAt arcs i)).2.1 = v)) b - gain (decide ((endsE es (arcAt arcs 0)).1 = v)) b
theorem along_over {n : Int} {es : List Ed} {fl : List Int} {b : Int} {arcs : List Int} (hway : wayB n es arcs = true) (hw : withinB n es fl = true) (hb : 0 ≤ b) :
    ∀ (i : Nat) (l : List Int), i ≤ arcs.length → alongF es fl b (arcs.take i) = some l →
      withinB n es l = true ∧ (∀ v, overAt es l v l.length = overAt es fl v fl.length + bringV es arcs b v i) ∧ flowCost es l l.length = flowCost es fl fl.length + wayC es arcs b i ∧ (0 < i → b ≤ 4503599627370496)
  | 0, l, _, h => by
    have : l = fl := by simpa [alongF] using h.symm
    subst this
    exact ⟨hw, fun v => by simp [bringV], by simp [wayC], fun h => by omega⟩
  | i + 1, l, hi, h => by
    have hlt : i < arcs.length := by omega
    rw [along_succ hlt] at h
    cases hp : alongF es fl b (arcs.take i) with
    | none => rw [hp] at h; simp [alongO] at h
    | some l0 =>
      rw [hp] at h
      obtain ⟨h1, h2, h3, _⟩ := along_over hway hw hb i l0 (by omega) hp
      simp only [alongO, Option.bind_some] at h
      split at h
      · cases h
      · rename_i hroom
        have hl2 : l = pushL l0 (arcs.getD i 0).toNat b := (Option.some.inj h).symm
        subst hl2
        have hst := (way_cap hway).2.2 i hlt
        have hhas := has_nat (step_has hst)
        have hll : l0.length = es.length := (within_cap h1).1
        have hhf : (arcs.getD i 0).toNat / 2 < l0.length := by rw [hll]; exact has_half hhas
        have hrb := room_bound h1 hhas
        refine ⟨push_within h1 hhas hb (by omega), fun v => ?_, ?_, fun _ => by omega⟩
        · rw [pushL_length, over_push hhf, h2 v]
          show _ + bringV es arcs b v i + (gain (decide ((endsE es (arcAt arcs i)).2.1 = v)) b - gain (decide ((endsE es (arcAt arcs i)).1 = v)) b) = _ + bringV es arcs b v (i + 1)
          rcases i with _ | i
          · simp only [bringV]; omega
          · have hlink : (endsE es (arcAt arcs (i + 1))).1 = (endsE es (arcAt arcs i)).2.1 := by
              simp only [stepB, Bool.and_eq_true, Bool.or_eq_true, beq_iff_eq] at hst
              rcases hst.2 with q | q
              · omega
              · simpa using q
            simp only [bringV, hlink]; omega
        · rw [pushL_length, cost_push hhf, h3]
          show _ + wayC es arcs b i + (endsE es (arcAt arcs i)).2.2 * b = _ + (wayC es arcs b i + (endsE es (arcAt arcs i)).2.2 * b)
          omega
/-- Two flows' costs differ by no more than all costs. -/
theorem diff_le {n : Int} {es : List Ed} {x y : List Int} (hx : withinB n es x = true) (hy : withinB n es y = true) : ∀ i, i ≤ es.length → (flowCost es x i - flowCost es y i).natAbs ≤ costs (es.take i)
  | 0, _ => by simp [flowCost]
  | i + 1, hi => by
    have ih := diff_le hx hy i (by omega)
    have hlt : i < es.length := by omega
    obtain ⟨h0, h1⟩ := within_at hx hlt
    obtain ⟨g0, g1⟩ := within_at hy hlt
    rw [flowCost_succ, flowCost_succ, costs_snoc hlt, edAt_of hlt]
    have h2 : ((x.getD i 0 - y.getD i 0) * es[i].k).natAbs ≤ costE es[i] := by
      rw [Int.natAbs_mul]
      unfold costE absI
      exact Nat.mul_le_mul (by omega) (Nat.le_refl _)
    rw [Int.sub_mul] at h2
    omega
theorem diff_bound {n : Int} {es : List Ed} {x y : List Int} (hx : withinB n es x = true) (hy : withinB n es y = true) : -4611686018427387904 ≤ flowCost es x x.length - flowCost es y y.length ∧ flowCost es x x.length - flowCost es y y.length ≤ 4611686018427387904 := by
  have h1 := diff_le hx hy es.length (Nat.le_refl _)
  rw [List.take_length] at h1
  rw [(within_cap hx).1, (within_cap hy).1]
  obtain ⟨_, _, _, h3, _⟩ := right_cap (within_cap hx).2.1
  omega
theorem along_prefix {es : List Ed} {fl : List Int} {b : Int} {arcs l : List Int} (h : alongF es fl b arcs = some l) (i : Nat) : ∃ l0, alongF es fl b (arcs.take i) = some l0 := by
  cases hp : alongF es fl b (arcs.take i) with
  | none => rw [along_stop hp] at h; cases h
  | some l0 => exact ⟨l0, rfl⟩
/-- All that the walk of the law asks. -/
theorem along_all {N : Nat} {es : List Ed} {fl l : List Int} {b : Int} {arcs : List Int} (hE : alongE N es fl arcs b = 0) (hV : l = alongV N es fl arcs b) :
    withinB N es fl = true ∧ withinB N es l = true ∧ 0 < arcs.length ∧ 0 ≤ b ∧ b ≤ 4503599627370496 ∧
    (∀ j, j < arcs.length → hasB es.length (arcs.getD j 0) = true) ∧
    (∀ i, i ≤ arcs.length → -4611686018427387904 ≤ wayC es arcs b i ∧ wayC es arcs b i ≤ 4611686018427387904) ∧
    costV N es l = costV N es fl + wayC es arcs b arcs.length ∧
    (∃ S E : Nat, S < N ∧ E < N ∧ (endsE es (arcAt arcs 0)).1 = S ∧ (endsE es (arcAt arcs (arcs.length - 1))).2.1 = E ∧
      ((overL N es fl).set S ((overL N es fl).getD S 0 - b)).set E (((overL N es fl).set S ((overL N es fl).getD S 0 - b)).getD E 0 + b) = overL N es l ∧
      (S = E → flowsB N es l = flowsB N es fl)) := by
  have hbad : alongBad N es fl arcs b = false := by
    rw [Bool.eq_false_iff]; intro h
    rw [(along_bad h).1] at hE; omega
  have hF : alongF es fl b arcs = some l := by
    cases hp : alongF es fl b arcs with
    | none => rw [(along_full hbad hp).1] at hE; omega
    | some l0 => rw [hV, (along_ok hbad hp).2]
  simp only [alongBad, Bool.or_eq_false_iff, decide_eq_false_iff_not, Bool.not_eq_false'] at hbad
  obtain ⟨⟨hb, hway⟩, hw⟩ := hbad
  have hb : 0 ≤ b := by omega
  obtain ⟨hpos, hr, hst⟩ := way_cap hway
  have hF' : alongF es fl b (arcs.take arcs.length) = some l := by rw [List.take_length]; exact hF
  obtain ⟨g1, g2, g3, g4⟩ := along_over hway hw hb arcs.length l (Nat.le_refl _) hF'
  have hll : l.length = es.length := (within_cap g1).1
  have hfl : fl.length = es.length := (within_cap hw).1
  have hhas : ∀ j, j < arcs.length → hasB es.length (arcs.getD j 0) = true := fun j hj => step_has (hst j hj)
  have node : ∀ j, j < arcs.length → (0 ≤ (endsE es (arcAt arcs j)).1 ∧ (endsE es (arcAt arcs j)).1 < N) ∧ 0 ≤ (endsE es (arcAt arcs j)).2.1 ∧ (endsE es (arcAt arcs j)).2.1 < N := fun j hj => by
    have hh : arcAt arcs j / 2 < fl.length := by rw [hfl]; exact has_half (has_nat (hhas j hj))
    have := within_ends hw _ hh
    unfold endsE
    split
    · exact ⟨this.1, this.2⟩
    · exact ⟨this.2, this.1⟩
  obtain ⟨S, hS⟩ : ∃ S : Nat, (endsE es (arcAt arcs 0)).1 = S := ⟨(endsE es (arcAt arcs 0)).1.toNat, by have := (node 0 hpos).1; omega⟩
  obtain ⟨E, hE2⟩ : ∃ E : Nat, (endsE es (arcAt arcs (arcs.length - 1))).2.1 = E := ⟨(endsE es (arcAt arcs (arcs.length - 1))).2.1.toNat, by have := (node (arcs.length - 1) (by omega)).2; omega⟩
  have hSN : S < N := by have := (node 0 hpos).1; omega
  have hEN : E < N := by have := (node (arcs.length - 1) (by omega)).2; omega
  obtain ⟨m, hm⟩ : ∃ m, arcs.length = m + 1 := ⟨arcs.length - 1, by omega⟩
  have hbr : ∀ v, overAt es l v l.length = overAt es fl v fl.length + (gain (decide ((E : Int) = v)) b - gain (decide ((S : Int) = v)) b) := fun v => by
    rw [g2 v, hm]
    rw [hm, show m + 1 - 1 = m by omega] at hE2
    simp only [bringV, hE2, hS]
  refine ⟨hw, g1, hpos, hb, g4 hpos, hhas, fun i hi => ?_, ?_, S, E, hSN, hEN, hS, hE2, ?_, fun hse => ?_⟩
  · obtain ⟨l0, h0⟩ := along_prefix hF i
    obtain ⟨k1, _, k3, _⟩ := along_over hway hw hb i l0 hi h0
    have := diff_bound k1 hw
    omega
  · unfold costV
    rw [if_pos hw, if_pos g1, g3]
  · refine List.ext_getElem (by simp [overL]) fun v h1 h2 => ?_
    have hvN : v < N := by simpa [overL] using h2
    have e1 : (overL N es l)[v] = overAt es l v l.length := by simp [overL]
    have e2 : ∀ u, u < N → (overL N es fl).getD u 0 = overAt es fl u fl.length := fun u hu => over_get es fl hu
    have e3 : ∀ (L : List Int) (h : v < L.length), L[v] = L.getD v 0 := fun L h => by simp [h]
    rw [e1, e3 _ h1, set_at _ _ (by simpa [overL] using hvN), set_at _ _ (by simpa [overL] using hEN), set_at _ _ (by simpa [overL] using hvN), hbr v, e2 S hSN, e2 E hEN, e2 v hvN]
    by_cases q1 : E = v
    · subst q1
      by_cases q2 : S = E
      · subst q2; simp [gain]
      · have : ¬ (S : Int) = (E : Int) := by omega
        simp [gain, q2, this]
    · have : ¬ (E : Int) = (v : Int) := by omega
      by_cases q2 : S = v
      · subst q2; simp [gain, q1, this]; omega
      · have : ¬ (S : Int) = (v : Int) := by omega
        simp [gain, q1, q2, *]
  · subst hse
    have : overL N es l = overL N es fl := by
      refine List.ext_getElem (by simp [overL]) fun v h1 h2 => ?_
      have hvN : v < N := by simpa [overL] using h2
      have e1 : (overL N es l)[v] = overAt es l v l.length := by simp [overL]
      have e2 : (overL N es fl)[v] = overAt es fl v fl.length := by simp [overL]
      rw [e1, e2, hbr v]; omega
    unfold flowsB overV
    rw [if_pos hw, if_pos g1, hw, g1, Int.toNat_natCast, this]
end Go.RestP
