/-
  A way that closes. Plain lemmas.
-/
import Derived.Test.YtdjkpnddjiapgaaNAdds
namespace Go.NetP
open Go Go.Mem

def rEd (zs : List Int) (b : Int) (i : Nat) : Ed := ⟨zs.getD i 0 % 40, zs.getD ((i + 1) % zs.length) 0 % 40, b + 1, (i : Int) - 20⟩
def rL (zs : List Int) (b : Int) (i : Nat) : List Ed := (List.range i).map (rEd zs b)
theorem rL_succ (zs : List Int) (b : Int) (i : Nat) : rL zs b (i + 1) = rL zs b i ++ [rEd zs b i] := by simp [rL, List.range_succ]
theorem rL_length (zs : List Int) (b : Int) (i : Nat) : (rL zs b i).length = i := by simp [rL]
theorem rL_get (zs : List Int) (b : Int) {i k : Nat} (h : k < i) : (rL zs b i)[k]'(by rw [rL_length]; exact h) = rEd zs b k := by simp [rL]
theorem rL_at (zs : List Int) (b : Int) {i k : Nat} (h : k < i) : edAt (rL zs b i) k = rEd zs b k := by rw [edAt_of (by rw [rL_length]; exact h), rL_get zs b h]
theorem rEd_right (zs : List Int) {b : Int} (hb : 0 ≤ b ∧ b ≤ 65535) {i : Nat} (hi : i < 40) : edgeB 40 (rEd zs b i) = true := by
  rw [edgeB_iff]; simp only [rEd]; omega
theorem rCost (zs : List Int) {b : Int} (hb : 0 ≤ b ∧ b ≤ 65535) {i : Nat} (hi : i < 40) : costE (rEd zs b i) ≤ 1310720 := by
  unfold costE absI rEd
  have h1 : (b + 1).toNat ≤ 65536 := by omega
  have h2 : ((i : Int) - 20).natAbs ≤ 20 := by omega
  exact Nat.le_trans (Nat.mul_le_mul h1 h2) (by decide)
theorem rCosts (zs : List Int) {b : Int} (hb : 0 ≤ b ∧ b ≤ 65535) : ∀ i, i ≤ 40 → costs (rL zs b i) ≤ i * 1310720
  | 0, _ => by simp [rL, costs]
  | i + 1, h => by
    have ih := rCosts zs hb i (by omega)
    have := rCost zs hb (i := i) (by omega)
    have e : costs (rL zs b (i + 1)) = costs (rL zs b i) + costE (rEd zs b i) := by rw [rL_succ]; simp [costs, List.sum_append]
    omega
theorem r_right (zs : List Int) {b : Int} (hb : 0 ≤ b ∧ b ≤ 65535) {i : Nat} (hi : i ≤ 40) : rightB 40 (rL zs b i) = true := by
  refine right_ok (by decide) (by decide) (by rw [rL_length]; omega) ?_ ?_
  · refine List.all_eq_true.2 fun e he => ?_
    obtain ⟨j, hj, rfl⟩ := List.mem_map.1 he
    exact rEd_right zs hb (by have := List.mem_range.1 hj; omega)
  · have := rCosts zs hb i hi
    omega
theorem r_within (zs : List Int) {b : Int} (hb : 0 ≤ b ∧ b ≤ 65535) {L : Nat} (hL : L ≤ 40) (fl : List Int) (hl : fl.length = L) (h : ∀ j, j < L → fl.getD j 0 = b ∨ fl.getD j 0 = b + 1) : withinB 40 (rL zs b L) fl = true := by
  refine within_ok (by rw [rL_length, hl]) (r_right zs hb hL) (fun j hj => ?_)
  rw [hl] at hj
  rw [capB_at (by rw [rL_length]; exact hj), rL_get zs b hj]
  have hc : (rEd zs b j).c = b + 1 := rfl
  rw [hc, Bool.and_eq_true, decide_eq_true_eq, decide_eq_true_eq]
  have := h j hj
  omega
theorem rep_get (b : Int) {L j : Nat} (h : j < L) : (List.replicate L b).getD j 0 = b := by simp [h]
/-- What is over at a node when the first m edges have come. -/
theorem r_over (zs : List Int) (b : Int) (v : Nat) {L : Nat} (hz : zs.length = L) : ∀ m, m < L → overAt (rL zs b L) (List.replicate L b) v m = gain (decide (zs.getD m 0 % 40 = (v : Int))) b - gain (decide (zs.getD 0 0 % 40 = (v : Int))) b
  | 0, _ => by simp [overAt]
  | m + 1, h => by
    have e1 : (rEd zs b m).t = zs.getD (m + 1) 0 % 40 := by simp only [rEd]; rw [Nat.mod_eq_of_lt (by omega)]
    have e2 : (rEd zs b m).f = zs.getD m 0 % 40 := rfl
    rw [overAt_succ, r_over zs b v hz m (by omega), rL_at zs b (by omega), rep_get b (by omega), e1, e2]
    omega
theorem r_over_all (zs : List Int) (b : Int) (v : Nat) {L : Nat} (hz : zs.length = L) (h0 : 0 < L) : overAt (rL zs b L) (List.replicate L b) v L = 0 := by
  obtain ⟨m, rfl⟩ : ∃ m, L = m + 1 := ⟨L - 1, by omega⟩
  have e1 : (rEd zs b m).t = zs.getD 0 0 % 40 := by simp only [rEd]; rw [show (m + 1) % zs.length = 0 by rw [hz]; simp]
  have e2 : (rEd zs b m).f = zs.getD m 0 % 40 := rfl
  rw [overAt_succ, r_over zs b v hz m (by omega), rL_at zs b (by omega), rep_get b (by omega), e1, e2]
  omega
theorem r_flows (zs : List Int) {b : Int} (hb : 0 ≤ b ∧ b ≤ 65535) {L : Nat} (hz : zs.length = L) (h0 : 0 < L) (hL : L ≤ 40) : flowsB 40 (rL zs b L) (List.replicate L b) = true := by
  have hw := r_within zs hb hL (List.replicate L b) (by simp) (fun j hj => .inl (rep_get b hj))
  have e : overV 40 (rL zs b L) (List.replicate L b) = overL 40 (rL zs b L) (List.replicate L b) := by simp [overV, hw]
  unfold flowsB
  rw [hw, e, Bool.true_and]
  refine all_zero.2 fun i hi => ?_
  rw [over_len] at hi
  rw [over_get _ _ hi, List.length_replicate, r_over_all zs b i hz h0]
theorem set_get (fl : List Int) {k j : Nat} (x : Int) (hj : j < fl.length) : (fl.set k x).getD j 0 = if k = j then x else fl.getD j 0 := by
  simp only [List.getD_eq_getElem?_getD, List.getElem?_set]
  by_cases h : k = j
  · subst h; simp [hj]
  · simp [h]
theorem over_more (es : List Ed) (fl : List Int) (k v : Nat) : ∀ m, m ≤ fl.length → overAt es (fl.set k (fl.getD k 0 + 1)) v m = overAt es fl v m + (if k < m then gain (decide ((edAt es k).t = v)) 1 - gain (decide ((edAt es k).f = v)) 1 else 0)
  | 0, _ => by simp [overAt]
  | m + 1, h => by
    rw [overAt_succ, overAt_succ, over_more es fl k v m (by omega), set_get fl _ (by omega)]
    by_cases e : k = m
    · subst e
      simp only [Nat.lt_irrefl, if_false, Nat.lt_succ_self, if_true, gain_add]; omega
    · by_cases e2 : k < m
      · have : k < m + 1 := by omega
        simp only [e, e2, this, if_true, if_false]; omega
      · have : ¬ k < m + 1 := by omega
        simp only [e, e2, this, if_false]; omega
theorem cost_more (es : List Ed) (fl : List Int) (k : Nat) : ∀ m, m ≤ fl.length → flowCost es (fl.set k (fl.getD k 0 + 1)) m = flowCost es fl m + (if k < m then (edAt es k).k else 0)
  | 0, _ => by simp [flowCost]
  | m + 1, h => by
    rw [flowCost_succ, flowCost_succ, cost_more es fl k m (by omega), set_get fl _ (by omega)]
    by_cases e : k = m
    · subst e
      simp only [Nat.lt_irrefl, if_false, Nat.lt_succ_self, if_true, Int.add_mul]; omega
    · by_cases e2 : k < m
      · have : k < m + 1 := by omega
        simp only [e, e2, this, if_true, if_false]; omega
      · have : ¬ k < m + 1 := by omega
        simp only [e, e2, this, if_false]; omega
def moreL (b : Int) (L k : Nat) : List Int := (List.replicate L b).set k (b + 1)
theorem moreL_length (b : Int) (L k : Nat) : (moreL b L k).length = L := by simp [moreL]
theorem m_within (zs : List Int) {b : Int} (hb : 0 ≤ b ∧ b ≤ 65535) {L : Nat} (hL : L ≤ 40) (k : Nat) : withinB 40 (rL zs b L) (moreL b L k) = true := by
  refine r_within zs hb hL _ (moreL_length b L k) (fun j hj => ?_)
  unfold moreL
  rw [set_get _ _ (by simpa using hj)]
  split
  · exact .inr rfl
  · exact .inl (rep_get b hj)
theorem m_flows (zs : List Int) {b : Int} (hb : 0 ≤ b ∧ b ≤ 65535) {L : Nat} (hz : zs.length = L) (h0 : 0 < L) (hL : L ≤ 40) {k : Nat} (hk : k < L) : flowsB 40 (rL zs b L) (moreL b L k) = decide ((rEd zs b k).f = (rEd zs b k).t) := by
  have hw := m_within zs hb hL k
  have e : overV 40 (rL zs b L) (moreL b L k) = overL 40 (rL zs b L) (moreL b L k) := by simp [overV, hw]
  have eq : moreL b L k = (List.replicate L b).set k ((List.replicate L b).getD k 0 + 1) := by rw [rep_get b hk]; rfl
  have at_ : ∀ v, v < 40 → (overL 40 (rL zs b L) (moreL b L k)).getD v 0 = gain (decide ((rEd zs b k).t = v)) 1 - gain (decide ((rEd zs b k).f = v)) 1 := fun v hv => by
    rw [over_get _ _ hv, moreL_length, eq, over_more _ _ _ _ _ (by simp), r_over_all zs b v hz h0, if_pos hk, rL_at zs b hk]; omega
  have hq := (edgeB_iff _ _).1 (rEd_right zs hb (i := k) (by omega))
  unfold flowsB
  rw [hw, e, Bool.true_and, Bool.eq_iff_iff, all_zero, decide_eq_true_eq, over_len]
  constructor
  · intro h
    obtain ⟨v, hv⟩ : ∃ v : Nat, (rEd zs b k).t = v := ⟨(rEd zs b k).t.toNat, by omega⟩
    have := h v (by omega)
    rw [at_ v (by omega), hv] at this
    by_cases hc : (rEd zs b k).f = v
    · rw [hc, hv]
    · simp [gain, hc] at this
  · intro h i hi
    rw [at_ i hi, h]; omega
theorem m_cost (zs : List Int) {b : Int} (hb : 0 ≤ b ∧ b ≤ 65535) {L : Nat} (hL : L ≤ 40) {k : Nat} (hk : k < L) : costV 40 (rL zs b L) (moreL b L k) = costV 40 (rL zs b L) (List.replicate L b) + ((k : Int) - 20) := by
  have hw := m_within zs hb hL k
  have hw2 := r_within zs hb hL (List.replicate L b) (by simp) (fun j hj => .inl (rep_get b hj))
  have eq : moreL b L k = (List.replicate L b).set k ((List.replicate L b).getD k 0 + 1) := by rw [rep_get b hk]; rfl
  unfold costV
  rw [if_pos hw, if_pos hw2, moreL_length, List.length_replicate, eq, cost_more _ _ _ _ (by simp), if_pos hk, rL_at zs b hk]
  rfl
theorem r_cost_bound (zs : List Int) {b : Int} (hb : 0 ≤ b ∧ b ≤ 65535) {L : Nat} (hL : L ≤ 40) : -4611686018427387904 ≤ costV 40 (rL zs b L) (List.replicate L b) ∧ costV 40 (rL zs b L) (List.replicate L b) ≤ 4611686018427387904 := by
  have hw2 := r_within zs hb hL (List.replicate L b) (by simp) (fun j hj => .inl (rep_get b hj))
  unfold costV
  rw [if_pos hw2]
  exact flowCost_bound hw2 (by rw [(within_cap hw2).1]; exact Nat.le_refl _)
end Go.NetP
