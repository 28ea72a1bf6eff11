/-
  What is shifted, and back; plain lemmas.
-/
import Derived.Test.YtlpfojpfepfdgaaMPlain
namespace Go.MoneyP

theorem less_ok {a b : Int} (h : lessE a b = 0) : lessV a b = a - b ∧ 0 ≤ b ∧ b ≤ a ∧ a ≤ 4503599627370496 := by
  unfold lessE at h
  split at h
  · rename_i h1
    split at h
    · rename_i h2
      have ha := (mayB_iff a).1 h1.1
      have hb := (mayB_iff b).1 h1.2
      refine ⟨?_, hb.1, h2, ha.2⟩
      unfold lessV
      rw [if_pos ⟨h1.1, h1.2, h2⟩]
    · omega
  · omega
theorem less_sum {a b : Int} (h : lessE a b = 0) : sumV [lessV a b, b] = a ∧ sumE [lessV a b, b] = 0 := by
  obtain ⟨h1, h2, h3, h4⟩ := less_ok h
  have hm : mays [lessV a b, b] = true := (mays_iff _).2 (by
    intro x hx
    simp only [List.mem_cons, List.not_mem_nil, or_false] at hx
    rcases hx with rfl | rfl <;> omega)
  have hs : ([lessV a b, b] : List Int).sum = a := by simp; omega
  have := sum_ok hm (by omega)
  rw [hs] at this
  exact this
theorem sum_rev (l : List Int) : l.reverse.sum = l.sum := by
  induction l with
  | nil => rfl
  | cons a t ih => rw [List.reverse_cons, List.sum_append, ih]; simp; omega
theorem mays_rev (l : List Int) : mays l.reverse = mays l := by simp [mays]
theorem sumVE_rev (l : List Int) : sumV l.reverse = sumV l ∧ sumE l.reverse = sumE l := by simp only [sumV, sumE, mays_rev, sum_rev, and_self]

theorem sum_adds {l b : List Int} (h : l.length = b.length) : (adds l b).sum = l.sum + b.sum := by
  induction l generalizing b with
  | nil => cases b <;> simp_all [adds]
  | cons x t ih =>
    cases b with
    | nil => simp at h
    | cons y s =>
      have := ih (b := s) (by simpa using h)
      simp only [adds, List.zipWith_cons_cons, List.sum_cons] at this ⊢
      omega
theorem sum_neg (b : List Int) : (b.map (- ·)).sum = -b.sum := by
  induction b with
  | nil => rfl
  | cons x t ih => simp only [List.map_cons, List.sum_cons, ih]; omega
theorem adds_back {l b : List Int} (h : l.length = b.length) : adds (adds l b) (b.map (- ·)) = l := by
  induction l generalizing b with
  | nil => simp [adds]
  | cons x t ih =>
    cases b with
    | nil => simp at h
    | cons y s =>
      have := ih (b := s) (by simpa using h)
      simp only [adds, List.zipWith_cons_cons, List.map_cons] at this ⊢
      rw [this]
      congr 1
      omega
theorem adds_assoc {l b c : List Int} : adds (adds l b) c = adds l (adds b c) := by
  induction l generalizing b c with
  | nil => simp [adds]
  | cons x t ih =>
    cases b with
    | nil => simp [adds]
    | cons y s =>
      cases c with
      | nil => simp [adds]
      | cons z r =>
        have := ih (b := s) (c := r)
        simp only [adds, List.zipWith_cons_cons] at this ⊢
        rw [this]
        congr 1
        omega
theorem shiftE_zero {l b : List Int} (h : shiftE l b = 0) : fitB l b = true ∧ mays (adds l b) = true ∧ shiftV l b = adds l b := by
  unfold shiftE at h
  split at h
  · rename_i h1
    split at h
    · rename_i h2
      refine ⟨h1, h2, ?_⟩
      unfold shiftV
      rw [if_pos ⟨h1, h2⟩]
    · split at h <;> omega
  · omega
theorem shiftE_not {l b : List Int} (h : shiftE l b ≠ 0) : shiftV l b = [] := by
  unfold shiftE at h
  unfold shiftV
  split at h
  · rename_i h1
    split at h
    · exact absurd rfl h
    · rename_i h2
      rw [if_neg (by intro h'; exact h2 h'.2)]
  · rename_i h1
    rw [if_neg (by intro h'; exact h1 h'.1)]
theorem shift_back {l b : List Int} (h : shiftE l b = 0) : shiftE (adds l b) (b.map (- ·)) = 0 ∧ shiftV (adds l b) (b.map (- ·)) = l := by
  obtain ⟨h1, h2, _⟩ := shiftE_zero h
  obtain ⟨hl, hm, hn, hs⟩ := (fitB_iff _ _).1 h1
  have hb := adds_back hl
  have hf : fitB (adds l b) (b.map (- ·)) = true := by
    refine (fitB_iff _ _).2 ⟨by rw [adds_length hl, List.length_map, hl], h2, ?_, by rw [sum_neg, hs]; rfl⟩
    rw [nears_iff] at hn ⊢
    intro x hx
    obtain ⟨y, hy, rfl⟩ := List.mem_map.1 hx
    have := hn y hy
    omega
  have := shift_ok hf (by rw [hb]; exact hm)
  rw [hb] at this
  exact ⟨this.2, this.1⟩
theorem shift_two {l b c : List Int} (h : shiftE l b = 0) (h' : shiftE (adds l b) c = 0) (hn : nears (adds b c) = true) : shiftE l (adds b c) = 0 ∧ shiftV l (adds b c) = shiftV (adds l b) c := by
  obtain ⟨h1, h2, _⟩ := shiftE_zero h
  obtain ⟨k1, k2, k3⟩ := shiftE_zero h'
  obtain ⟨hl, hm, _, hs⟩ := (fitB_iff _ _).1 h1
  obtain ⟨kl, km, _, ks⟩ := (fitB_iff _ _).1 k1
  have hbc : b.length = c.length := by rw [← hl, ← kl, adds_length hl]
  have hf : fitB l (adds b c) = true := (fitB_iff _ _).2 ⟨by rw [adds_length hbc, hl], hm, hn, by rw [sum_adds hbc, hs, ks]; rfl⟩
  have := shift_ok hf (by rw [← adds_assoc]; exact k2)
  rw [k3, adds_assoc]
  exact ⟨this.2, this.1⟩
theorem reverse_step {l : List Int} {q : Nat} (h : q < l.length) : (l.drop (q + 1)).reverse ++ [l.getD q 0] = (l.drop q).reverse := by
  have : l.getD q 0 = l[q] := by simp [h]
  rw [List.drop_eq_getElem_cons h, List.reverse_cons, this]
theorem neg_step {l : List Int} {i : Nat} (h : i < l.length) : (l.map (- ·)).take i ++ [-(l.getD i 0)] = (l.map (- ·)).take (i + 1) := by
  rw [← List.map_take, ← List.map_take, take_snoc h, List.map_append]; rfl
end Go.MoneyP
