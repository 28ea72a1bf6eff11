/-
  What is paid between each two: plain.
-/
import Derived.Test.YtjijhpflkkicaaaOW5
set_option linter.unusedVariables false
set_option linter.unusedSimpArgs false
namespace Go.OffP
open Go Go.Mem Go.MoneyP Go.BuildP
def both (O : List Du) (a b : Nat) : Int := min (owesS O a b) (owesS O b a)
/-- What may be paid between each two: up to row a, column b. -/
def leftI (n : Nat) (O : List Du) (a b : Nat) : List Int := (List.range 256).map fun k => if k / 16 < n ∧ k % 16 < n ∧ (k / 16 < a ∨ k / 16 = a ∧ k % 16 < b) then both O (k / 16) (k % 16) else 0
theorem leftI_len (n : Nat) (O : List Du) (a b : Nat) : (leftI n O a b).length = 256 := by unfold leftI; rw [List.length_map, List.length_range]
theorem leftI_at {n : Nat} {O : List Du} {a b k : Nat} (hk : k < 256) : (leftI n O a b).getD k 0 = if k / 16 < n ∧ k % 16 < n ∧ (k / 16 < a ∨ k / 16 = a ∧ k % 16 < b) then both O (k / 16) (k % 16) else 0 := by
  unfold leftI
  rw [List.getD_eq_getElem?_getD, List.getElem?_map, List.getElem?_range hk]; rfl
theorem list_getD {A B : List Int} (hl : A.length = B.length) (h : ∀ k, k < B.length → A.getD k 0 = B.getD k 0) : A = B := by
  refine List.ext_getElem hl fun k h1 h2 => ?_
  have := h k h2
  rwa [List.getD_eq_getElem?_getD, List.getD_eq_getElem?_getD, List.getElem?_eq_getElem h1, List.getElem?_eq_getElem h2] at this
theorem leftI_start (n : Nat) (O : List Du) : leftI n O 0 0 = zero256 := by
  refine list_getD (by rw [leftI_len, zero_len]) fun k hk => ?_
  rw [zero_len] at hk
  rw [leftI_at hk, if_neg (by omega)]
  unfold zero256
  rw [List.getD_eq_getElem?_getD, List.getElem?_replicate, if_pos hk]; rfl
theorem leftI_step {n : Nat} {O : List Du} {a b : Nat} (ha : a < n) (hb : b < n) (hn : n ≤ 16) : (leftI n O a b).set (a * 16 + b) (both O a b) = leftI n O a (b + 1) := by
  refine list_getD (by rw [List.length_set, leftI_len, leftI_len]) fun k hk => ?_
  rw [leftI_len] at hk
  rw [getD_set _ _ _ _ (by rw [leftI_len]; omega), leftI_at hk, leftI_at hk]
  by_cases e : a * 16 + b = k
  · rw [if_pos e, if_pos (by omega), show k / 16 = a by omega, show k % 16 = b by omega]
  · rw [if_neg e]
    by_cases q : k / 16 < n ∧ k % 16 < n ∧ (k / 16 < a ∨ k / 16 = a ∧ k % 16 < b)
    · rw [if_pos q, if_pos (by omega)]
    · rw [if_neg q, if_neg (by omega)]
theorem leftI_next {n : Nat} {O : List Du} {a : Nat} : leftI n O a n = leftI n O (a + 1) 0 := by
  refine list_getD (by rw [leftI_len, leftI_len]) fun k hk => ?_
  rw [leftI_len] at hk
  rw [leftI_at hk, leftI_at hk]
  by_cases q : k / 16 < n ∧ k % 16 < n ∧ (k / 16 < a ∨ k / 16 = a ∧ k % 16 < n)
  · rw [if_pos q, if_pos (by omega)]
  · rw [if_neg q, if_neg (by omega)]
/-- One pay. -/
def payX (Z : List Int) (d : Du) : Int := min (Z.getD (d.f.toNat * 16 + d.t.toNat) 0) d.x
def payZ (Z : List Int) (d : Du) : List Int := Z.set (d.f.toNat * 16 + d.t.toNat) (Z.getD (d.f.toNat * 16 + d.t.toNat) 0 - payX Z d)
def leftZ (n : Nat) (O : List Du) (i : Nat) : List Int := (O.take i).foldl payZ (leftI n O n 0)
def paysL (n : Nat) (O : List Du) : List Int := (List.range O.length).map fun i => payX (leftZ n O i) (O.getD i default)
theorem payZ_len (Z : List Int) (d : Du) : (payZ Z d).length = Z.length := by simp [payZ]
theorem foldZ_len : ∀ (O : List Du) (Z : List Int), (O.foldl payZ Z).length = Z.length
  | [], _ => rfl
  | d :: O, Z => by rw [List.foldl_cons, foldZ_len O, payZ_len]
theorem leftZ_len (n : Nat) (O : List Du) (i : Nat) : (leftZ n O i).length = 256 := by unfold leftZ; rw [foldZ_len, leftI_len]
theorem leftZ_succ {n : Nat} {O : List Du} {i : Nat} (h : i < O.length) : leftZ n O (i + 1) = payZ (leftZ n O i) O[i] := by
  unfold leftZ; rw [List.take_succ_eq_append_getElem h, List.foldl_append]; rfl
theorem paysL_len (n : Nat) (O : List Du) : (paysL n O).length = O.length := by simp [paysL]
theorem paysL_at {n : Nat} {O : List Du} {i : Nat} (h : i < O.length) : (paysL n O).getD i 0 = payX (leftZ n O i) O[i] := by
  unfold paysL
  rw [List.getD_eq_getElem?_getD, List.getElem?_map, List.getElem?_range h]
  simp [h]
theorem both_bound {O : List Du} (h : ∀ d ∈ O, 1 ≤ d.x) (a b : Nat) : 0 ≤ both O a b ∧ both O a b ≤ sumX O := by
  have h1 := owes_bound O h a b
  have h2 := owes_bound O h b a
  unfold both
  omega
/-- What is left is never below 0. -/
theorem leftZ_bound {n : Nat} {O : List Du} (h : ∀ d ∈ O, 1 ≤ d.x) : ∀ i, i ≤ O.length → ∀ k, 0 ≤ (leftZ n O i).getD k 0 ∧ (leftZ n O i).getD k 0 ≤ sumX O
  | 0, _, k => by
    have h0 := sumX_nonneg O h
    show 0 ≤ (leftI n O n 0).getD k 0 ∧ (leftI n O n 0).getD k 0 ≤ sumX O
    rcases Nat.lt_or_ge k 256 with hk | hk
    · rw [leftI_at hk]
      split
      · exact both_bound h _ _
      · omega
    · rw [List.getD_eq_getElem?_getD, List.getElem?_eq_none (by rw [leftI_len]; exact hk)]
      simpa using h0
  | i + 1, hi, k => by
    have ih := leftZ_bound (n := n) h i (by omega)
    have hd := h _ (List.getElem_mem (show i < O.length by omega))
    rw [leftZ_succ (by omega)]
    unfold payZ
    rcases Nat.lt_or_ge ((O[i]).f.toNat * 16 + (O[i]).t.toNat) 256 with hk | hk
    · rw [getD_set _ _ _ _ (by rw [leftZ_len]; exact hk)]
      split
      · have := ih ((O[i]).f.toNat * 16 + (O[i]).t.toNat)
        unfold payX
        omega
      · exact ih k
    · rw [List.set_eq_of_length_le (by rw [leftZ_len]; exact hk)]
      exact ih k
theorem put_next {P : List Int} {n i : Nat} (hl : P.length = n) (hi : i < n) : (P.take i ++ List.replicate (n - i) 0).set i (P.getD i 0) = P.take (i + 1) ++ List.replicate (n - (i + 1)) 0 := by
  have h1 : (P.take i).length = i := by rw [List.length_take]; omega
  rw [List.set_append_right _ _ (by omega), h1, Nat.sub_self, show n - i = n - (i + 1) + 1 by omega, List.replicate_succ, List.set_cons_zero, List.take_succ_eq_append_getElem (by omega : i < P.length), List.append_assoc]
  congr 2
  simp [show i < P.length by omega]
/-- The reference goes through the pairs: what is paid up to the pair (a, b), due i. -/
def doneP (O : List Du) (a b i j : Nat) : Bool := decide ((O.getD j default).f < (a : Int)) || (decide ((O.getD j default).f = (a : Int)) && (decide ((O.getD j default).t < (b : Int)) || (decide ((O.getD j default).t = (b : Int)) && decide (j < i))))
def refY (n : Nat) (O : List Du) (a b i : Nat) : List Int := (List.range O.length).map fun j => if doneP O a b i j = true then (paysL n O).getD j 0 else 0
theorem refY_len (n : Nat) (O : List Du) (a b i : Nat) : (refY n O a b i).length = O.length := by simp [refY]
theorem refY_at {n : Nat} {O : List Du} {a b i j : Nat} (h : j < O.length) : (refY n O a b i).getD j 0 = if doneP O a b i j = true then (paysL n O).getD j 0 else 0 := by
  unfold refY
  rw [List.getD_eq_getElem?_getD, List.getElem?_map, List.getElem?_range h]; rfl
theorem refY_same {n : Nat} {O : List Du} {a b i a' b' i' : Nat} (h : ∀ j, j < O.length → doneP O a b i j = doneP O a' b' i' j) : refY n O a b i = refY n O a' b' i' := by
  unfold refY
  exact List.map_congr_left fun j hj => by rw [h j (List.mem_range.1 hj)]
section
variable {n : Nat} {O : List Du} (hO : ∀ d ∈ O, MayD d ∧ d.f < n ∧ d.t < n)
include hO
theorem due_at {j : Nat} (hj : j < O.length) : 0 ≤ (O.getD j default).f ∧ (O.getD j default).f < n ∧ 0 ≤ (O.getD j default).t ∧ (O.getD j default).t < n := by
  have e : O.getD j default = O[j] := by simp [hj]
  rw [e]
  obtain ⟨h1, h2, h3⟩ := hO _ (List.getElem_mem hj)
  exact ⟨h1.f0, h2, h1.t0, h3⟩
theorem refY_start : refY n O 0 0 0 = List.replicate O.length 0 := by
  refine list_getD (by rw [refY_len, List.length_replicate]) fun j hj => ?_
  rw [List.length_replicate] at hj
  have := due_at hO hj
  rw [refY_at hj, if_neg (by unfold doneP; generalize O.getD j default = D at this ⊢; simp; omega), List.getD_eq_getElem?_getD, List.getElem?_replicate, if_pos hj]; rfl
theorem refY_end : refY n O n 0 0 = paysL n O := by
  refine list_getD (by rw [refY_len, paysL_len]) fun j hj => ?_
  rw [paysL_len] at hj
  have := due_at hO hj
  rw [refY_at hj, if_pos (by unfold doneP; generalize O.getD j default = D at this ⊢; simp; omega)]
theorem refY_nextA {a : Nat} : refY n O a n 0 = refY n O (a + 1) 0 0 := refY_same fun j hj => by
  have := due_at hO hj
  unfold doneP
  generalize O.getD j default = D at this ⊢
  rw [Bool.eq_iff_iff]; simp; omega
theorem refY_nextB {a b : Nat} : refY n O a b O.length = refY n O a (b + 1) 0 := refY_same fun j hj => by
  have := due_at hO hj
  unfold doneP
  generalize O.getD j default = D at this ⊢
  rw [Bool.eq_iff_iff]; simp; omega
omit hO in
theorem refY_skip {a b i : Nat} (hi : i < O.length) (hp : ¬ ((O[i]).f = (a : Int) ∧ (O[i]).t = (b : Int))) : refY n O a b i = refY n O a b (i + 1) := refY_same fun j hj => by
  unfold doneP
  rw [Bool.eq_iff_iff]
  by_cases e : j = i
  · subst e
    have e : O.getD j default = O[j] := by simp [hj]
    rw [e]
    simp; omega
  · simp; omega
omit hO in
theorem refY_put {a b i : Nat} (hi : i < O.length) (h1 : (O[i]).f = (a : Int)) (h2 : (O[i]).t = (b : Int)) : (refY n O a b i).set i ((paysL n O).getD i 0) = refY n O a b (i + 1) := by
  refine list_getD (by rw [List.length_set, refY_len, refY_len]) fun j hj => ?_
  rw [refY_len] at hj
  rw [getD_set _ _ _ _ (by rw [refY_len]; exact hi), refY_at hj, refY_at hj]
  by_cases e : i = j
  · subst e
    have e : O.getD i default = O[i] := by simp [hi]
    rw [if_pos rfl, if_pos (by unfold doneP; rw [e]; simp [h1, h2])]
  · rw [if_neg e]
    have e2 : doneP O a b i j = doneP O a b (i + 1) j := by
      unfold doneP
      rw [Bool.eq_iff_iff]; simp; omega
    rw [e2]
omit hO in
theorem left_first {a b : Nat} (ha : a < n) (hb : b < n) (hn : n ≤ 16) : (leftZ n O 0).getD (a * 16 + b) 0 = both O a b := by
  show (leftI n O n 0).getD (a * 16 + b) 0 = _
  rw [leftI_at (by omega), if_pos (by omega), show (a * 16 + b) / 16 = a by omega, show (a * 16 + b) % 16 = b by omega]
theorem left_skip {a b i : Nat} (hb : b < n) (hn : n ≤ 16) (hi : i < O.length) (hp : ¬ ((O[i]).f = (a : Int) ∧ (O[i]).t = (b : Int))) : (leftZ n O (i + 1)).getD (a * 16 + b) 0 = (leftZ n O i).getD (a * 16 + b) 0 := by
  obtain ⟨h1, h2, h3⟩ := hO _ (List.getElem_mem hi)
  have := h1.f0
  have := h1.t0
  rw [leftZ_succ hi]
  unfold payZ
  rw [getD_set _ _ _ _ (by rw [leftZ_len]; omega), if_neg (by omega)]
theorem left_put {a b i : Nat} (hn : n ≤ 16) (hi : i < O.length) (h1 : (O[i]).f = (a : Int)) (h2 : (O[i]).t = (b : Int)) :
    (paysL n O).getD i 0 = min ((leftZ n O i).getD (a * 16 + b) 0) (O[i]).x ∧ (leftZ n O (i + 1)).getD (a * 16 + b) 0 = (leftZ n O i).getD (a * 16 + b) 0 - (paysL n O).getD i 0 := by
  obtain ⟨g1, g2, g3⟩ := hO _ (List.getElem_mem hi)
  have e : (O[i]).f.toNat * 16 + (O[i]).t.toNat = a * 16 + b := by rw [h1, h2, Int.toNat_natCast, Int.toNat_natCast]
  have hx : (paysL n O).getD i 0 = min ((leftZ n O i).getD (a * 16 + b) 0) (O[i]).x := by rw [paysL_at hi]; unfold payX; rw [e]
  refine ⟨hx, ?_⟩
  rw [leftZ_succ hi, hx]
  unfold payZ payX
  rw [e, getD_set _ _ _ _ (by rw [leftZ_len]; have := g1.f0; have := g1.t0; omega), if_pos rfl]
end
end Go.OffP
