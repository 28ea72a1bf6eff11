/-
  What banks are owed: step by step. Plain.
-/
import Derived.Test.YtjijhpflkkicaaaOPlain
set_option linter.unusedVariables false
set_option linter.unusedSimpArgs false
namespace Go.OffP
open Go Go.Mem Go.MoneyP Go.BuildP
theorem sumX_take {l : List Du} {i : Nat} (h : i < l.length) : sumX (l.take (i + 1)) = sumX (l.take i) + l[i].x := by
  unfold sumX
  rw [List.take_succ_eq_append_getElem h, List.map_append, List.sum_append]
  simp
theorem sumX_nonneg : ∀ l : List Du, (∀ d ∈ l, 1 ≤ d.x) → 0 ≤ sumX l
  | [], _ => by simp [sumX]
  | d :: l, h => by
    have h1 := sumX_nonneg l fun x hx => h x (List.mem_cons_of_mem _ hx)
    have h2 := h d List.mem_cons_self
    unfold sumX at h1 ⊢
    rw [List.map_cons, List.sum_cons]; omega
theorem sumX_le {l : List Du} (h : ∀ d ∈ l, 1 ≤ d.x) (i : Nat) : 0 ≤ sumX (l.take i) ∧ sumX (l.take i) ≤ sumX l := by
  have h1 := sumX_nonneg (l.take i) fun x hx => h x (List.mem_of_mem_take hx)
  have h2 := sumX_nonneg (l.drop i) fun x hx => h x (List.mem_of_mem_drop hx)
  have e : sumX l = sumX (l.take i) + sumX (l.drop i) := by unfold sumX; rw [← List.sum_append, ← List.map_append, List.take_append_drop]
  omega
theorem netsF_take {n : Nat} {l : List Du} {i : Nat} (h : i < l.length) : netsF n (l.take (i + 1)) = stepN (netsF n (l.take i)) l[i] := by
  unfold netsF
  rw [List.take_succ_eq_append_getElem h, List.foldl_append]; rfl
theorem stepN_len (o : List Int) (d : Du) : (stepN o d).length = o.length := by
  unfold stepN; split <;> simp
theorem foldN_len : ∀ (l : List Du) (o : List Int), (l.foldl stepN o).length = o.length
  | [], _ => rfl
  | d :: l, o => by rw [List.foldl_cons, foldN_len l, stepN_len]
theorem netsF_len (n : Nat) (l : List Du) : (netsF n l).length = n := by unfold netsF; rw [foldN_len]; simp
/-- What one due does. -/
def deltaN (d : Du) (j : Nat) : Int := if d.h = true then 0 else (if d.t = j then d.x else 0) - (if d.f = j then d.x else 0)
theorem stepN_at {o : List Int} {d : Du} (hm : MayD d) (hf : d.f < o.length) (ht : d.t < o.length) (j : Nat) : (stepN o d).getD j 0 = o.getD j 0 + deltaN d j := by
  have h1 := hm.f0
  have h2 := hm.t0
  have h3 := hm.ne
  unfold stepN deltaN
  split
  · simp
  · rw [getD_set _ _ _ _ (by rw [List.length_set]; omega), getD_set _ _ _ _ (by omega), getD_set _ _ _ _ (by omega)]
    by_cases a : d.f.toNat = j
    · subst a
      rw [if_pos rfl, if_neg (by omega), if_neg (by omega), if_pos (by omega)]; omega
    · rw [if_neg a]
      by_cases b : d.t.toNat = j
      · subst b
        rw [if_pos rfl, if_pos (by omega), if_neg (by omega)]; omega
      · rw [if_neg b, if_neg (by omega), if_neg (by omega)]; omega
def deltaS (l : List Du) (j : Nat) : Int := (l.map fun d => deltaN d j).sum
theorem foldN_at {n : Nat} (j : Nat) : ∀ (l : List Du) (o : List Int), o.length = n → (∀ d ∈ l, MayD d ∧ d.f < n ∧ d.t < n) → (l.foldl stepN o).getD j 0 = o.getD j 0 + deltaS l j
  | [], o, _, _ => by simp [deltaS]
  | d :: l, o, ho, h => by
    obtain ⟨a, b, c⟩ := h d List.mem_cons_self
    rw [List.foldl_cons, foldN_at j l _ (by rw [stepN_len]; exact ho) (fun x hx => h x (List.mem_cons_of_mem _ hx)), stepN_at a (by omega) (by omega)]
    unfold deltaS
    rw [List.map_cons, List.sum_cons]; omega
theorem netsF_at {n : Nat} {l : List Du} (h : ∀ d ∈ l, MayD d ∧ d.f < n ∧ d.t < n) (j : Nat) : (netsF n l).getD j 0 = deltaS l j := by
  unfold netsF
  rw [foldN_at j l _ (by simp) h, List.getD_eq_getElem?_getD, List.getElem?_replicate]
  split <;> simp
theorem deltaS_bound (j : Nat) : ∀ l : List Du, (∀ d ∈ l, 1 ≤ d.x ∧ d.f ≠ d.t) → -sumX l ≤ deltaS l j ∧ deltaS l j ≤ sumX l
  | [], _ => by simp [sumX, deltaS]
  | d :: l, h => by
    have h1 := deltaS_bound j l fun x hx => h x (List.mem_cons_of_mem _ hx)
    obtain ⟨h2, h3⟩ := h d List.mem_cons_self
    unfold sumX deltaS at h1 ⊢
    rw [List.map_cons, List.sum_cons, List.map_cons, List.sum_cons]
    have : -d.x ≤ deltaN d j ∧ deltaN d j ≤ d.x := by
      unfold deltaN
      split
      · omega
      · split <;> split <;> omega
    omega
theorem netsE_sum {n : Int} {l : List Du} (hn : 0 ≤ n ∧ n ≤ 16) (ha : allB l = true) (hb : belowB n l = true) : netsE n l = if 4503599627370496 < sumX l then 13 else 0 := by
  unfold netsE
  rw [if_neg (by rw [ha]; simp; omega), if_neg (by rw [hb]; decide)]
theorem netsE_below {n : Int} {l : List Du} (hn : 0 ≤ n ∧ n ≤ 16) (ha : allB l = true) (hb : belowB n l = false) : netsE n l = 10 := by
  unfold netsE
  rw [if_neg (by rw [ha]; simp; omega), if_pos hb]
theorem netsE_arg {n : Int} {l : List Du} (h : n < 0 ∨ 16 < n ∨ allB l = false) : netsE n l = 1 := by
  unfold netsE; rw [if_pos h]
theorem all_parts {l : List Du} (h : allB l = true) : l.length ≤ 64 ∧ ∀ d ∈ l, MayD d := by
  simp only [allB, Bool.and_eq_true, decide_eq_true_eq, List.all_eq_true] at h
  exact ⟨h.1, fun d hd => (mayD_iff d).1 (h.2 d hd)⟩
theorem below_parts {n : Int} {l : List Du} (h : belowB n l = true) : ∀ d ∈ l, d.f < n ∧ d.t < n := by
  simp only [belowB, belowX, List.all_eq_true, Bool.and_eq_true, decide_eq_true_eq] at h
  exact h
theorem take_full {α : Type _} {l : List α} {i : Nat} (h : i = l.length) : l.take i = l := by rw [h, List.take_length]
/-- May dues be looked at, with so many banks? -/
def may29 (n : Int) (l : List Du) : Bool := decide (0 ≤ n) && decide (n ≤ 16) && allB l && belowB n l
end Go.OffP
