/-
  Amounts and what they may come to, in plain lists. Plain lemmas.
-/
namespace Go.MoneyP

def mayB (x : Int) : Bool := decide (0 ≤ x) && decide (x ≤ 4503599627370496)
theorem mayB_iff (x : Int) : mayB x = true ↔ 0 ≤ x ∧ x ≤ 4503599627370496 := by simp [mayB]
theorem mayB_no (x : Int) : mayB x = false ↔ x < 0 ∨ 4503599627370496 < x := by
  rw [← Bool.not_eq_true, mayB_iff]; omega
def mays (l : List Int) : Bool := l.all mayB
theorem mays_iff (l : List Int) : mays l = true ↔ ∀ x ∈ l, 0 ≤ x ∧ x ≤ 4503599627370496 := by simp [mays, mayB_iff]
theorem getD_mem {l : List Int} {i : Nat} (h : i < l.length) : l.getD i 0 ∈ l := by simp [h]
theorem mays_at {l : List Int} (h : mays l = true) {i : Nat} (hi : i < l.length) : 0 ≤ l.getD i 0 ∧ l.getD i 0 ≤ 4503599627370496 := (mays_iff l).1 h _ (getD_mem hi)
theorem take_snoc {l : List Int} {i : Nat} (h : i < l.length) : l.take (i + 1) = l.take i ++ [l.getD i 0] := by
  rw [List.take_succ_eq_append_getElem h]; simp [h]
theorem mays_step {l : List Int} {i : Nat} (hi : i < l.length) (h : mays (l.take i) = true) (hx : mayB (l.getD i 0) = true) : mays (l.take (i + 1)) = true := by
  rw [take_snoc hi]; simp only [mays, List.all_append, Bool.and_eq_true] at *; exact ⟨h, by simp only [List.all_cons, List.all_nil, Bool.and_true]; exact hx⟩
theorem mays_stop {l : List Int} {i : Nat} (hi : i < l.length) (hx : mayB (l.getD i 0) = false) : mays l = false := by
  rw [Bool.eq_false_iff]
  intro h
  have := (mays_iff l).1 h _ (getD_mem hi)
  have := (mayB_no _).1 hx
  omega
theorem mays_full {l : List Int} {i : Nat} (hi : i = l.length) (h : mays (l.take i) = true) : mays l = true := by rw [hi, List.take_length] at h; exact h

theorem sum_step {l : List Int} {i : Nat} (hi : i < l.length) : (l.take (i + 1)).sum = (l.take i).sum + l.getD i 0 := by rw [take_snoc hi]; simp
theorem sum_nonneg {l : List Int} (h : ∀ x ∈ l, 0 ≤ x) : 0 ≤ l.sum := by
  induction l with
  | nil => simp
  | cons a t ih => simp only [List.sum_cons]; have := ih (fun x hx => h x (List.mem_cons_of_mem _ hx)); have := h a List.mem_cons_self; omega
theorem sum_take_le {l : List Int} (h : ∀ x ∈ l, 0 ≤ x) (i : Nat) : (l.take i).sum ≤ l.sum := by
  have : l.sum = (l.take i).sum + (l.drop i).sum := by rw [← List.sum_append, List.take_append_drop]
  have := sum_nonneg (l := l.drop i) (fun x hx => h x (List.mem_of_mem_drop hx))
  omega

/-- What Sum answers. -/
def sumV (l : List Int) : Int := if mays l = true ∧ l.sum ≤ 4503599627370496 then l.sum else 0
def sumE (l : List Int) : Int := if mays l = true then (if l.sum ≤ 4503599627370496 then 0 else 13) else 1
theorem sum_bad {l : List Int} (h : mays l = false) : sumV l = 0 ∧ sumE l = 1 := by simp [sumV, sumE, h]
theorem sum_ok {l : List Int} (h : mays l = true) (hs : l.sum ≤ 4503599627370496) : sumV l = l.sum ∧ sumE l = 0 := by simp [sumV, sumE, h, hs]
theorem sum_over {l : List Int} (h : mays l = true) (i : Nat) (hs : 4503599627370496 < (l.take i).sum) : sumV l = 0 ∧ sumE l = 13 := by
  have := sum_take_le (fun x hx => ((mays_iff l).1 h x hx).1) i
  have : ¬ l.sum ≤ 4503599627370496 := by omega
  simp [sumV, sumE, h, this]

/-- What Less answers. -/
def lessV (a b : Int) : Int := if mayB a = true ∧ mayB b = true ∧ b ≤ a then a - b else 0
def lessE (a b : Int) : Int := if mayB a = true ∧ mayB b = true then (if b ≤ a then 0 else 12) else 1

/-- Whether numbers come to 0, none beyond an amount. -/
def nearB (x : Int) : Bool := decide (-4503599627370496 ≤ x) && decide (x ≤ 4503599627370496)
theorem nearB_iff (x : Int) : nearB x = true ↔ -4503599627370496 ≤ x ∧ x ≤ 4503599627370496 := by simp [nearB]
theorem nearB_no (x : Int) : nearB x = false ↔ x < -4503599627370496 ∨ 4503599627370496 < x := by
  rw [← Bool.not_eq_true, nearB_iff]; omega
def nears (l : List Int) : Bool := l.all nearB
theorem nears_iff (l : List Int) : nears l = true ↔ ∀ x ∈ l, -4503599627370496 ≤ x ∧ x ≤ 4503599627370496 := by simp [nears, nearB_iff]
theorem nears_at {l : List Int} (h : nears l = true) {i : Nat} (hi : i < l.length) : -4503599627370496 ≤ l.getD i 0 ∧ l.getD i 0 ≤ 4503599627370496 := (nears_iff l).1 h _ (getD_mem hi)
theorem nears_step {l : List Int} {i : Nat} (hi : i < l.length) (h : nears (l.take i) = true) (hx : nearB (l.getD i 0) = true) : nears (l.take (i + 1)) = true := by
  rw [take_snoc hi]; simp only [nears, List.all_append, Bool.and_eq_true] at *; exact ⟨h, by simp only [List.all_cons, List.all_nil, Bool.and_true]; exact hx⟩
theorem nears_stop {l : List Int} {i : Nat} (hi : i < l.length) (hx : nearB (l.getD i 0) = false) : nears l = false := by
  rw [Bool.eq_false_iff]
  intro h
  have := (nears_iff l).1 h _ (getD_mem hi)
  have := (nearB_no _).1 hx
  omega
theorem nears_full {l : List Int} {i : Nat} (hi : i = l.length) (h : nears (l.take i) = true) : nears l = true := by rw [hi, List.take_length] at h; exact h
def evenB (l : List Int) : Bool := nears l && decide (l.sum = 0)

/-- What Shift answers. -/
def adds (l b : List Int) : List Int := List.zipWith (· + ·) l b
def fitB (l b : List Int) : Bool := decide (l.length = b.length) && mays l && evenB b
def shiftV (l b : List Int) : List Int := if fitB l b = true ∧ mays (adds l b) = true then adds l b else []
def shiftE (l b : List Int) : Int := if fitB l b = true then (if mays (adds l b) = true then 0 else if (adds l b).any (fun x => decide (x < 0)) = true then 12 else 13) else 1
theorem adds_length {l b : List Int} (h : l.length = b.length) : (adds l b).length = l.length := by simp [adds, h]
theorem adds_getD {l b : List Int} {i : Nat} (h : i < l.length) (h' : i < b.length) : (adds l b).getD i 0 = l.getD i 0 + b.getD i 0 := by
  have h2 : i < (List.zipWith (· + ·) l b).length := by simp; omega
  simp only [adds, List.getD_eq_getElem?_getD, List.getElem?_eq_getElem h, List.getElem?_eq_getElem h', List.getElem?_eq_getElem h2, List.getElem_zipWith, Option.getD_some]
theorem shift_bad {l b : List Int} (h : fitB l b = false) : shiftV l b = [] ∧ shiftE l b = 1 := by simp [shiftV, shiftE, h]
theorem shift_low {l b : List Int} (h : fitB l b = true) {i : Nat} (hi : i < (adds l b).length) (hx : (adds l b).getD i 0 < 0) : shiftV l b = [] ∧ shiftE l b = 12 := by
  have h1 : mays (adds l b) = false := mays_stop hi ((mayB_no _).2 (.inl hx))
  have h2 : (adds l b).any (fun x => decide (x < 0)) = true := List.any_eq_true.2 ⟨_, getD_mem hi, by simpa using hx⟩
  unfold shiftV shiftE
  rw [if_pos h, if_pos h2, h1]
  simp
theorem any_low_false {m : List Int} (h : ∀ i, i < m.length → 0 ≤ m.getD i 0) : m.any (fun x => decide (x < 0)) = false := by
  rw [Bool.eq_false_iff]
  intro h'
  obtain ⟨x, hx, hlt⟩ := List.any_eq_true.1 h'
  obtain ⟨i, hi, rfl⟩ := List.getElem_of_mem hx
  have := h i hi
  simp [hi] at this hlt
  omega
theorem shift_high {l b : List Int} (h : fitB l b = true) (h0 : ∀ i, i < (adds l b).length → 0 ≤ (adds l b).getD i 0) {i : Nat} (hi : i < (adds l b).length) (hx : 4503599627370496 < (adds l b).getD i 0) :
    shiftV l b = [] ∧ shiftE l b = 13 := by
  have h1 : mays (adds l b) = false := mays_stop hi ((mayB_no _).2 (.inr hx))
  have h2 := any_low_false h0
  unfold shiftV shiftE
  rw [if_pos h, h1, h2]
  simp
theorem shift_ok {l b : List Int} (h : fitB l b = true) (h1 : mays (adds l b) = true) : shiftV l b = adds l b ∧ shiftE l b = 0 := by
  unfold shiftV shiftE
  rw [if_pos h, if_pos h1, if_pos ⟨h, h1⟩]
  exact ⟨rfl, rfl⟩
theorem mays_of_getD {m : List Int} (h : ∀ i, i < m.length → 0 ≤ m.getD i 0 ∧ m.getD i 0 ≤ 4503599627370496) : mays m = true := by
  rw [mays_iff]
  intro x hx
  obtain ⟨i, hi, rfl⟩ := List.getElem_of_mem hx
  have := h i hi
  simpa [hi] using this
theorem fitB_iff (l b : List Int) : fitB l b = true ↔ l.length = b.length ∧ mays l = true ∧ nears b = true ∧ b.sum = 0 := by simp [fitB, evenB, and_assoc]
end Go.MoneyP
