/-
  The plain law of a binary heap of pairs in a list: what moves up and down keeps it a heap. No program in sight.
-/
namespace Go.HeapP

abbrev T := Int × Int
/-- Does x come ahead of y? -/
def ltB (x y : T) : Bool := decide (x.1 < y.1) || (decide (x.1 = y.1) && decide (x.2 < y.2))
theorem ltB_iff (x y : T) : ltB x y = true ↔ (x.1 < y.1 ∨ (x.1 = y.1 ∧ x.2 < y.2)) := by simp [ltB]
theorem ltB_not (x y : T) : ltB x y = false ↔ (y.1 < x.1 ∨ (y.1 = x.1 ∧ y.2 ≤ x.2)) := by
  rw [← Bool.not_eq_true, ltB_iff]; omega
def le (x y : T) : Prop := ltB y x = false
instance (x y : T) : Decidable (le x y) := inferInstanceAs (Decidable (ltB y x = false))
theorem le_iff (x y : T) : le x y ↔ (x.1 < y.1 ∨ (x.1 = y.1 ∧ x.2 ≤ y.2)) := ltB_not y x
theorem le_refl (x : T) : le x x := (le_iff x x).2 (by omega)
theorem le_trans {x y z : T} (h : le x y) (h' : le y z) : le x z := by rw [le_iff] at *; omega
theorem le_of_lt {x y : T} (h : ltB x y = true) : le x y := by rw [le_iff]; rw [ltB_iff] at h; omega
theorem le_antisymm {x y : T} (h : le x y) (h' : le y x) : x = y := by
  rw [le_iff] at *
  exact Prod.ext (by omega) (by omega)
theorem le_total (x y : T) : le x y ∨ le y x := by rw [le_iff, le_iff]; omega

/-- The thing at a place. -/
def nth (xs : List T) (j : Nat) : T := xs.getD j (0, 0)
theorem nth_of {xs : List T} {j : Nat} (h : j < xs.length) : xs[j]? = some (nth xs j) := by simp [nth, h]
def sw (xs : List T) (i j : Nat) : List T := (xs.set i (nth xs j)).set j (nth xs i)
theorem sw_length (xs : List T) (i j : Nat) : (sw xs i j).length = xs.length := by simp [sw]
theorem sw_perm {xs : List T} {i j : Nat} (hi : i < xs.length) (hj : j < xs.length) : (sw xs i j).Perm xs := by
  have := List.set_set_perm (as := xs) hi hj
  simpa [sw, nth, hi, hj] using this
theorem nth_set (xs : List T) (i j : Nat) (x : T) (hi : i < xs.length) : nth (xs.set i x) j = if i = j then x else nth xs j := by
  unfold nth
  simp only [List.getD_eq_getElem?_getD, List.getElem?_set]
  split
  · rename_i h; subst h; rfl
  · rfl
theorem nth_sw {xs : List T} {i j : Nat} (hi : i < xs.length) (hj : j < xs.length) (m : Nat) : nth (sw xs i j) m = if j = m then nth xs i else if i = m then nth xs j else nth xs m := by
  unfold sw
  rw [nth_set _ _ _ _ (by simpa using hj), nth_set _ _ _ _ hi]

def IsH (xs : List T) : Prop := ∀ j, 0 < j → j < xs.length → le (nth xs ((j - 1) / 2)) (nth xs j)
/-- A heap but for the thing at k, which may belong further up. -/
structure UpI (k : Nat) (xs : List T) : Prop where
  but : ∀ j, 0 < j → j < xs.length → j ≠ k → le (nth xs ((j - 1) / 2)) (nth xs j)
  over : ∀ j, 0 < j → j < xs.length → (j - 1) / 2 = k → 0 < k → le (nth xs ((k - 1) / 2)) (nth xs j)
/-- A heap but for the thing at k, which may belong further down. -/
structure DownI (k : Nat) (xs : List T) : Prop where
  but : ∀ j, 0 < j → j < xs.length → (j - 1) / 2 ≠ k → le (nth xs ((j - 1) / 2)) (nth xs j)
  over : ∀ j, 0 < j → j < xs.length → (j - 1) / 2 = k → 0 < k → le (nth xs ((k - 1) / 2)) (nth xs j)

theorem up_step {k : Nat} {xs : List T} (h : UpI k xs) (h0 : 0 < k) (hk : k < xs.length) (hlt : ltB (nth xs k) (nth xs ((k - 1) / 2)) = true) : UpI ((k - 1) / 2) (sw xs k ((k - 1) / 2)) := by
  have ho : (k - 1) / 2 < xs.length := by omega
  have hle := le_of_lt hlt
  refine ⟨fun j hj hjl hne => ?_, fun j hj hjl hpar hpos => ?_⟩
  · rw [sw_length] at hjl
    rw [nth_sw hk ho, nth_sw hk ho]
    by_cases hjk : j = k
    · subst hjk
      rw [if_pos rfl, if_neg (by omega), if_pos rfl]
      exact hle
    · rw [if_neg (by omega : ¬ (k - 1) / 2 = j), if_neg (by omega : ¬ k = j)]
      by_cases hp : (j - 1) / 2 = (k - 1) / 2
      · rw [if_pos hp.symm]
        have := h.but j hj hjl hjk
        rw [hp] at this
        exact le_trans hle this
      · rw [if_neg (fun e => hp e.symm)]
        by_cases hpk : (j - 1) / 2 = k
        · rw [if_pos hpk.symm]
          exact h.over j hj hjl hpk h0
        · rw [if_neg (fun e => hpk e.symm)]
          exact h.but j hj hjl hjk
  · rw [sw_length] at hjl
    rw [nth_sw hk ho, nth_sw hk ho]
    have e1 : ¬ (k - 1) / 2 = ((k - 1) / 2 - 1) / 2 := by omega
    have e2 : ¬ k = ((k - 1) / 2 - 1) / 2 := by omega
    rw [if_neg e1, if_neg e2]
    have hpp := h.but ((k - 1) / 2) hpos ho (by omega)
    by_cases hjk : j = k
    · subst hjk
      rw [if_neg (by omega), if_pos rfl]
      exact hpp
    · rw [if_neg (by omega : ¬ (k - 1) / 2 = j), if_neg (by omega : ¬ k = j)]
      have := h.but j hj hjl hjk
      rw [hpar] at this
      exact le_trans hpp this

theorem up_done0 {xs : List T} (h : UpI 0 xs) : IsH xs := fun j hj hl => h.but j hj hl (by omega)
theorem up_done {k : Nat} {xs : List T} (h : UpI k xs) (hlt : ltB (nth xs k) (nth xs ((k - 1) / 2)) = false) : IsH xs := fun j hj hl => by
  by_cases hjk : j = k
  · subst hjk; exact hlt
  · exact h.but j hj hl hjk
theorem nth_append {xs : List T} {x : T} {j : Nat} (h : j < xs.length) : nth (xs ++ [x]) j = nth xs j := by
  unfold nth; simp [List.getElem?_append_left h]
theorem up_start {xs : List T} (h : IsH xs) (x : T) : UpI xs.length (xs ++ [x]) := by
  refine ⟨fun j hj hl hne => ?_, fun j hj hl hp h0 => ?_⟩
  · simp at hl
    rw [nth_append (by omega), nth_append (by omega)]
    exact h j hj (by omega)
  · simp at hl; omega

theorem down_step {k b : Nat} {xs : List T} (h : DownI k xs) (hk : k < xs.length) (hb : b < xs.length) (hpb : (b - 1) / 2 = k) (hb0 : 0 < b)
    (hmin : ∀ j, 0 < j → j < xs.length → (j - 1) / 2 = k → le (nth xs b) (nth xs j)) (hlt : ltB (nth xs b) (nth xs k) = true) : DownI b (sw xs k b) := by
  have hle := le_of_lt hlt
  refine ⟨fun j hj hjl hne => ?_, fun j hj hjl hpar hpos => ?_⟩
  · rw [sw_length] at hjl
    rw [nth_sw hk hb, nth_sw hk hb, if_neg (fun e => hne e.symm)]
    by_cases hpk : (j - 1) / 2 = k
    · rw [if_pos hpk.symm]
      by_cases hjb : j = b
      · subst hjb; rw [if_pos rfl]; exact hle
      · rw [if_neg (fun e => hjb e.symm), if_neg (by omega)]
        exact hmin j hj hjl hpk
    · rw [if_neg (fun e => hpk e.symm)]
      by_cases hjb : b = j
      · subst hjb; exact absurd hpb hpk
      · rw [if_neg hjb]
        by_cases hjk : k = j
        · rw [if_pos hjk]
          subst hjk
          exact h.over b hb0 hb hpb hj
        · rw [if_neg hjk]
          exact h.but j hj hjl hpk
  · rw [sw_length] at hjl
    rw [nth_sw hk hb, nth_sw hk hb]
    have e1 : ¬ b = (b - 1) / 2 := by omega
    rw [if_neg e1, if_pos hpb.symm, if_neg (by omega : ¬ b = j), if_neg (by omega : ¬ k = j)]
    have := h.but j hj hjl (by omega)
    rw [hpar] at this
    exact this

theorem down_done {k : Nat} {xs : List T} (h : DownI k xs) (hmin : ∀ j, 0 < j → j < xs.length → (j - 1) / 2 = k → le (nth xs k) (nth xs j)) : IsH xs := fun j hj hl => by
  by_cases hp : (j - 1) / 2 = k
  · rw [hp]; exact hmin j hj hl hp
  · exact h.but j hj hl hp

/-- The last one laid into the first place, and the last place given up. -/
def popped (xs : List T) : List T := (xs.set 0 (nth xs (xs.length - 1))).take (xs.length - 1)
theorem popped_length (xs : List T) : (popped xs).length = xs.length - 1 := by simp [popped]
theorem nth_popped {xs : List T} {j : Nat} (hj : j < xs.length - 1) : nth (popped xs) j = if 0 = j then nth xs (xs.length - 1) else nth xs j := by
  have h0 : 0 < xs.length := by omega
  have e : nth (popped xs) j = nth (xs.set 0 (nth xs (xs.length - 1))) j := by
    unfold nth popped
    rw [List.getD_eq_getElem?_getD, List.getElem?_take, if_pos hj, List.getD_eq_getElem?_getD]
    rfl
  rw [e, nth_set _ _ _ _ h0]
theorem down_start {xs : List T} (h : IsH xs) : DownI 0 (popped xs) := by
  refine ⟨fun j hj hl hne => ?_, fun j _ _ _ h0 => absurd h0 (Nat.lt_irrefl 0)⟩
  rw [popped_length] at hl
  rw [nth_popped (by omega), nth_popped hl, if_neg (fun e => hne e.symm), if_neg (by omega)]
  exact h j hj (by omega)
theorem popped_perm {xs : List T} (h : 0 < xs.length) : (nth xs 0 :: popped xs).Perm xs := by
  match xs, h with
  | x :: r, _ =>
    rcases List.eq_nil_or_concat r with rfl | ⟨r', l, rfl⟩
    · simp [popped, nth]
    · have e : popped (x :: (r' ++ [l])) = l :: r' := by
        simp [popped, nth]
      rw [show r'.concat l = r' ++ [l] by simp] at *
      rw [e]
      simp only [nth, List.getD_cons_zero]
      refine List.Perm.cons x ?_
      exact (List.perm_append_singleton l r').symm

theorem least {xs : List T} (h : IsH xs) : ∀ j, j < xs.length → le (nth xs 0) (nth xs j) := by
  intro j
  induction j using Nat.strongRecOn with
  | _ j ih =>
    intro hj
    by_cases h0 : j = 0
    · subst h0; exact le_refl _
    · exact le_trans (ih ((j - 1) / 2) (by omega) (by omega)) (h j (by omega) hj)
theorem least_mem {xs : List T} (h : IsH xs) (x : T) (hx : x ∈ xs) : le (nth xs 0) x := by
  obtain ⟨j, hj, rfl⟩ := List.getElem_of_mem hx
  have := least h j hj
  simpa [nth, hj] using this
theorem nth_mem {xs : List T} {j : Nat} (h : j < xs.length) : nth xs j ∈ xs := by simp [nth, h]
/-- The first thing of a heap is the least one of all. -/
theorem head_of {xs l : List T} {m : T} (h : IsH xs) (hp : xs.Perm (m :: l)) (hm : ∀ y ∈ l, le m y) : ∃ r, xs = m :: r ∧ r.Perm l := by
  match xs, h, hp with
  | [], _, hp => exact absurd hp.length_eq (by simp)
  | x :: r, h, hp =>
    have h1 : le x m := by
      have := least_mem h m (hp.mem_iff.2 List.mem_cons_self)
      simpa [nth] using this
    have h2 : le m x := by
      rcases List.mem_cons.1 (hp.mem_iff.1 List.mem_cons_self) with e | e
      · rw [e]; exact le_refl _
      · exact hm x e
    have e := le_antisymm h1 h2
    subst e
    exact ⟨r, rfl, (List.perm_cons x).1 hp⟩
theorem isH_nil : IsH [] := fun j _ h => by simp at h
end Go.HeapP
