/-
  What the law MoneyLevel needs of lists; plain lemmas.
-/
import Derived.Test.YtjhhjaehpobglaaMPlain2
namespace Go.MoneyP

theorem sum_set {l : List Int} {a : Nat} (h : a < l.length) (x : Int) : (l.set a x).sum = l.sum - l.getD a 0 + x := by
  induction l generalizing a with
  | nil => simp at h
  | cons y t ih =>
    cases a with
    | zero => simp; omega
    | succ a =>
      have := ih (a := a) (by simpa using h)
      simp only [List.set_cons_succ, List.sum_cons, this, List.getD_cons_succ]
      omega
/-- All numbers of a list lie within c of 0. -/
def Near (c : Int) (l : List Int) : Prop := ∀ x ∈ l, -c ≤ x ∧ x ≤ c
theorem Near.at {c : Int} {l : List Int} (h : Near c l) {i : Nat} (hi : i < l.length) : -c ≤ l.getD i 0 ∧ l.getD i 0 ≤ c := h _ (getD_mem hi)
theorem Near.set {c c' : Int} {l : List Int} (h : Near c l) (hc : c ≤ c') (a : Nat) (x : Int) (hx : -c' ≤ x ∧ x ≤ c') : Near c' (l.set a x) := by
  intro y hy
  rcases List.mem_or_eq_of_mem_set hy with h1 | h1
  · have := h y h1; omega
  · rw [h1]; exact hx
theorem Near.nears {c : Int} {l : List Int} (h : Near c l) (hc : c ≤ 4503599627370496) : nears l = true := (nears_iff l).2 fun x hx => by have := h x hx; omega
def lowB (l : List Int) : Bool := l.any (fun x => decide (x < 0))
theorem lowB_step {l : List Int} {i : Nat} (hi : i < l.length) : lowB (l.take (i + 1)) = (lowB (l.take i) || decide (l.getD i 0 < 0)) := by
  rw [take_snoc hi]; simp only [lowB, List.any_append, List.any_cons, List.any_nil, Bool.or_false]
theorem lowB_true {l : List Int} (h : lowB l = true) : ∃ i, i < l.length ∧ l.getD i 0 < 0 := by
  obtain ⟨x, hx, hlt⟩ := List.any_eq_true.1 h
  obtain ⟨i, hi, rfl⟩ := List.getElem_of_mem hx
  exact ⟨i, hi, by simpa [hi] using hlt⟩
theorem lowB_false {l : List Int} (h : lowB l = false) {i : Nat} (hi : i < l.length) : 0 ≤ l.getD i 0 := by
  rcases Int.lt_or_le (l.getD i 0) 0 with h1 | h1
  · exfalso
    have : lowB l = true := List.any_eq_true.2 ⟨_, getD_mem hi, by simpa using h1⟩
    rw [this] at h; cases h
  · exact h1
theorem back_step {l : List Int} {n i : Nat} (hn : l.length = n) (hi : i < n) : (l.take i ++ List.replicate (n - i) 0).set i (l.getD i 0) = l.take (i + 1) ++ List.replicate (n - (i + 1)) 0 := by
  have h1 : (l.take i).length = i := by simp; omega
  rw [show n - i = (n - (i + 1)) + 1 by omega, List.replicate_succ, List.set_append_right _ _ (by omega), h1, Nat.sub_self, List.set_cons_zero, take_snoc (by omega), List.append_assoc]
  rfl
theorem level_fit {l b : List Int} (hl : l.length = b.length) (h0 : ∀ x ∈ l, 0 ≤ x ∧ x ≤ 4294967295) (hb : Near 6553500 b) (hs : b.sum = 0) : fitB l b = true :=
  (fitB_iff _ _).2 ⟨hl, (mays_iff _).2 (fun x hx => by have := h0 x hx; omega), hb.nears (by omega), hs⟩
theorem level_low {l b : List Int} (hl : l.length = b.length) (h0 : ∀ x ∈ l, 0 ≤ x ∧ x ≤ 4294967295) (hb : Near 6553500 b) (hs : b.sum = 0) (h : lowB (adds l b) = true) : shiftV l b = [] ∧ shiftE l b = 12 := by
  obtain ⟨i, hi, hx⟩ := lowB_true h
  exact shift_low (level_fit hl h0 hb hs) hi hx
theorem level_ok {l b : List Int} (hl : l.length = b.length) (h0 : ∀ x ∈ l, 0 ≤ x ∧ x ≤ 4294967295) (hb : Near 6553500 b) (hs : b.sum = 0) (h : lowB (adds l b) = false) : shiftE l b = 0 ∧ shiftV l b = adds l b ∧ mays (adds l b) = true := by
  have hm : mays (adds l b) = true := mays_of_getD fun i hi => by
    have h1 := lowB_false h hi
    rw [adds_length hl] at hi
    have h2 := h0 _ (getD_mem hi)
    have h3 := hb.at (i := i) (by omega)
    rw [adds_getD hi (by omega)] at h1 ⊢
    omega
  have := shift_ok (level_fit hl h0 hb hs) hm
  exact ⟨this.2, this.1, hm⟩
theorem sum_take_bound {l : List Int} {c : Int} (h : ∀ x ∈ l, 0 ≤ x ∧ x ≤ c) (i : Nat) (hi : i ≤ l.length) : 0 ≤ (l.take i).sum ∧ (l.take i).sum ≤ i * c := by
  induction i with
  | zero => simp
  | succ i ih =>
    have := ih (by omega)
    have h2 := h _ (getD_mem (show i < l.length by omega))
    rw [sum_step (by omega)]
    have : ((i + 1 : Nat) : Int) * c = i * c + c := by rw [Int.natCast_add, Int.add_mul]; omega
    omega
end Go.MoneyP
