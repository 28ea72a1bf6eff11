/-
  Accounts, step by step. Plain lemmas.
-/
import Derived.Test.YtlpfojpfepfdgaaAPlain
namespace Go.AcctP
open Go Go.Mem Go.MoneyP

/-- A step: what is done, to which bank, by how much, by how much each. -/
structure St where
  d : Int
  k : Int
  x : Int
  a : Option Addr
  c : Nat
  by_ : List Int
instance : Inhabited St := ⟨⟨0, 0, 0, none, 0, []⟩⟩
def stR : Rec St where
  m := 4
  cells s := [.int .i64 s.d, .int .i64 s.k, .int .i64 s.x, .slice s.a s.by_.length s.c]
  len _ := rfl
  one e u hu := by simp only [List.mem_cons, List.not_mem_nil, or_false] at hu; rcases hu with rfl | rfl | rfl | rfl <;> rfl
  pos := by decide
def fewB (l : List St) : Bool := decide (l.length ≤ 100) && l.all fun s => decide (s.by_.length ≤ 40)
theorem few_stop {l : List St} {i : Nat} (hi : i < l.length) (h : 40 < l[i].by_.length) : fewB l = false := by
  rw [Bool.eq_false_iff]; intro h'
  simp only [fewB, Bool.and_eq_true, decide_eq_true_eq] at h'
  have := List.all_eq_true.1 h'.2 _ (List.getElem_mem hi)
  simp at this; omega
theorem few_end {l : List St} (h0 : l.length ≤ 100) (h : ∀ s ∈ l, s.by_.length ≤ 40) : fewB l = true := by
  simp only [fewB, Bool.and_eq_true, decide_eq_true_eq]
  exact ⟨h0, List.all_eq_true.2 fun s hs => by simpa using h s hs⟩
theorem few_cap {l : List St} (h : fewB l = true) : l.length ≤ 100 ∧ ∀ s ∈ l, s.by_.length ≤ 40 := by
  simp only [fewB, Bool.and_eq_true, decide_eq_true_eq] at h
  exact ⟨h.1, fun s hs => by simpa using List.all_eq_true.1 h.2 s hs⟩
theorem fund_ok {xs : List Ac} {k x : Int} (h : fundE xs k x = 0) : (0 ≤ k ∧ k.toNat < xs.length) ∧ 0 < x ∧ x ≤ 4503599627370496 := by
  unfold fundE at h
  split at h
  · omega
  · rename_i hb
    split at h
    · omega
    · rename_i ha
      rw [Bool.not_eq_false, bankB_iff] at hb
      rw [Bool.not_eq_false] at ha
      simp only [argB, Bool.and_eq_true, decide_eq_true_eq, mayB_iff] at ha
      omega
theorem draw_ok {xs : List Ac} {k x : Int} (h : drawE xs k x = 0) : (0 ≤ k ∧ k.toNat < xs.length) ∧ (0 < x ∧ x ≤ 4503599627370496) ∧ x ≤ (acAt xs k.toNat).bal := by
  unfold drawE at h
  split at h
  · omega
  · rename_i hb
    split at h
    · omega
    · rename_i ha
      rw [Bool.not_eq_false, bankB_iff] at hb
      rw [Bool.not_eq_false] at ha
      simp only [argB, Bool.and_eq_true, decide_eq_true_eq, mayB_iff] at ha
      split at h <;> omega
theorem sum_addAt {xs : List Ac} {k : Nat} (hk : k < xs.length) (x : Int) : (bals (addAt xs k x)).sum = (bals xs).sum + x := by
  rw [bals_addAt hk, sum_set _ _ _ (by rw [bals_length]; exact hk)]
theorem sum_fund {xs : List Ac} {k x : Int} : (bals (fundL xs k x)).sum = (bals xs).sum + if fundE xs k x = 0 then x else 0 := by
  unfold fundL
  split
  · rename_i h; exact sum_addAt (fund_ok h).1.2 x
  · simp
theorem sum_draw {xs : List Ac} {k x : Int} : (bals (drawL xs k x)).sum = (bals xs).sum - if drawE xs k x = 0 then x else 0 := by
  unfold drawL
  split
  · rename_i h; rw [sum_addAt (draw_ok h).1.2]; omega
  · simp
theorem sum_open {xs : List Ac} : (bals (openL xs)).sum = (bals xs).sum := by
  unfold openL
  split
  · rfl
  · simp [bals]
theorem bals_res {xs : List Ac} {k : Nat} (hk : k < xs.length) (x : Int) : bals (resAt xs k x) = bals xs := by
  unfold resAt bals
  rw [List.map_set, acAt_of hk]
  have : (xs[k].bal) = (xs.map (·.bal))[k]'(by simpa using hk) := by simp
  simp only [this, List.set_getElem_self]
theorem sum_res {xs : List Ac} {k x : Int} : (bals (resL xs k x)).sum = (bals xs).sum := by
  unfold resL
  split
  · rename_i h
    unfold resE at h
    split at h
    · omega
    · rename_i hb
      rw [Bool.not_eq_false, bankB_iff] at hb
      rw [bals_res (by omega)]
  · rfl
theorem sum_bound {xs : List Ac} (h : GoodA xs) : 0 ≤ (bals xs).sum ∧ (bals xs).sum ≤ 4503599627370496 :=
  ⟨sum_nonneg fun x hx => ((mays_iff _).1 h.bal x hx).1, h.sum⟩
theorem sum_pre {xs : List Ac} (h : GoodA xs) (i : Nat) : 0 ≤ ((bals xs).take i).sum ∧ ((bals xs).take i).sum ≤ 4503599627370496 := by
  have h0 : ∀ x ∈ bals xs, 0 ≤ x := fun x hx => ((mays_iff _).1 h.bal x hx).1
  exact ⟨sum_nonneg fun x hx => h0 x (List.mem_of_mem_take hx), Int.le_trans (sum_take_le h0 i) h.sum⟩
theorem fund_nobank {xs : List Ac} {k x : Int} (hb : bankB xs.length k = false) : fundE xs k x = 10 ∧ fundL xs k x = xs := by
  have h : fundE xs k x = 10 := by simp [fundE, hb]
  exact ⟨h, by unfold fundL; rw [h]; rfl⟩
theorem fund_noarg {xs : List Ac} {k x : Int} (hb : bankB xs.length k = true) (ha : argB x = false) : fundE xs k x = 1 ∧ fundL xs k x = xs := by
  have h : fundE xs k x = 1 := by simp [fundE, hb, ha]
  exact ⟨h, by unfold fundL; rw [h]; rfl⟩
theorem draw_nobank {xs : List Ac} {k x : Int} (hb : bankB xs.length k = false) : drawE xs k x = 10 ∧ drawL xs k x = xs := by
  have h : drawE xs k x = 10 := by simp [drawE, hb]
  exact ⟨h, by unfold drawL; rw [h]; rfl⟩
theorem draw_noarg {xs : List Ac} {k x : Int} (hb : bankB xs.length k = true) (ha : argB x = false) : drawE xs k x = 1 ∧ drawL xs k x = xs := by
  have h : drawE xs k x = 1 := by simp [drawE, hb, ha]
  exact ⟨h, by unfold drawL; rw [h]; rfl⟩
theorem draw_low {xs : List Ac} {k x : Int} (hb : bankB xs.length k = true) (ha : argB x = true) (hl : (acAt xs k.toNat).bal < x) : drawE xs k x = 12 ∧ drawL xs k x = xs := by
  have h : drawE xs k x = 12 := by
    unfold drawE
    rw [if_neg (by rw [hb]; simp), if_neg (by rw [ha]; simp), if_neg (by omega)]
  exact ⟨h, by unfold drawL; rw [h]; rfl⟩
theorem draw_yes {xs : List Ac} {k x : Int} (hb : bankB xs.length k = true) (ha : argB x = true) (hl : x ≤ (acAt xs k.toNat).bal) : drawE xs k x = 0 ∧ drawL xs k x = addAt xs k.toNat (-x) := by
  have h : drawE xs k x = 0 := by
    unfold drawE
    rw [if_neg (by rw [hb]; simp), if_neg (by rw [ha]; simp), if_pos hl]
  exact ⟨h, by unfold drawL; rw [h]; rfl⟩
theorem res_nobank {xs : List Ac} {k x : Int} (hb : bankB xs.length k = false) : resE xs k x = 10 ∧ resL xs k x = xs := by
  have h : resE xs k x = 10 := by simp [resE, hb]
  exact ⟨h, by unfold resL; rw [h]; rfl⟩
theorem res_noarg {xs : List Ac} {k x : Int} (hb : bankB xs.length k = true) (ha : mayB x = false) : resE xs k x = 1 ∧ resL xs k x = xs := by
  have h : resE xs k x = 1 := by simp [resE, hb, ha]
  exact ⟨h, by unfold resL; rw [h]; rfl⟩
theorem res_yes {xs : List Ac} {k x : Int} (hb : bankB xs.length k = true) (ha : mayB x = true) : resE xs k x = 0 ∧ resL xs k x = resAt xs k.toNat x := by
  have h : resE xs k x = 0 := by simp [resE, hb, ha]
  exact ⟨h, by unfold resL; rw [h]; rfl⟩
end Go.AcctP
