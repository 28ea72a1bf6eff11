/-
  Accounts in plain lists: what each call answers, and what it leaves. Plain lemmas.
-/
import Derived.Test.YtlpfojpfepfdgaaRec
import Derived.Test.YtlpfojpfepfdgaaMPlain2
namespace Go.AcctP
open Go Go.Mem Go.MoneyP

/-- An account. -/
structure Ac where
  bal : Int
  res : Int
deriving DecidableEq
def acR : Rec Ac where
  m := 2
  cells a := [.int .i64 a.bal, .int .i64 a.res]
  len _ := rfl
  one e u hu := by simp only [List.mem_cons, List.not_mem_nil, or_false] at hu; rcases hu with rfl | rfl <;> rfl
  pos := by decide
def acAt (xs : List Ac) (k : Nat) : Ac := xs.getD k ⟨0, 0⟩
theorem acAt_of {xs : List Ac} {k : Nat} (h : k < xs.length) : acAt xs k = xs[k] := by simp [acAt, h]
def bals (xs : List Ac) : List Int := xs.map (·.bal)
theorem bals_length (xs : List Ac) : (bals xs).length = xs.length := by simp [bals]
theorem bals_get {xs : List Ac} {i : Nat} (h : i < xs.length) : (bals xs).getD i 0 = xs[i].bal := by simp [bals, h]
theorem bals_take {xs : List Ac} {i : Nat} (h : i < xs.length) : (bals xs).take (i + 1) = (bals xs).take i ++ [xs[i].bal] := by
  rw [List.take_succ_eq_append_getElem (by rw [bals_length]; exact h)]; simp [bals]
/-- Whether there is a bank. -/
def bankB (l : Nat) (k : Int) : Bool := decide (0 ≤ k) && decide (k < (l : Int))
theorem bankB_iff (l : Nat) (k : Int) : bankB l k = true ↔ 0 ≤ k ∧ k < (l : Int) := by simp [bankB]
theorem bankB_no (l : Nat) (k : Int) : bankB l k = false ↔ k < 0 ∨ (l : Int) ≤ k := by
  rw [← Bool.not_eq_true, bankB_iff]; omega
/-- What is asked of an amount that is funded or drawn. -/
def argB (x : Int) : Bool := decide (0 < x) && mayB x
def openE (xs : List Ac) : Int := if 16 ≤ xs.length then 6 else 0
def openV (xs : List Ac) : Int := if 16 ≤ xs.length then 0 else xs.length
def openL (xs : List Ac) : List Ac := if 16 ≤ xs.length then xs else xs ++ [⟨0, 0⟩]
def addAt (xs : List Ac) (k : Nat) (x : Int) : List Ac := xs.set k ⟨(acAt xs k).bal + x, (acAt xs k).res⟩
def resAt (xs : List Ac) (k : Nat) (x : Int) : List Ac := xs.set k ⟨(acAt xs k).bal, x⟩
def fundE (xs : List Ac) (k x : Int) : Int := if bankB xs.length k = false then 10 else if argB x = false then 1 else if sumE (bals xs ++ [x]) = 0 then 0 else 13
def fundL (xs : List Ac) (k x : Int) : List Ac := if fundE xs k x = 0 then addAt xs k.toNat x else xs
def drawE (xs : List Ac) (k x : Int) : Int := if bankB xs.length k = false then 10 else if argB x = false then 1 else if x ≤ (acAt xs k.toNat).bal then 0 else 12
def drawL (xs : List Ac) (k x : Int) : List Ac := if drawE xs k x = 0 then addAt xs k.toNat (-x) else xs
def resE (xs : List Ac) (k x : Int) : Int := if bankB xs.length k = false then 10 else if mayB x = false then 1 else 0
def resL (xs : List Ac) (k x : Int) : List Ac := if resE xs k x = 0 then resAt xs k.toNat x else xs
/-- The first i balances set to those of l. -/
def putB (xs : List Ac) (l : List Int) (i : Nat) : List Ac := (List.range xs.length).map fun j => if j < i then ⟨l.getD j 0, (acAt xs j).res⟩ else acAt xs j
def shiftL (xs : List Ac) (by_ : List Int) : List Ac := putB xs (shiftV (bals xs) by_) (shiftV (bals xs) by_).length
def roomsL (xs : List Ac) : List Int := xs.map fun a => max (a.bal - a.res) 0
/-- What holds of all accounts that a call has left. -/
structure GoodA (xs : List Ac) : Prop where
  len : xs.length ≤ 16
  bal : mays (bals xs) = true
  res : ∀ a ∈ xs, 0 ≤ a.res ∧ a.res ≤ 4503599627370496
  sum : (bals xs).sum ≤ 4503599627370496
theorem GoodA.nil : GoodA [] := ⟨by simp, by simp [bals, mays], by simp, by simp [bals]⟩
theorem putB_zero (xs : List Ac) (l : List Int) : putB xs l 0 = xs := by
  refine List.ext_getElem (by simp [putB]) fun j h1 h2 => ?_
  simp [putB, acAt, h2]
theorem putB_length (xs : List Ac) (l : List Int) (i : Nat) : (putB xs l i).length = xs.length := by simp [putB]
theorem putB_at {xs : List Ac} {l : List Int} {i j : Nat} (h : j < xs.length) : (putB xs l i)[j]'(by rw [putB_length]; exact h) = if j < i then ⟨l.getD j 0, (acAt xs j).res⟩ else acAt xs j := by simp [putB]
theorem putB_step {xs : List Ac} {l : List Int} {i : Nat} (h : i < xs.length) : (putB xs l i).set i ⟨l.getD i 0, (acAt xs i).res⟩ = putB xs l (i + 1) := by
  refine List.ext_getElem (by simp [putB]) fun j h1 h2 => ?_
  have hj : j < xs.length := by rw [putB_length] at h2; exact h2
  rw [List.getElem_set, putB_at hj, putB_at hj]
  by_cases e : i = j
  · subst e; simp
  · by_cases e2 : j < i
    · have : j < i + 1 := by omega
      simp [e, e2, this]
    · have : ¬ j < i + 1 := by omega
      simp [e, e2, this]
theorem shift_len {l b : List Int} : (shiftV l b).length = l.length ∨ shiftV l b = [] := by
  unfold shiftV
  split
  · rename_i h
    have := (fitB_iff _ _).1 h.1
    exact .inl (adds_length this.1)
  · exact .inr rfl
theorem bals_addAt {xs : List Ac} {k : Nat} (hk : k < xs.length) (x : Int) : bals (addAt xs k x) = (bals xs).set k ((bals xs).getD k 0 + x) := by
  rw [bals_get hk]
  unfold addAt bals
  rw [List.map_set, acAt_of hk]
theorem sum_set : ∀ (l : List Int) (k : Nat) (x : Int), k < l.length → (l.set k (l.getD k 0 + x)).sum = l.sum + x
  | [], _, _, h => by simp at h
  | a :: t, 0, x, _ => by simp; omega
  | a :: t, k + 1, x, h => by
    have ih := sum_set t k x (by simpa using h)
    simp only [List.set_cons_succ, List.sum_cons, List.getD_cons_succ] at ih ⊢
    omega
theorem mays_set {l : List Int} (h : mays l = true) (k : Nat) {x : Int} (hx : 0 ≤ x ∧ x ≤ 4503599627370496) : mays (l.set k x) = true := by
  rw [mays_iff] at h ⊢
  intro y hy
  rcases List.mem_or_eq_of_mem_set hy with q | q
  · exact h y q
  · subst q; exact hx
theorem sum_at {l : List Int} (h : mays l = true) {k : Nat} (hk : k < l.length) : l.getD k 0 ≤ l.sum := by
  have h0 : ∀ x ∈ l, 0 ≤ x := fun x hx => ((mays_iff l).1 h x hx).1
  have h1 := sum_take_le h0 (k + 1)
  rw [sum_step hk] at h1
  have h2 := sum_nonneg (l := l.take k) (fun x hx => h0 x (List.mem_of_mem_take hx))
  omega
theorem GoodA.openL {xs : List Ac} (h : GoodA xs) : GoodA (openL xs) := by
  unfold AcctP.openL
  split
  · exact h
  · rename_i hl
    refine ⟨by simp; omega, ?_, fun a ha => ?_, ?_⟩
    · have := h.bal
      simp only [mays, bals, List.map_append, List.all_append, Bool.and_eq_true] at this ⊢
      exact ⟨this, by decide⟩
    · rcases List.mem_append.1 ha with q | q
      · exact h.res a q
      · simp only [List.mem_singleton] at q; subst q; exact ⟨by decide, by decide⟩
    · have := h.sum
      simp only [bals, List.map_append, List.sum_append] at this ⊢
      simpa using this
theorem sumE_zero {l : List Int} (h : sumE l = 0) : mays l = true ∧ l.sum ≤ 4503599627370496 := by
  unfold sumE at h
  split at h
  · rename_i h1
    split at h
    · rename_i h2; exact ⟨h1, h2⟩
    · omega
  · omega
theorem res_set {xs : List Ac} (h : ∀ a ∈ xs, 0 ≤ a.res ∧ a.res ≤ 4503599627370496) (k : Nat) {y : Ac} (hy : 0 ≤ y.res ∧ y.res ≤ 4503599627370496) : ∀ a ∈ xs.set k y, 0 ≤ a.res ∧ a.res ≤ 4503599627370496 := by
  intro a ha
  rcases List.mem_or_eq_of_mem_set ha with q | q
  · exact h a q
  · subst q; exact hy
theorem GoodA.addAt {xs : List Ac} (h : GoodA xs) {k : Nat} (hk : k < xs.length) {x : Int} (h0 : 0 ≤ (acAt xs k).bal + x) (h1 : (bals xs).sum + x ≤ 4503599627370496) : GoodA (addAt xs k x) := by
  have hb := bals_addAt hk x
  have hs := sum_set (bals xs) k x (by rw [bals_length]; exact hk)
  have hm : mays ((bals xs).set k ((bals xs).getD k 0 + x)) = true := by
    refine mays_set h.bal k ⟨by rw [bals_get hk, ← acAt_of hk]; exact h0, ?_⟩
    have := sum_at h.bal (k := k) (by rw [bals_length]; exact hk)
    omega
  refine ⟨by unfold AcctP.addAt; rw [List.length_set]; exact h.len, by rw [hb]; exact hm, ?_, by rw [hb, hs]; exact h1⟩
  unfold AcctP.addAt
  refine res_set h.res k ?_
  rw [acAt_of hk]
  have := h.res _ (List.getElem_mem hk)
  exact this
theorem GoodA.fundL {xs : List Ac} (h : GoodA xs) (k x : Int) : GoodA (fundL xs k x) := by
  unfold AcctP.fundL
  split
  · rename_i he
    unfold fundE at he
    split at he
    · omega
    · rename_i hb
      split at he
      · omega
      · rename_i ha
        split at he
        · rename_i hs
          rw [Bool.not_eq_false, bankB_iff] at hb
          rw [Bool.not_eq_false] at ha
          simp only [argB, Bool.and_eq_true, decide_eq_true_eq] at ha
          have hk : k.toNat < xs.length := by omega
          obtain ⟨hs1, hs2⟩ := sumE_zero hs
          rw [List.sum_append] at hs2
          have := mays_at h.bal (i := k.toNat) (by rw [bals_length]; exact hk)
          rw [bals_get hk, ← acAt_of hk] at this
          exact h.addAt hk (by omega) (by simpa using hs2)
        · omega
  · exact h
theorem GoodA.drawL {xs : List Ac} (h : GoodA xs) (k x : Int) : GoodA (drawL xs k x) := by
  unfold AcctP.drawL
  split
  · rename_i he
    unfold drawE at he
    split at he
    · omega
    · rename_i hb
      split at he
      · omega
      · rename_i ha
        split at he
        · rename_i hs
          rw [Bool.not_eq_false, bankB_iff] at hb
          rw [Bool.not_eq_false] at ha
          simp only [argB, Bool.and_eq_true, decide_eq_true_eq] at ha
          have hk : k.toNat < xs.length := by omega
          have := h.sum
          exact h.addAt hk (by omega) (by omega)
        · omega
  · exact h
theorem GoodA.resL {xs : List Ac} (h : GoodA xs) (k x : Int) : GoodA (resL xs k x) := by
  unfold AcctP.resL
  split
  · rename_i he
    unfold resE at he
    split at he
    · omega
    · rename_i hb
      split at he
      · omega
      · rename_i ha
        rw [Bool.not_eq_false, bankB_iff] at hb
        rw [Bool.not_eq_false, mayB_iff] at ha
        have hk : k.toNat < xs.length := by omega
        have hbals : bals (resAt xs k.toNat x) = bals xs := by
          unfold resAt bals
          rw [List.map_set, acAt_of hk]
          have : (xs[k.toNat].bal) = (xs.map (·.bal))[k.toNat]'(by simpa using hk) := by simp
          simp only [this, List.set_getElem_self]
        refine ⟨by unfold resAt; rw [List.length_set]; exact h.len, by rw [hbals]; exact h.bal, ?_, by rw [hbals]; exact h.sum⟩
        unfold resAt
        exact res_set h.res _ ha
  · exact h
theorem bals_putB {xs : List Ac} {l : List Int} (hl : l.length = xs.length) : bals (putB xs l l.length) = l := by
  refine List.ext_getElem (by simp [bals, putB, hl]) fun j h1 h2 => ?_
  have : j < xs.length := by omega
  simp [bals, putB, h2]
theorem shift_no {xs : List Ac} {b : List Int} (h : shiftV (bals xs) b = []) : shiftL xs b = xs := by
  unfold shiftL
  rw [h]
  exact putB_zero xs []
theorem GoodA.shiftL {xs : List Ac} (h : GoodA xs) (b : List Int) : GoodA (shiftL xs b) ∧ (bals (shiftL xs b)).sum = (bals xs).sum := by
  by_cases he : shiftE (bals xs) b = 0
  · obtain ⟨h1, h2, h3⟩ := shiftE_zero he
    have hf := (fitB_iff _ _).1 h1
    have hl : (shiftV (bals xs) b).length = xs.length := by rw [h3, adds_length hf.1, bals_length]
    have hb : bals (AcctP.shiftL xs b) = shiftV (bals xs) b := by unfold AcctP.shiftL; exact bals_putB hl
    have hs : (shiftV (bals xs) b).sum = (bals xs).sum := by rw [h3, sum_adds hf.1, hf.2.2.2, Int.add_zero]
    refine ⟨⟨by unfold AcctP.shiftL; rw [putB_length]; exact h.len, by rw [hb, h3]; exact h2, fun a ha => ?_, by rw [hb, hs]; exact h.sum⟩, by rw [hb, hs]⟩
    unfold AcctP.shiftL at ha
    obtain ⟨j, hj, rfl⟩ := List.getElem_of_mem ha
    have hj' : j < xs.length := by rw [putB_length] at hj; exact hj
    rw [putB_at hj']
    have := h.res _ (List.getElem_mem hj')
    rw [acAt_of hj']
    split <;> exact this
  · have := shift_no (shiftE_not he)
    rw [this]; exact ⟨h, rfl⟩
/-- What Get gives. -/
def getV (xs : List Ac) (k : Int) : Ac := if bankB xs.length k = true then acAt xs k.toNat else ⟨0, 0⟩
def okA (a : Ac) : Bool := mayB a.bal && mayB a.res
def ofE (xs : List Ac) : Int := if 16 < xs.length then 6 else if xs.all okA = false then 1 else sumE (bals xs)
theorem all_step {xs : List Ac} {i : Nat} (hi : i < xs.length) (h : (xs.take i).all okA = true) (hx : okA xs[i] = true) : (xs.take (i + 1)).all okA = true := by
  rw [List.take_succ_eq_append_getElem hi, List.all_append, h]; simp [hx]
theorem all_stop {xs : List Ac} {i : Nat} (hi : i < xs.length) (hx : okA xs[i] = false) : xs.all okA = false := by
  rw [Bool.eq_false_iff]; intro h
  have := List.all_eq_true.1 h _ (List.getElem_mem hi)
  rw [this] at hx; cases hx
theorem GoodA.of {xs : List Ac} (h : ofE xs = 0) : GoodA xs := by
  unfold ofE at h
  split at h
  · omega
  · rename_i hl
    split at h
    · omega
    · rename_i ha
      rw [Bool.not_eq_false] at ha
      obtain ⟨h1, h2⟩ := sumE_zero h
      refine ⟨by omega, h1, fun a hx => ?_, h2⟩
      have := List.all_eq_true.1 ha a hx
      simp only [okA, Bool.and_eq_true] at this
      exact (mayB_iff _).1 this.2
theorem GoodA.at {xs : List Ac} (h : GoodA xs) {i : Nat} (hi : i < xs.length) : (0 ≤ xs[i].bal ∧ xs[i].bal ≤ 4503599627370496) ∧ 0 ≤ xs[i].res ∧ xs[i].res ≤ 4503599627370496 := by
  have h1 := mays_at h.bal (i := i) (by rw [bals_length]; exact hi)
  rw [bals_get hi] at h1
  exact ⟨h1, h.res _ (List.getElem_mem hi)⟩
theorem rooms_take {xs : List Ac} {i : Nat} (h : i < xs.length) : (roomsL xs).take (i + 1) = (roomsL xs).take i ++ [max (xs[i].bal - xs[i].res) 0] := by
  rw [List.take_succ_eq_append_getElem (by simpa [roomsL] using h)]; simp [roomsL]
theorem rooms_length (xs : List Ac) : (roomsL xs).length = xs.length := by simp [roomsL]
end Go.AcctP
