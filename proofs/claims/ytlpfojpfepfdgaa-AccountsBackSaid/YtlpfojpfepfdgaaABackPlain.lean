/-
  What is funded and drawn again. Plain lemmas.
-/
import Derived.Test.YtlpfojpfepfdgaaAPlain2
namespace Go.AcctP
open Go Go.Mem Go.MoneyP

def mkL (zs ys : List Int) (i : Nat) : List Ac := (List.range i).map fun j => ⟨zs.getD j 0, ys.getD j 0⟩
theorem mkL_length (zs ys : List Int) (i : Nat) : (mkL zs ys i).length = i := by simp [mkL]
theorem mkL_succ (zs ys : List Int) (i : Nat) : mkL zs ys (i + 1) = mkL zs ys i ++ [⟨zs.getD i 0, ys.getD i 0⟩] := by simp [mkL, List.range_succ]
theorem mkL_at {zs ys : List Int} {i j : Nat} (h : j < i) : (mkL zs ys i)[j]'(by rw [mkL_length]; exact h) = ⟨zs.getD j 0, ys.getD j 0⟩ := by simp [mkL]
theorem mkL_sum {zs ys : List Int} (hz : ∀ j, 0 ≤ zs.getD j 0 ∧ zs.getD j 0 ≤ 4294967295) : ∀ i, 0 ≤ (bals (mkL zs ys i)).sum ∧ (bals (mkL zs ys i)).sum ≤ i * 4294967295
  | 0 => by simp [mkL, bals]
  | i + 1 => by
    have ih := mkL_sum (ys := ys) hz i
    have h := hz i
    rw [mkL_succ]
    simp only [bals, List.map_append, List.sum_append, List.map_cons, List.map_nil, List.sum_cons, List.sum_nil] at ih ⊢
    omega
theorem mkL_good {zs ys : List Int} {L : Nat} (hL : L ≤ 16) (hz : ∀ j, 0 ≤ zs.getD j 0 ∧ zs.getD j 0 ≤ 4294967295) (hy : ∀ j, 0 ≤ ys.getD j 0 ∧ ys.getD j 0 ≤ 4294967295) : GoodA (mkL zs ys L) := by
  have hs := mkL_sum (ys := ys) hz L
  refine ⟨by rw [mkL_length]; exact hL, ?_, fun a ha => ?_, by omega⟩
  · refine List.all_eq_true.2 fun x hx => ?_
    obtain ⟨a, ha, rfl⟩ := List.mem_map.1 hx
    obtain ⟨j, _, rfl⟩ := List.mem_map.1 ha
    have := hz j
    rw [mayB_iff]
    show 0 ≤ zs.getD j 0 ∧ zs.getD j 0 ≤ 4503599627370496
    omega
  · obtain ⟨j, _, rfl⟩ := List.mem_map.1 ha
    have := hy j
    show 0 ≤ ys.getD j 0 ∧ ys.getD j 0 ≤ 4503599627370496
    omega
theorem good_of {xs : List Ac} (h : GoodA xs) : ofE xs = 0 := by
  have hall : xs.all okA = true := List.all_eq_true.2 fun a ha => by
    obtain ⟨j, hj, rfl⟩ := List.getElem_of_mem ha
    have := h.at hj
    simp only [okA, Bool.and_eq_true, mayB_iff]
    exact this
  unfold ofE
  rw [if_neg (by have := h.len; omega), if_neg (by rw [hall]; simp)]
  unfold sumE
  rw [if_pos h.bal, if_pos h.sum]
theorem fund_yes {xs : List Ac} (h : GoodA xs) {m : Nat} (hm : m < xs.length) {y : Int} (hy : 0 < y ∧ y ≤ 4503599627370496) (hs : (bals xs).sum + y ≤ 4503599627370496) : fundE xs m y = 0 ∧ fundL xs m y = addAt xs m y := by
  have hb : bankB xs.length m = true := (bankB_iff _ _).2 ⟨by omega, by omega⟩
  have ha : argB y = true := by simp [argB, mayB]; omega
  have h1 : mays (bals xs ++ [y]) = true := by
    have := h.bal
    simp only [mays, List.all_append, List.all_cons, List.all_nil, Bool.and_true, Bool.and_eq_true] at this ⊢
    exact ⟨this, by rw [mayB_iff]; omega⟩
  have hE : sumE (bals xs ++ [y]) = 0 := by
    unfold sumE
    rw [if_pos h1, if_pos (by simpa using hs)]
  have h0 : fundE xs m y = 0 := by
    unfold fundE
    rw [if_neg (by rw [hb]; simp), if_neg (by rw [ha]; simp), if_pos hE]
  exact ⟨h0, by unfold fundL; rw [if_pos h0, Int.toNat_natCast]⟩
theorem addAt_at {xs : List Ac} {m : Nat} (hm : m < xs.length) (y : Int) : acAt (addAt xs m y) m = ⟨(acAt xs m).bal + y, (acAt xs m).res⟩ := by
  unfold addAt
  rw [acAt_of (by rw [List.length_set]; exact hm)]
  simp
theorem addAt_length (xs : List Ac) (m : Nat) (y : Int) : (addAt xs m y).length = xs.length := by unfold addAt; simp
theorem addAt_back {xs : List Ac} {m : Nat} (hm : m < xs.length) (y : Int) : addAt (addAt xs m y) m (-y) = xs := by
  have h := addAt_at hm y
  show (addAt xs m y).set m ⟨(acAt (addAt xs m y) m).bal + -y, (acAt (addAt xs m y) m).res⟩ = xs
  rw [h]
  unfold addAt
  rw [List.set_set]
  simp only [show (acAt xs m).bal + y + -y = (acAt xs m).bal by omega]
  rw [acAt_of hm]
  exact List.set_getElem_self hm
theorem draw_at {xs : List Ac} {m : Nat} (hm : m < xs.length) {y : Int} (hy : 0 < y ∧ y ≤ 4503599627370496) (hl : y ≤ (acAt xs m).bal) : drawE xs m y = 0 ∧ drawL xs m y = addAt xs m (-y) := by
  have := draw_yes (xs := xs) (k := (m : Int)) (x := y) ((bankB_iff _ _).2 ⟨by omega, by omega⟩) (by simp [argB, mayB]; omega) (by rw [Int.toNat_natCast]; exact hl)
  rwa [Int.toNat_natCast] at this
theorem draw_off {xs : List Ac} {m : Nat} (hm : m < xs.length) {y : Int} (hy : 0 < y ∧ y ≤ 4503599627370496) (hl : (acAt xs m).bal < y) : drawE xs m y = 12 ∧ drawL xs m y = xs :=
  draw_low (k := (m : Int)) (x := y) ((bankB_iff _ _).2 ⟨by omega, by omega⟩) (by simp [argB, mayB]; omega) (by rw [Int.toNat_natCast]; exact hl)
theorem aget_at {xs : List Ac} {m : Nat} (hm : m < xs.length) : getV xs m = acAt xs m ∧ bankB xs.length m = true := by
  have hb : bankB xs.length m = true := (bankB_iff _ _).2 ⟨by omega, by omega⟩
  exact ⟨by simp [getV, hb], hb⟩
theorem rooms_get {xs : List Ac} {m : Nat} (hm : m < xs.length) : (roomsL xs).getD m 0 = max ((acAt xs m).bal - (acAt xs m).res) 0 := by
  rw [acAt_of hm]; simp [roomsL, hm]
theorem acAt_mkL {zs ys : List Int} {L m : Nat} (hm : m < L) : acAt (mkL zs ys L) m = ⟨zs.getD m 0, ys.getD m 0⟩ := by
  rw [acAt_of (by rw [mkL_length]; exact hm), mkL_at hm]
end Go.AcctP
