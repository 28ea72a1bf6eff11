/-
  How much may be pushed along a way: plain lemmas.
-/
import Derived.Test.YtfafecgnjjkagaaRPlain2
import Derived.Test.YtfafecgnjjkagaaBits
namespace Go.RestP
open Go Go.Mem Go.NetP

/-- How often an arc is among the first i. -/
def cnt (arcs : List Int) (i : Nat) (x : Int) : Int := ((arcs.take i).count x : Int)
theorem cnt_zero (arcs : List Int) (x : Int) : cnt arcs 0 x = 0 := by simp [cnt]
theorem cnt_succ {arcs : List Int} {i : Nat} (hi : i < arcs.length) (x : Int) : cnt arcs (i + 1) x = cnt arcs i x + if arcs.getD i 0 = x then 1 else 0 := by
  unfold cnt
  rw [List.take_succ_eq_append_getElem hi, List.count_append]
  simp only [List.getD_eq_getElem?_getD, List.getElem?_eq_getElem hi, Option.getD_some]
  by_cases h : arcs[i] = x
  · subst h; simp
  · simp [h]
theorem cnt_bound (arcs : List Int) (i : Nat) (x : Int) : 0 ≤ cnt arcs i x ∧ cnt arcs i x ≤ i := by
  unfold cnt
  have h1 := List.count_le_length (a := x) (l := arcs.take i)
  have h2 : (arcs.take i).length ≤ i := List.length_take_le _ _
  omega
/-- How often more than its other one, this one among them. -/
def need (arcs : List Int) (i : Nat) : Int := 1 + cnt arcs i (arcs.getD i 0) - cnt arcs i (Mem.flip (arcAt arcs i) : Nat)
def pairN (arcs : List Int) (i e : Nat) : Int := cnt arcs i ((2 * e : Nat) : Int) - cnt arcs i ((2 * e + 1 : Nat) : Int)
/-- What flows when i pushes are done. -/
theorem along_get {es : List Ed} {fl : List Int} {b : Int} {arcs : List Int} (hw : ∀ j, j < arcs.length → hasB es.length (arcs.getD j 0) = true) (hl : fl.length = es.length) :
    ∀ (i : Nat) (l : List Int), i ≤ arcs.length → alongF es fl b (arcs.take i) = some l → l.length = fl.length ∧ ∀ e, e < fl.length → l.getD e 0 = fl.getD e 0 + b * pairN arcs i e
  | 0, l, _, h => by
    have : l = fl := by simpa [alongF] using h.symm
    subst this
    exact ⟨rfl, fun e _ => by simp [pairN, cnt_zero]⟩
  | i + 1, l, hi, h => by
    have hlt : i < arcs.length := by omega
    rw [along_succ hlt] at h
    cases hp : alongF es fl b (arcs.take i) with
    | none => rw [hp] at h; simp [alongO] at h
    | some l0 =>
      rw [hp] at h
      obtain ⟨h1, h2⟩ := along_get hw hl i l0 (by omega) hp
      simp only [alongO, Option.bind_some] at h
      split at h
      · cases h
      · have hl2 : l = pushL l0 (arcs.getD i 0).toNat b := (Option.some.inj h).symm
        subst hl2
        refine ⟨by rw [pushL_length, h1], fun e he => ?_⟩
        have hh := has_cast (hw i hlt)
        have hhf := has_half (has_nat (hw i hlt))
        obtain ⟨a, ha⟩ : ∃ a : Nat, (arcs.getD i 0).toNat = a := ⟨_, rfl⟩
        rw [ha] at hh hhf ⊢
        rw [push_get (by omega), h2 e he]
        have c0 := cnt_succ hlt ((2 * e : Nat) : Int)
        have c1 := cnt_succ hlt ((2 * e + 1 : Nat) : Int)
        rw [hh] at c0 c1
        unfold pairN
        rw [c0, c1]
        unfold sgn oddB
        by_cases hq : a / 2 = e
        · rw [if_pos hq]
          rcases Nat.mod_two_eq_zero_or_one a with hm | hm
          · have e1 : (a : Int) = ((2 * e : Nat) : Int) := by omega
            have e2 : ¬ (a : Int) = ((2 * e + 1 : Nat) : Int) := by omega
            rw [if_pos e1, if_neg e2, hm]
            simp
            rw [show cnt arcs i (2 * (e : Int)) + 1 - cnt arcs i (2 * (e : Int) + 1) = (cnt arcs i (2 * (e : Int)) - cnt arcs i (2 * (e : Int) + 1)) + 1 by omega, Int.mul_add, Int.mul_one]; omega
          · have e1 : ¬ (a : Int) = ((2 * e : Nat) : Int) := by omega
            have e2 : (a : Int) = ((2 * e + 1 : Nat) : Int) := by omega
            rw [if_neg e1, if_pos e2, hm]
            simp
            rw [show cnt arcs i (2 * (e : Int)) - (cnt arcs i (2 * (e : Int) + 1) + 1) = (cnt arcs i (2 * (e : Int)) - cnt arcs i (2 * (e : Int) + 1)) - 1 by omega, Int.mul_sub (b) (cnt arcs i (2 * (e : Int)) - cnt arcs i (2 * (e : Int) + 1)) 1, Int.mul_one]; omega
        · have e1 : ¬ (a : Int) = ((2 * e : Nat) : Int) := by omega
          have e2 : ¬ (a : Int) = ((2 * e + 1 : Nat) : Int) := by omega
          rw [if_neg hq, if_neg e1, if_neg e2]; simp
/-- The room that is left ahead of push i. -/
theorem along_room {es : List Ed} {fl : List Int} {b : Int} {arcs : List Int} (hw : ∀ j, j < arcs.length → hasB es.length (arcs.getD j 0) = true) (hl : fl.length = es.length) {i : Nat} (hi : i < arcs.length) {l : List Int} (h : alongF es fl b (arcs.take i) = some l) :
    roomE es l (arcAt arcs i) = roomE es fl (arcAt arcs i) - b * (need arcs i - 1) := by
  obtain ⟨h1, h2⟩ := along_get hw hl i l (by omega) h
  have hh := has_cast (hw i hi)
  have hhf := has_half (has_nat (hw i hi))
  unfold need
  unfold arcAt
  obtain ⟨a, ha⟩ : ∃ a : Nat, (arcs.getD i 0).toNat = a := ⟨_, rfl⟩
  rw [ha] at hh hhf ⊢
  rw [hh]
  have h3 := h2 (a / 2) (by omega)
  unfold roomE oddB
  rw [h3]
  unfold pairN Mem.flip
  rcases Nat.mod_two_eq_zero_or_one a with hm | hm
  · have e1 : ((2 * (a / 2) : Nat) : Int) = (a : Int) := by omega
    have e2 : ((2 * (a / 2) + 1 : Nat) : Int) = ((a + 1 : Nat) : Int) := by omega
    rw [e1, e2, hm, if_pos rfl]
    simp only [Nat.reduceBEq, Bool.false_eq_true, if_false]
    rw [show (1 : Int) + cnt arcs i (a : Int) - cnt arcs i ((a + 1 : Nat) : Int) - 1 = cnt arcs i (a : Int) - cnt arcs i ((a + 1 : Nat) : Int) by omega]; omega
  · have e1 : ((2 * (a / 2) : Nat) : Int) = ((a - 1 : Nat) : Int) := by omega
    have e2 : ((2 * (a / 2) + 1 : Nat) : Int) = (a : Int) := by omega
    rw [e1, e2, hm]
    simp only [Nat.reduceBEq, if_true, if_neg (show ¬ (1 : Nat) = 0 by decide)]
    rw [show (1 : Int) + cnt arcs i (a : Int) - cnt arcs i ((a - 1 : Nat) : Int) - 1 = -(cnt arcs i ((a - 1 : Nat) : Int) - cnt arcs i (a : Int)) by omega, Int.mul_neg]; omega
/-- All goes just if each push finds room. -/
theorem along_iff {es : List Ed} {fl : List Int} {b : Int} {arcs : List Int} (hw : ∀ j, j < arcs.length → hasB es.length (arcs.getD j 0) = true) (hl : fl.length = es.length) :
    ∀ i, i ≤ arcs.length → ((∃ l, alongF es fl b (arcs.take i) = some l) ↔ ∀ j, j < i → b * need arcs j ≤ roomE es fl (arcAt arcs j))
  | 0, _ => ⟨fun _ j hj => by omega, fun _ => ⟨fl, by simp [alongF]⟩⟩
  | i + 1, hi => by
    have hlt : i < arcs.length := by omega
    have ih := along_iff (b := b) hw hl i (by omega)
    constructor
    · rintro ⟨l, h⟩ j hj
      rw [along_succ hlt] at h
      cases hp : alongF es fl b (arcs.take i) with
      | none => rw [hp] at h; simp [alongO] at h
      | some l0 =>
        by_cases hji : j = i
        · subst hji
          rw [hp] at h
          simp only [alongO, Option.bind_some] at h
          split at h
          · cases h
          · rename_i hr
            have := along_room hw hl hlt hp
            unfold arcAt at this ⊢
            rw [this] at hr
            rw [Int.mul_sub, Int.mul_one] at hr
            omega
        · exact ih.1 ⟨l0, hp⟩ j (by omega)
    · intro h
      obtain ⟨l0, hp⟩ := ih.2 (fun j hj => h j (by omega))
      have h3 := h i (by omega)
      have h4 := along_room hw hl hlt hp
      rw [along_succ hlt, hp]
      simp only [alongO, Option.bind_some]
      rw [if_neg]
      · exact ⟨_, rfl⟩
      · unfold arcAt at h3 h4
        rw [h4, Int.mul_sub, Int.mul_one]; omega
/-- The least when i arcs have been seen. -/
def leastS (es : List Ed) (fl arcs : List Int) : Nat → Int
  | 0 => roomE es fl (arcAt arcs 0)
  | i + 1 => if 0 < need arcs i then min (leastS es fl arcs i) (roomE es fl (arcAt arcs i) / need arcs i) else leastS es fl arcs i
def bottleV (n : Int) (es : List Ed) (fl arcs : List Int) : Int := if (wayB n es arcs && withinB n es fl) = true then leastS es fl arcs arcs.length else 0
theorem least_iff (es : List Ed) (fl arcs : List Int) (b : Int) : ∀ i, b ≤ leastS es fl arcs i ↔ b ≤ roomE es fl (arcAt arcs 0) ∧ ∀ j, j < i → 0 < need arcs j → b * need arcs j ≤ roomE es fl (arcAt arcs j)
  | 0 => by simp [leastS]
  | i + 1 => by
    have ih := least_iff es fl arcs b i
    unfold leastS
    split
    · rename_i h
      rw [Int.le_min, ih, Int.le_ediv_iff_mul_le h]
      constructor
      · rintro ⟨⟨h1, h2⟩, h3⟩
        refine ⟨h1, fun j hj hn => ?_⟩
        by_cases e : j = i
        · subst e; exact h3
        · exact h2 j (by omega) hn
      · rintro ⟨h1, h2⟩
        exact ⟨⟨h1, fun j hj hn => h2 j (by omega) hn⟩, h2 i (by omega) h⟩
    · rename_i h
      rw [ih]
      constructor
      · rintro ⟨h1, h2⟩
        refine ⟨h1, fun j hj hn => ?_⟩
        by_cases e : j = i
        · subst e; omega
        · exact h2 j (by omega) hn
      · rintro ⟨h1, h2⟩
        exact ⟨h1, fun j hj hn => h2 j (by omega) hn⟩
theorem need_zero (arcs : List Int) : need arcs 0 = 1 := by simp [need, cnt_zero]
theorem least_bound {n : Int} {es : List Ed} {fl arcs : List Int} (hw : wayB n es arcs = true) (hr : withinB n es fl = true) (i : Nat) (hi : i ≤ arcs.length) : 0 ≤ leastS es fl arcs i ∧ leastS es fl arcs i ≤ 4503599627370496 := by
  have hrb : ∀ j, j < arcs.length → 0 ≤ roomE es fl (arcAt arcs j) ∧ roomE es fl (arcAt arcs j) ≤ 4503599627370496 := fun j hj => room_bound hr (has_nat (step_has ((way_cap hw).2.2 j hj)))
  have h0 := hrb 0 (way_cap hw).1
  constructor
  · rw [least_iff]
    exact ⟨h0.1, fun j hj _ => by have := hrb j (by omega); simpa using this.1⟩
  · have := (least_iff es fl arcs (leastS es fl arcs i) i).1 (Int.le_refl _)
    omega
/-- **As much as Bottle says may be pushed, and no more.** -/
theorem bottle_iff {n : Int} {es : List Ed} {fl arcs : List Int} (hw : wayB n es arcs = true) (hr : withinB n es fl = true) {b : Int} (hb : 0 ≤ b) : (alongE n es fl arcs b = 0) ↔ b ≤ bottleV n es fl arcs := by
  have hbad : alongBad n es fl arcs b = false := by simp [alongBad, hw, hr]; omega
  have hb2 : bottleV n es fl arcs = leastS es fl arcs arcs.length := by simp [bottleV, hw, hr]
  have hhas : ∀ j, j < arcs.length → hasB es.length (arcs.getD j 0) = true := fun j hj => step_has ((way_cap hw).2.2 j hj)
  have hiff := along_iff (b := b) (fl := fl) hhas (within_cap hr).1 arcs.length (Nat.le_refl _)
  rw [List.take_length] at hiff
  rw [hb2, least_iff]
  have h1 : alongE n es fl arcs b = 0 ↔ ∃ l, alongF es fl b arcs = some l := by
    unfold alongE
    rw [if_neg (by rw [hbad]; simp)]
    cases alongF es fl b arcs <;> simp
  rw [h1, hiff]
  constructor
  · intro h
    refine ⟨?_, fun j hj _ => h j hj⟩
    have := h 0 (way_cap hw).1
    rwa [need_zero, Int.mul_one] at this
  · rintro ⟨_, h⟩ j hj
    by_cases hn : 0 < need arcs j
    · exact h j hj hn
    · have h2 := room_bound hr (has_nat (hhas j hj))
      have h3 : b * need arcs j ≤ 0 := Int.mul_nonpos_of_nonneg_of_nonpos hb (by omega)
      unfold arcAt; omega
theorem along_bad0 {n : Int} {es : List Ed} {fl arcs : List Int} (h : (wayB n es arcs && withinB n es fl) = false) (b : Int) : alongE n es fl arcs b = 1 := by
  refine (along_bad ?_).1
  rw [Bool.and_eq_false_iff] at h
  rcases h with h | h <;> simp [alongBad, h]
theorem bottle_bound (n : Int) (es : List Ed) (fl arcs : List Int) : 0 ≤ bottleV n es fl arcs ∧ bottleV n es fl arcs ≤ 4503599627370496 := by
  unfold bottleV
  split
  · rename_i h
    rw [Bool.and_eq_true] at h
    exact least_bound h.1 h.2 _ (Nat.le_refl _)
  · omega
end Go.RestP
