/-
  What is pushed round a turn stays within its bounds. Plain lemmas.
-/
import Derived.Test.YtacbfpgijmpilaaSP
set_option linter.unusedVariables false
set_option linter.unusedSimpArgs false
namespace Go.SolveP
open Go Go.Mem Go.NetP Go.RestP Go.CertP Go.PathP
theorem pushA_at (m : Int) (j : Nat) : ∀ (P : List Nat) (fl : List Int), (∀ a ∈ P, a / 2 ≠ j) → (pushA fl P m).getD j 0 = fl.getD j 0
  | [], _, _ => rfl
  | a :: P, fl, h => by
    show (pushA (pushL fl a m) P m).getD j 0 = _
    rw [pushA_at m j P _ fun q hq => h q (List.mem_cons_of_mem _ hq)]
    unfold pushL
    rw [List.getD_eq_getElem?_getD, List.getElem?_set_ne (h a List.mem_cons_self), ← List.getD_eq_getElem?_getD]
theorem pushA_on (m : Int) {a : Nat} : ∀ (P : List Nat) (fl : List Int), (P.map fun x => x / 2).Nodup → a ∈ P → (∀ x ∈ P, x / 2 < fl.length) → (pushA fl P m).getD (a / 2) 0 = fl.getD (a / 2) 0 + sgn a m
  | [], _, _, h, _ => by simp at h
  | b :: P, fl, hn, h, hl => by
    rw [List.map_cons, List.nodup_cons] at hn
    show (pushA (pushL fl b m) P m).getD (a / 2) 0 = _
    rcases List.mem_cons.1 h with rfl | h
    · rw [pushA_at m _ P _ fun q hq e => hn.1 (List.mem_map.2 ⟨q, hq, e⟩)]
      unfold pushL
      rw [List.getD_eq_getElem?_getD, List.getElem?_set_self (hl a List.mem_cons_self)]; rfl
    · have hne : b / 2 ≠ a / 2 := fun e => hn.1 (List.mem_map.2 ⟨a, h, e.symm⟩)
      rw [pushA_on m P (pushL fl b m) hn.2 h fun x hx => by rw [show (pushL fl b m).length = fl.length by simp [pushL]]; exact hl x (List.mem_cons_of_mem _ hx)]
      unfold pushL
      rw [List.getD_eq_getElem?_getD, List.getElem?_set_ne hne, ← List.getD_eq_getElem?_getD]
theorem push_within {n : Int} {es : List Ed} {fl : List Int} {P : List Nat} {m : Int} (hw : withinB n es fl = true) (hn : (P.map fun x => x / 2).Nodup) (ha : ∀ a ∈ P, a < 2 * es.length ∧ m ≤ roomE es fl a) (hm : 0 ≤ m) : withinB n es (pushA fl P m) = true := by
  obtain ⟨w1, w2, _⟩ := within_cap hw
  refine within_ok (by rw [pushA_len]; exact w1) w2 fun j hj => ?_
  rw [pushA_len] at hj
  have hje : j < es.length := by omega
  rw [capB_at hje]
  have h0 := within_at hw hje
  have goal_ : 0 ≤ (pushA fl P m).getD j 0 ∧ (pushA fl P m).getD j 0 ≤ es[j].c := by
    rcases Classical.em (∃ a ∈ P, a / 2 = j) with ⟨a, hp, e⟩ | q
    · subst e
      rw [pushA_on m P fl hn hp fun x hx => by have := (ha x hx).1; omega]
      have hr := (ha a hp).2
      unfold roomE at hr
      unfold sgn
      rw [edAt_of hje] at hr
      generalize fl.getD (a / 2) 0 = x at *
      cases ho : oddB a
      · rw [ho] at hr; simp only [Bool.false_eq_true, if_false] at hr ⊢; omega
      · rw [ho] at hr; simp only [if_true] at hr ⊢; omega
    · rw [pushA_at m j P fl fun a hp e => q ⟨a, hp, e⟩]; exact h0
  simp only [Bool.and_eq_true, decide_eq_true_eq]
  exact goal_
end Go.SolveP
