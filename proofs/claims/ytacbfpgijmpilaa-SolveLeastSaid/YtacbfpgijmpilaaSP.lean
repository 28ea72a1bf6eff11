/-
  What is pushed round a turn. Plain lemmas.
-/
import Derived.Test.YtacbfpgijmpilaaSN
set_option linter.unusedVariables false
set_option linter.unusedSimpArgs false
namespace Go.SolveP
open Go Go.Mem Go.NetP Go.RestP Go.CertP Go.PathP
/-- What one push changes at a node. -/
theorem over_push {es : List Ed} {fl : List Int} {n : Nat} (hr : rightB n es = true) (hl : fl.length = es.length) {a : Nat} (ha : a < 2 * es.length) (m : Int) (v : Nat) :
    overAt es (pushL fl a m) v es.length = overAt es fl v es.length + gain (decide ((acAt es a).v = v)) m - gain (decide ((acAt es a).u = v)) m := by
  have key : ∀ k, k ≤ es.length → overAt es (pushL fl a m) v k = overAt es fl v k + if a / 2 < k then gain (decide ((acAt es a).v = v)) m - gain (decide ((acAt es a).u = v)) m else 0 := by
    intro k
    induction k with
    | zero => intro _; simp [overAt]
    | succ k ih =>
      intro hk
      rw [overAt_succ, overAt_succ, ih (by omega)]
      by_cases e : a / 2 = k
      · subst e
        have hg : (pushL fl a m).getD (a / 2) 0 = fl.getD (a / 2) 0 + sgn a m := by
          unfold pushL
          rw [List.getD_eq_getElem?_getD, List.getElem?_set_self (by omega)]; rfl
        rw [hg, if_neg (by omega), if_pos (by omega)]
        have he := (edgeB_iff _ _).1 ((right_cap hr).2.2.2.2 _ (List.getElem_mem (show a / 2 < es.length by omega)))
        rw [← edAt_of (show a / 2 < es.length by omega)] at he
        obtain ⟨⟨f0, _⟩, ⟨t0, _⟩, _⟩ := he
        unfold acAt endsE sgn
        generalize fl.getD (a / 2) 0 = x
        cases oddB a
        · simp only [Bool.false_eq_true, if_false]
          have d1 : ((edAt es (a / 2)).t.toNat = v) ↔ ((edAt es (a / 2)).t = v) := by omega
          have d2 : ((edAt es (a / 2)).f.toNat = v) ↔ ((edAt es (a / 2)).f = v) := by omega
          simp only [d1, d2]
          unfold gain
          split <;> split <;> omega
        · simp only [if_true]
          have d1 : ((edAt es (a / 2)).t.toNat = v) ↔ ((edAt es (a / 2)).t = v) := by omega
          have d2 : ((edAt es (a / 2)).f.toNat = v) ↔ ((edAt es (a / 2)).f = v) := by omega
          simp only [d1, d2]
          unfold gain
          split <;> split <;> omega
      · have hg : (pushL fl a m).getD k 0 = fl.getD k 0 := by
          unfold pushL
          rw [List.getD_eq_getElem?_getD, List.getElem?_set_ne e, ← List.getD_eq_getElem?_getD]
        rw [hg]
        by_cases q : a / 2 < k
        · rw [if_pos q, if_pos (by omega)]; omega
        · rw [if_neg q, if_neg (by omega)]; omega
  have := key es.length (Nat.le_refl _)
  rw [if_pos (by omega)] at this
  omega
def pushA (fl : List Int) (P : List Nat) (m : Int) : List Int := P.foldl (fun f a => pushL f a m) fl
theorem pushA_len (m : Int) : ∀ (P : List Nat) (fl : List Int), (pushA fl P m).length = fl.length
  | [], _ => rfl
  | a :: P, fl => by show (pushA (pushL fl a m) P m).length = _; rw [pushA_len m P]; simp [pushL]
/-- Arcs, each from where the next one leads to: from u back to w. -/
def RT (es : List Ed) : Nat → List Nat → Nat → Prop
  | u, [], w => u = w
  | u, a :: P, w => (acAt es a).v = u ∧ RT es (acAt es a).u P w
theorem over_pushes {es : List Ed} {n : Nat} (hr : rightB n es = true) (m : Int) (v : Nat) : ∀ (P : List Nat) (fl : List Int) (u w : Nat), fl.length = es.length → (∀ a ∈ P, a < 2 * es.length) → RT es u P w →
    overAt es (pushA fl P m) v es.length = overAt es fl v es.length + gain (decide (u = v)) m - gain (decide (w = v)) m
  | [], fl, u, w, _, _, h => by
    have : u = w := h
    subst this
    show overAt es fl v es.length = _
    omega
  | a :: P, fl, u, w, hl, ha, h => by
    obtain ⟨h1, h2⟩ := h
    have i := over_pushes hr m v P (pushL fl a m) _ w (by simp [pushL, hl]) (fun x hx => ha x (List.mem_cons_of_mem _ hx)) h2
    show overAt es (pushA (pushL fl a m) P m) v es.length = _
    rw [i, over_push hr hl (ha a List.mem_cons_self), h1]
    omega
/-- Round a turn nothing is over that was not. -/
theorem turn_flows {es : List Ed} {n : Nat} {fl : List Int} {P : List Nat} {m : Int} {u : Nat} (hf : flowsB n es fl = true) (ha : ∀ a ∈ P, a < 2 * es.length) (h : RT es u P u) (hw : withinB n es (pushA fl P m) = true) : flowsB n es (pushA fl P m) = true := by
  simp only [flowsB, Bool.and_eq_true] at hf ⊢
  obtain ⟨w1, w2, _⟩ := within_cap hf.1
  refine ⟨hw, ?_⟩
  have h0 := hf.2
  unfold overV at h0 ⊢
  rw [if_pos hf.1] at h0
  rw [if_pos hw]
  have e : overL (n : Int).toNat es (pushA fl P m) = overL (n : Int).toNat es fl := by
    unfold overL
    refine List.map_congr_left fun v _ => ?_
    rw [pushA_len, w1, over_pushes w2 m v P fl u u w1 ha h]
    omega
  rw [e]; exact h0
end Go.SolveP
