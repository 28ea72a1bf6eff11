/-
  The search for a turn, round by round: what stays so, and what it comes to. Plain lemmas.
-/
import Derived.Test.YtacbfpgijmpilaaSR
set_option linter.unusedVariables false
set_option linter.unusedSimpArgs false
namespace Go.SolveP
open Go Go.Mem Go.NetP Go.RestP Go.CertP Go.PathP
section
variable {es : List Ed} {fl : List Int} {N r m : Nat} {S : TS}
theorem TI.lset (h : TI es fl N r m S) (l : Int) : TI es fl N r m { S with l := l } := ⟨h.ld, h.lb, h.low, h.le, h.now, h.par, h.neg⟩
theorem relaxT_len (a : Nat) : (relaxT es fl S a).d.length = S.d.length ∧ (relaxT es fl S a).b.length = S.b.length := by
  unfold relaxT; split <;> simp
theorem roundT_len : ∀ m, (roundT es fl m S).d.length = S.d.length ∧ (roundT es fl m S).b.length = S.b.length
  | 0 => ⟨rfl, rfl⟩
  | m + 1 => by
    rw [roundT_succ]
    have h1 := relaxT_len (es := es) (fl := fl) (S := roundT es fl m S) m
    have h2 := roundT_len m
    omega
theorem roundT_low (hr : rightB N es = true) {B : Int} (h : ∀ v, v < N → -B ≤ g S.d v) (hl : S.d.length = N) : ∀ m, m ≤ 2 * es.length → ∀ v, v < N → -(B + 1000 * m) ≤ g (roundT es fl m S).d v
  | 0, _, v, hv => by have := h v hv; show _ ≤ g S.d v; omega
  | m + 1, hm, v, hv => by
    rw [roundT_succ]
    have ih := roundT_low hr h hl m (by omega)
    have := relaxT_low (fl := fl) hr ih ((roundT_len m).1.trans hl) (show m < 2 * es.length by omega) v hv
    omega
/-- Ahead of round r. -/
structure RD (es : List Ed) (fl : List Int) (N r : Nat) (S : TS) : Prop where
  ti : r ≤ N → TI es fl N r 0 S
  ld : S.d.length = N
  lb : S.b.length = N
  low : ∀ v, v < N → -(1000 * (2 * es.length) * r : Int) ≤ g S.d v
  up : ∀ v, v < N → g S.d v ≤ 0
  fin : r = N + 1 → TI es fl N N (2 * es.length) S ∧ ∃ l : Nat, l < N ∧ S.l = l ∧ ∀ x y, Wy (fun a => ∃ k, hasA es fl k ∧ a = acAt es k) l x y → y ≤ N → g S.d l < x
theorem RD.start (N : Nat) : RD es fl N 0 ⟨List.replicate N 0, List.replicate N (-1), -1⟩ :=
  ⟨fun _ => TI.start N, by simp, by simp, fun v hv => by have := (TI.start (es := es) (fl := fl) N).low v hv; unfold g; rw [List.getD_eq_getElem?_getD, List.getElem?_replicate, if_pos hv]; simp, (TI.start (es := es) (fl := fl) N).low, fun h => by omega⟩
/-- Within a round. -/
theorem RD.mid (h : RD es fl N r S) (hr : rightB N es = true) (hN : r ≤ N) (m : Nat) (hm : m ≤ 2 * es.length) :
    TI es fl N r m (roundT es fl m { S with l := -1 }) ∧ TL es fl N r (roundT es fl m { S with l := -1 }) ∧ ∀ v, v < N → -(1000 * (2 * es.length) * (r + 1) : Int) ≤ g (roundT es fl m { S with l := -1 }).d v := by
  obtain ⟨h1, h2⟩ := ((h.ti hN).lset (-1)).round hr rfl m hm
  refine ⟨h1, h2, fun v hv => ?_⟩
  have h3 := roundT_low (fl := fl) (S := { S with l := -1 }) hr h.low h.ld m hm v hv
  have e : (1000 * (2 * es.length) * (r + 1) : Int) = 1000 * (2 * es.length) * r + 1000 * (2 * es.length) := by rw [Int.mul_add, Int.mul_one]
  rw [e]
  omega
theorem RD.next (h : RD es fl N r S) (hr : rightB N es = true) (hN : r ≤ N) (hl : 0 ≤ (roundT es fl (2 * es.length) { S with l := -1 }).l) : RD es fl N (r + 1) (roundT es fl (2 * es.length) { S with l := -1 }) := by
  obtain ⟨h1, h2, h3⟩ := h.mid hr hN (2 * es.length) (Nat.le_refl _)
  refine ⟨fun _ => by simpa using h1.next (roundT es fl (2 * es.length) { S with l := -1 }).l, h1.ld, h1.lb, fun v hv => by have := h3 v hv; push_cast; exact this, h1.low, fun e => ?_⟩
  obtain rfl : r = N := by omega
  refine ⟨h1, ?_⟩
  rcases h2 with q | ⟨v, v1, v2, v3⟩
  · omega
  · exact ⟨v, v1, v2, v3⟩
theorem RD.none (h : RD es fl N r S) (hr : rightB N es = true) (hf : flowsB N es fl = true) (hN : r ≤ N) (hl : (roundT es fl (2 * es.length) { S with l := -1 }).l < 0) : checkB N es fl S.d = true := by
  obtain ⟨e, ht⟩ := round_none (S := { S with l := -1 }) hr rfl (2 * es.length) (Nat.le_refl _) hl
  have h1 := none_tight (S := { S with l := -1 }) hr ht
  obtain ⟨c1, c2, c3, _⟩ := right_cap hr
  unfold checkB
  rw [hr, hf, h1, Bool.true_and, Bool.true_and, Bool.and_true]
  unfold potB
  rw [Bool.and_eq_true, List.all_eq_true]
  refine ⟨fun x hx => ?_, decide_eq_true (by rw [h.ld])⟩
  obtain ⟨v, hv, rfl⟩ := List.getElem_of_mem hx
  have hvN : v < N := by rw [← h.ld]; exact hv
  have hlo := h.low v hvN
  have hup := h.up v hvN
  have eg : g S.d v = S.d[v] := by unfold g; rw [List.getD_eq_getElem?_getD, List.getElem?_eq_getElem hv]; rfl
  rw [eg] at hlo hup
  rw [farB_iff]
  have hb : (1000 * (2 * es.length) * r : Int) ≤ 16000000 := by
    have q1 : (1000 * (2 * es.length) : Int) ≤ 400000 := by omega
    have q2 : (1000 * (2 * es.length) * r : Int) ≤ 400000 * 40 := Int.mul_le_mul q1 (by omega) (by omega) (by omega)
    exact Int.le_trans q2 (by decide)
  omega
/-- What a search that has gone through all rounds comes to. -/
theorem RD.turn (h : RD es fl N (N + 1) S) (hr : rightB N es = true) : ∃ l u q : Nat, S.l = l ∧ u = parN es S.b l N ∧ 0 < q ∧ q ≤ N ∧ parN es S.b u q = u ∧ (∀ i, 0 < i → i < q → parN es S.b u i ≠ u) ∧
    (∀ k, k ≤ N → parN es S.b l k < N ∧ ∃ a : Nat, hasA es fl a ∧ g S.b (parN es S.b l k) = a ∧ (acAt es a).u = parN es S.b l (k + 1)) ∧
    (∀ i, parN es S.b u i < N ∧ ∃ a : Nat, hasA es fl a ∧ g S.b (parN es S.b u i) = a ∧ (acAt es a).u = parN es S.b u (i + 1)) ∧
    (∀ x ∈ turnP es S.b u q, hasA es fl x) ∧ RT es u (turnP es S.b u q) u ∧ ((turnP es S.b u q).map fun x => x / 2).Nodup := by
  obtain ⟨h1, l, hl, hl2, hw⟩ := h.fin rfl
  obtain ⟨u, q, e1, e2, e3, e4, e5, e6, e7, e8⟩ := h1.turn hr hl hw
  have hb := h1.back hr hl hw
  have hRT := turnP_RT (fun i => (e7 i).2) q
  rw [e5] at hRT
  refine ⟨l, u, q, hl2, e1, e3, e4, e5, e6, fun k hk => ?_, fun i => ?_, turnP_has (fun i => (e7 i).2), hRT, turnP_nodup (fun i => (e7 i).2) e5 e6 e8⟩
  · obtain ⟨_, b2, a, b3, b4, _⟩ := hb k hk
    refine ⟨b2, a, b3, b4, ?_⟩
    show _ = parE es S.b _
    unfold parE; rw [b4]; simp
  · obtain ⟨c1, a, c2, c3, _, c5⟩ := e7 i
    exact ⟨c1, a, c2, c3, c5⟩
end
end Go.SolveP
