/-
  A turn that costs less than 0: how it is found (gabletref15.turn). Plain lemmas.
-/
import Derived.Test.YtacbfpgijmpilaaSB
set_option linter.unusedVariables false
set_option linter.unusedSimpArgs false
namespace Go.SolveP
open Go Go.Mem Go.NetP Go.RestP Go.CertP Go.PathP
/-- What a search has: numbers, by which arc each was lowered, which one last. -/
structure TS where
  d : List Int
  b : List Int
  l : Int
def relaxT (es : List Ed) (fl : List Int) (S : TS) (a : Nat) : TS :=
  if g S.d (endsE es a).1.toNat + (endsE es a).2.2 < g S.d (endsE es a).2.1.toNat ∧ 0 < roomE es fl a then ⟨S.d.set (endsE es a).2.1.toNat (g S.d (endsE es a).1.toNat + (endsE es a).2.2), S.b.set (endsE es a).2.1.toNat a, (endsE es a).2.1⟩ else S
/-- Back along the arcs that are told: from v to u, at this cost, so many arcs. -/
inductive CH (es : List Ed) (b : List Int) : Nat → Nat → Int → Nat → Prop
  | nil (v : Nat) : CH es b v v 0 0
  | cons {v u a : Nat} {L : Int} {k : Nat} : g b v = a → CH es b (acAt es a).u u L k → CH es b v u (L + (acAt es a).c) (k + 1)
structure TI (es : List Ed) (fl : List Int) (N r m : Nat) (S : TS) : Prop where
  ld : S.d.length = N
  lb : S.b.length = N
  low : ∀ v, v < N → g S.d v ≤ 0
  le : ∀ v x y, Wy (fun a => ∃ k, hasA es fl k ∧ a = acAt es k) v x y → v < N → y ≤ r → g S.d v ≤ x
  now : ∀ k, k < m → hasA es fl k → ∀ x y, Wy (fun a => ∃ k, hasA es fl k ∧ a = acAt es k) (acAt es k).u x y → y ≤ r → g S.d (acAt es k).v ≤ x + (acAt es k).c
  par : ∀ v, v < N → (g S.b v = -1 ∧ g S.d v = 0) ∨ ∃ a : Nat, hasA es fl a ∧ g S.b v = a ∧ (acAt es a).v = v ∧ g S.d (acAt es a).u + (acAt es a).c ≤ g S.d v
  neg : ∀ v L k, v < N → 0 < k → CH es S.b v v L k → L < 0
section
variable {es : List Ed} {fl : List Int} {N r m : Nat} {S : TS}
theorem TI.start (N : Nat) : TI es fl N 0 0 ⟨List.replicate N 0, List.replicate N (-1), -1⟩ := by
  have hz : ∀ v, v < N → g (List.replicate N (0 : Int)) v = 0 := fun v hv => by
    unfold g; rw [List.getD_eq_getElem?_getD, List.getElem?_replicate, if_pos hv]; rfl
  have hb : ∀ v, v < N → g (List.replicate N (-1 : Int)) v = -1 := fun v hv => by
    unfold g; rw [List.getD_eq_getElem?_getD, List.getElem?_replicate, if_pos hv]; rfl
  refine ⟨by simp, by simp, fun v hv => by rw [hz v hv]; omega, fun v x y h hv hy => ?_, fun k hk => by omega, fun v hv => .inl ⟨hb v hv, hz v hv⟩, fun v L k hv hk h => ?_⟩
  · cases h with
    | nil => rw [hz v hv]; omega
    | snoc => omega
  · cases h with
    | nil => omega
    | cons ha _ => have := hb v hv; dsimp only at ha; rw [this] at ha; omega
/-- Behind a step: a way back is as it was, or what it costs is less than the numbers say. -/
theorem ch_step {b b' : List Int} {d : Nat → Int} {x a : Nat} (hx : g b' x = a) (hs : d (acAt es a).u + (acAt es a).c < d x) (hb : ∀ v, v ≠ x → v < N → g b' v = g b v)
    (hp : ∀ v a : Nat, v < N → v ≠ x → g b v = a → d (acAt es a).u + (acAt es a).c ≤ d v ∧ (acAt es a).u < N) (hu : (acAt es a).u < N) {v u : Nat} {L : Int} {k : Nat} (h : CH es b' v u L k) :
    v < N → (CH es b v u L k ∧ d u + L ≤ d v) ∨ d u + L < d v := by
  induction h with
  | nil v => intro _; exact .inl ⟨.nil v, by omega⟩
  | @cons v u a' L k ha hch ih =>
    intro hv
    by_cases e : v = x
    · subst e
      have : a' = a := by rw [hx] at ha; omega
      subst this
      rcases ih hu with ⟨_, q⟩ | q
      · exact .inr (by omega)
      · exact .inr (by omega)
    · have ha2 := ha
      rw [hb v e hv] at ha2
      obtain ⟨p1, p2⟩ := hp v a' hv e ha2
      rcases ih p2 with ⟨c1, q⟩ | q
      · exact .inl ⟨.cons ha2 c1, by omega⟩
      · exact .inr (by omega)
theorem TI.step (hr : rightB N es = true) (h : TI es fl N r m S) (hm : m < 2 * es.length) : TI es fl N r (m + 1) (relaxT es fl S m) := by
  obtain ⟨e1, e2, e3, e4⟩ := ends_node hr hm
  have hv : (acAt es m).v < N := by unfold acAt; dsimp only; omega
  have hu : (acAt es m).u < N := by unfold acAt; dsimp only; omega
  unfold relaxT
  by_cases hc : g S.d (endsE es m).1.toNat + (endsE es m).2.2 < g S.d (endsE es m).2.1.toNat ∧ 0 < roomE es fl m
  · rw [if_pos hc]
    have hA : hasA es fl m := ⟨hm, hc.2⟩
    have hc1 : g S.d (acAt es m).u + (acAt es m).c < g S.d (acAt es m).v := hc.1
    have hg : g (S.d.set (endsE es m).2.1.toNat (g S.d (endsE es m).1.toNat + (endsE es m).2.2)) = upd (g S.d) (acAt es m).v (g S.d (acAt es m).u + (acAt es m).c) := g_set (by rw [h.ld]; exact hv) _
    have hgb : g (S.b.set (endsE es m).2.1.toNat (m : Int)) = upd (g S.b) (acAt es m).v (m : Int) := g_set (by rw [h.lb]; exact hv) _
    have hmo : ∀ w, upd (g S.d) (acAt es m).v (g S.d (acAt es m).u + (acAt es m).c) w ≤ g S.d w := fun w => by
      unfold upd; split
      · rename_i e; subst e; exact Int.le_of_lt hc1
      · omega
    refine ⟨by rw [List.length_set]; exact h.ld, by rw [List.length_set]; exact h.lb, fun v hv' => by dsimp only; rw [hg]; exact Int.le_trans (hmo v) (h.low v hv'), fun v x y hw hv' hy => by dsimp only; rw [hg]; exact Int.le_trans (hmo v) (h.le v x y hw hv' hy), fun k hk hA x y hw hy => ?_, fun v hv' => ?_, fun v L k hv' hk hch => ?_⟩
    · dsimp only
      rw [hg]
      by_cases e : k = m
      · subst e
        rw [upd_same]
        have := h.le _ x y hw hu hy
        omega
      · exact Int.le_trans (hmo _) (h.now k (by omega) hA x y hw hy)
    · dsimp only
      rw [hg, hgb]
      by_cases e : (acAt es m).v = v
      · subst e
        refine .inr ⟨m, hA, by rw [upd_same], rfl, ?_⟩
        rw [upd_same]
        have := hmo (acAt es m).u; omega
      · rw [upd_ne _ _ e, upd_ne _ _ e]
        rcases h.par v hv' with q | ⟨a, q1, q2, q3, q4⟩
        · exact .inl q
        · exact .inr ⟨a, q1, q2, q3, by have := hmo (acAt es a).u; omega⟩
    · dsimp only at hch
      have := ch_step (N := N) (b := S.b) (d := g S.d) (x := (acAt es m).v) (a := m) (by rw [hgb, upd_same]) hc1 (fun w hw _ => by rw [hgb, upd_ne _ _ (fun q => hw q.symm)]) (fun w a' hw _ ha' => by
        rcases h.par w hw with q | ⟨a, q1, q2, q3, q4⟩
        · rw [q.1] at ha'; omega
        · have : a = a' := by rw [q2] at ha'; omega
          subst this
          have hn := ends_node hr q1.1
          exact ⟨q4, by unfold acAt; dsimp only; omega⟩) hu hch hv'
      rcases this with ⟨c1, _⟩ | q
      · exact h.neg v L k hv' hk c1
      · omega
  · rw [if_neg hc]
    refine ⟨h.ld, h.lb, h.low, h.le, fun k hk hA x y hw hy => ?_, h.par, h.neg⟩
    by_cases e : k = m
    · subst e
      have h1 := h.le _ x y hw hu hy
      have h2 : ¬ g S.d (acAt es k).u + (acAt es k).c < g S.d (acAt es k).v := fun q => hc ⟨q, hA.2⟩
      omega
    · exact h.now k (by omega) hA x y hw hy
theorem TI.next (h : TI es fl N r (2 * es.length) S) (l : Int) : TI es fl N (r + 1) 0 { S with l := l } := by
  refine ⟨h.ld, h.lb, h.low, fun v x y hw hv hy => ?_, fun k hk => by omega, h.par, h.neg⟩
  cases hw with
  | nil => exact h.low v hv
  | @snoc u x y a hw ha hu =>
    subst hu
    obtain ⟨k, hk, rfl⟩ := ha
    exact h.now k hk.1 hk x y hw (by omega)
end
end Go.SolveP
