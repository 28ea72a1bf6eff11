/-
  A turn that costs less than 0: where the way back leads. Plain lemmas.
-/
import Derived.Test.YtacbfpgijmpilaaSL
set_option linter.unusedVariables false
set_option linter.unusedSimpArgs false
namespace Go.SolveP
open Go Go.Mem Go.NetP Go.RestP Go.CertP Go.PathP
/-- What is known of the node that was lowered last in this round. -/
def TL (es : List Ed) (fl : List Int) (N r : Nat) (S : TS) : Prop :=
  S.l = -1 ∨ ∃ v : Nat, v < N ∧ S.l = v ∧ ∀ x y, Wy (fun a => ∃ k, hasA es fl k ∧ a = acAt es k) v x y → y ≤ r → g S.d v < x
section
variable {es : List Ed} {fl : List Int} {N r m : Nat} {S : TS}
theorem TL.step (hr : rightB N es = true) (h : TI es fl N r m S) (hl : TL es fl N r S) (hm : m < 2 * es.length) : TL es fl N r (relaxT es fl S m) := by
  obtain ⟨e1, e2, e3, e4⟩ := ends_node hr hm
  have hv : (acAt es m).v < N := by unfold acAt; dsimp only; omega
  unfold relaxT
  by_cases hc : g S.d (endsE es m).1.toNat + (endsE es m).2.2 < g S.d (endsE es m).2.1.toNat ∧ 0 < roomE es fl m
  · rw [if_pos hc]
    have hg : g (S.d.set (endsE es m).2.1.toNat (g S.d (endsE es m).1.toNat + (endsE es m).2.2)) = upd (g S.d) (acAt es m).v (g S.d (acAt es m).u + (acAt es m).c) := g_set (by rw [h.ld]; exact hv) _
    have hc1 : g S.d (acAt es m).u + (acAt es m).c < g S.d (acAt es m).v := hc.1
    refine .inr ⟨(acAt es m).v, hv, ?_, fun x y hw hy => ?_⟩
    · unfold acAt; dsimp only; omega
    · dsimp only
      rw [hg, upd_same]
      have := h.le _ x y hw hv hy
      omega
  · rw [if_neg hc]; exact hl
/-- Back from a node, one step. -/
def parE (es : List Ed) (b : List Int) (v : Nat) : Nat := (acAt es (g b v).toNat).u
def parN (es : List Ed) (b : List Int) (v : Nat) : Nat → Nat
  | 0 => v
  | k + 1 => parE es b (parN es b v k)
theorem parN_add (es : List Ed) (b : List Int) (v i : Nat) : ∀ k, parN es b v (i + k) = parN es b (parN es b v i) k
  | 0 => rfl
  | k + 1 => by rw [← Nat.add_assoc]; show parE es b _ = parE es b _; rw [parN_add es b v i k]
theorem CH.snoc {b : List Int} {v u a : Nat} {L : Int} {k : Nat} (h : CH es b v u L k) (ha : g b u = a) : CH es b v (acAt es a).u (L + (acAt es a).c) (k + 1) := by
  induction h with
  | nil v => have := CH.cons (es := es) ha (CH.nil _); simpa using this
  | @cons v u a' L k hb _ ih =>
    have := CH.cons hb (ih ha)
    rw [show L + (acAt es a').c + (acAt es a).c = L + (acAt es a).c + (acAt es a').c by omega]
    exact this
/-- A way back is a way, and the numbers fall along it. -/
theorem TI.chain (hr : rightB N es = true) (h : TI es fl N r m S) {v u : Nat} {L : Int} {k : Nat} (hc : CH es S.b v u L k) : v < N → Wy (fun a => ∃ k, hasA es fl k ∧ a = acAt es k) v L k ∧ g S.d u + L ≤ g S.d v ∧ u < N := by
  induction hc with
  | nil v => intro hv; exact ⟨.nil v, by omega, hv⟩
  | @cons v u a L k ha _ ih =>
    intro hv
    rcases h.par v hv with q | ⟨a', q1, q2, q3, q4⟩
    · rw [q.1] at ha; omega
    · have : a' = a := by rw [q2] at ha; omega
      subst this
      have hn := ends_node hr q1.1
      obtain ⟨i1, i2, i3⟩ := ih (by unfold acAt; dsimp only; omega)
      have := Wy.snoc i1 ⟨a', q1, rfl⟩ rfl
      rw [q3] at this
      exact ⟨this, by omega, i3⟩
/-- The way back does not end. -/
theorem TI.back (hr : rightB N es = true) (h : TI es fl N r m S) {l : Nat} (hl : l < N) (hw : ∀ x y, Wy (fun a => ∃ k, hasA es fl k ∧ a = acAt es k) l x y → y ≤ r → g S.d l < x) : ∀ k, k ≤ r → (∃ L, CH es S.b l (parN es S.b l k) L k) ∧ parN es S.b l k < N ∧ ∃ a : Nat, hasA es fl a ∧ g S.b (parN es S.b l k) = a ∧ (acAt es a).v = parN es S.b l k := by
  have key : ∀ k, k ≤ r → ∀ u L, CH es S.b l u L k → u < N ∧ ∃ a : Nat, hasA es fl a ∧ g S.b u = a ∧ (acAt es a).v = u := by
    intro k hk u L hc
    obtain ⟨c1, c2, c3⟩ := h.chain hr hc hl
    refine ⟨c3, ?_⟩
    rcases h.par u c3 with q | ⟨a, q1, q2, q3, q4⟩
    · have := hw L k c1 hk
      omega
    · exact ⟨a, q1, q2, q3⟩
  intro k
  induction k with
  | zero => intro _; exact ⟨⟨0, .nil l⟩, key 0 (by omega) l 0 (.nil l)⟩
  | succ k ih =>
    intro hk
    obtain ⟨⟨L, hc⟩, _, a, q1, q2, q3⟩ := ih (by omega)
    have hc2 := hc.snoc q2
    have e : parN es S.b l (k + 1) = (acAt es a).u := by show parE es S.b _ = _; unfold parE; rw [q2]; simp
    rw [e]
    exact ⟨⟨_, hc2⟩, key (k + 1) hk _ _ hc2⟩
end
end Go.SolveP
