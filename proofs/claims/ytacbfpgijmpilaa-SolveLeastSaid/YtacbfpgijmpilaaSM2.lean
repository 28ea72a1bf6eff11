/-
  A turn that costs less than 0: it is come to. Plain lemmas.
-/
import Derived.Test.YtacbfpgijmpilaaSM
set_option linter.unusedVariables false
set_option linter.unusedSimpArgs false
namespace Go.SolveP
open Go Go.Mem Go.NetP Go.RestP Go.CertP Go.PathP
/-- Of more numbers than there are, two are the same. -/
theorem twice_one (p : Nat → Nat) (N : Nat) (h : ∀ k, k ≤ N → p k < N) : ∃ i j, i < j ∧ j ≤ N ∧ p i = p j := by
  rcases Classical.em (∃ i j, i < j ∧ j ≤ N ∧ p i = p j) with q | q
  · exact q
  · exfalso
    have hnd : ((List.range (N + 1)).map p).Nodup := by
      rw [List.nodup_iff_pairwise_ne, List.pairwise_map]
      refine List.Pairwise.imp_of_mem ?_ (List.pairwise_lt_range (n := N + 1))
      intro a b _ hb hab e
      exact q ⟨a, b, hab, by have := List.mem_range.1 hb; omega, e⟩
    have := nodup_le N _ hnd fun x hx => by
      obtain ⟨k, hk, rfl⟩ := List.mem_map.1 hx
      exact h k (by have := List.mem_range.1 hk; omega)
    simp at this
    omega
section
variable {es : List Ed} {b : List Int} {l : Nat}
theorem parN_same {i j : Nat} (h : parN es b l i = parN es b l j) (k : Nat) : parN es b l (i + k) = parN es b l (j + k) := by
  rw [parN_add, parN_add, h]
/-- A first one of its kind. -/
theorem first_one (P : Nat → Prop) : ∀ n, P n → ∃ k, k ≤ n ∧ P k ∧ ∀ j, j < k → ¬ P j
  | 0, h => ⟨0, Nat.le_refl _, h, fun j hj => by omega⟩
  | n + 1, h => by
    rcases Classical.em (∃ k, k ≤ n ∧ P k) with ⟨k, h1, h2⟩ | q
    · obtain ⟨k', a, b, c⟩ := first_one P k h2
      exact ⟨k', by omega, b, c⟩
    · exact ⟨n + 1, Nat.le_refl _, h, fun j hj hp => q ⟨j, by omega, hp⟩⟩
termination_by n => n
decreasing_by omega
end
section
variable {es : List Ed} {fl : List Int} {N m : Nat} {S : TS}
/-- **The turn**: from the node that the way back comes to behind N steps it comes round, first behind q steps, over arcs with room, and costs less than 0. -/
theorem TI.turn (hr : rightB N es = true) (h : TI es fl N N m S) {l : Nat} (hl : l < N) (hw : ∀ x y, Wy (fun a => ∃ k, hasA es fl k ∧ a = acAt es k) l x y → y ≤ N → g S.d l < x) :
    ∃ u q, u = parN es S.b l N ∧ u < N ∧ 0 < q ∧ q ≤ N ∧ parN es S.b u q = u ∧ (∀ i, 0 < i → i < q → parN es S.b u i ≠ u) ∧
      (∀ i, parN es S.b u i < N ∧ ∃ a : Nat, hasA es fl a ∧ g S.b (parN es S.b u i) = a ∧ (acAt es a).v = parN es S.b u i ∧ (acAt es a).u = parN es S.b u (i + 1)) ∧ ∀ L, CH es S.b u u L q → L < 0 := by
  have hb := h.back hr hl hw
  obtain ⟨i, j, hij, hjN, he⟩ := twice_one (parN es S.b l) N fun k hk => (hb k hk).2.1
  have hper : ∀ k, parN es S.b l (i + k) = parN es S.b l (j + k) := fun k => parN_same he k
  -- every place of the way back is one of the first
  have hall : ∀ k, ∃ k', k' ≤ N ∧ parN es S.b l k = parN es S.b l k' := by
    intro k
    induction k using Nat.strongRecOn with
    | ind k ih =>
      rcases Nat.lt_or_ge k (j + 1) with q | q
      · exact ⟨k, by omega, rfl⟩
      · obtain ⟨k', h1, h2⟩ := ih (i + (k - j)) (by omega)
        refine ⟨k', h1, ?_⟩
        rw [← h2, hper (k - j), show j + (k - j) = k by omega]
  have hgood : ∀ k, parN es S.b l k < N ∧ ∃ a : Nat, hasA es fl a ∧ g S.b (parN es S.b l k) = a ∧ (acAt es a).v = parN es S.b l k ∧ (acAt es a).u = parN es S.b l (k + 1) := by
    intro k
    obtain ⟨k', h1, h2⟩ := hall k
    obtain ⟨_, h3, a, h4, h5, h6⟩ := hb k' h1
    rw [← h2] at h3 h5 h6
    refine ⟨h3, a, h4, h5, h6, ?_⟩
    show _ = parE es S.b _
    unfold parE; rw [h5]; simp
  obtain ⟨u, hu⟩ : ∃ u, u = parN es S.b l N := ⟨_, rfl⟩
  have hround : parN es S.b u (j - i) = u := by
    have := hper (N - i)
    rw [show i + (N - i) = N by omega, show j + (N - i) = N + (j - i) by omega, parN_add, ← hu] at this
    exact this.symm
  obtain ⟨q, q1, ⟨q2, q3⟩, q4⟩ := first_one (fun k => 0 < k ∧ parN es S.b u k = u) (j - i) ⟨by omega, hround⟩
  have hun : u < N := by rw [hu]; exact (hgood N).1
  refine ⟨u, q, hu, hun, q2, by omega, q3, fun i' h1 h2 e => q4 i' h2 ⟨h1, e⟩, fun i' => ?_, fun L hL => h.neg u L q hun q2 hL⟩
  have := hgood (N + i')
  rw [parN_add, ← hu, Nat.add_assoc, parN_add, ← hu] at this
  exact this
end
end Go.SolveP
