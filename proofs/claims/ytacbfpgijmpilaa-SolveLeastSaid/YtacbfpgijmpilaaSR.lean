/-
  The arcs of a turn: each from where the next one leads to, no two of one edge, all with room. Plain lemmas.
-/
import Derived.Test.YtacbfpgijmpilaaSM2
import Derived.Test.YtacbfpgijmpilaaSN
import Derived.Test.YtacbfpgijmpilaaSQ
set_option linter.unusedVariables false
set_option linter.unusedSimpArgs false
namespace Go.SolveP
open Go Go.Mem Go.NetP Go.RestP Go.CertP Go.PathP
def turnP (es : List Ed) (b : List Int) (u q : Nat) : List Nat := (List.range q).map fun i => (g b (parN es b u i)).toNat
theorem turnP_len (es : List Ed) (b : List Int) (u q : Nat) : (turnP es b u q).length = q := by simp [turnP]
theorem turnP_succ (es : List Ed) (b : List Int) (u q : Nat) : turnP es b u (q + 1) = turnP es b u q ++ [(g b (parN es b u q)).toNat] := by
  unfold turnP; rw [List.range_succ, List.map_append]; rfl
theorem RT_snoc {es : List Ed} {a : Nat} : ∀ (P : List Nat) (u w : Nat), RT es u P w → (acAt es a).v = w → RT es u (P ++ [a]) (acAt es a).u
  | [], u, w, h, ha => by
    have : u = w := h
    subst this
    exact ⟨ha, rfl⟩
  | b :: P, u, w, h, ha => ⟨h.1, RT_snoc P _ w h.2 ha⟩
section
variable {es : List Ed} {fl : List Int} {N q u : Nat} {b : List Int}
theorem turnP_RT (h : ∀ i, ∃ a : Nat, hasA es fl a ∧ g b (parN es b u i) = a ∧ (acAt es a).v = parN es b u i ∧ (acAt es a).u = parN es b u (i + 1)) : ∀ q, RT es u (turnP es b u q) (parN es b u q)
  | 0 => rfl
  | q + 1 => by
    obtain ⟨a, _, h2, h3, h4⟩ := h q
    rw [turnP_succ, ← h4, h2, Int.toNat_natCast]
    exact RT_snoc _ _ _ (turnP_RT h q) h3
theorem turnP_has (h : ∀ i, ∃ a : Nat, hasA es fl a ∧ g b (parN es b u i) = a ∧ (acAt es a).v = parN es b u i ∧ (acAt es a).u = parN es b u (i + 1)) : ∀ x ∈ turnP es b u q, hasA es fl x := by
  intro x hx
  obtain ⟨i, _, rfl⟩ := List.mem_map.1 hx
  obtain ⟨a, h1, h2, _⟩ := h i
  rw [h2, Int.toNat_natCast]; exact h1
theorem other_arc {es : List Ed} {x y : Nat} (hd : x / 2 = y / 2) (hn : x ≠ y) : (acAt es x).u = (acAt es y).v ∧ (acAt es x).v = (acAt es y).u ∧ (acAt es x).c = -(acAt es y).c := by
  have key : ∀ k, (acAt es (2 * k)).u = (acAt es (2 * k + 1)).v ∧ (acAt es (2 * k)).v = (acAt es (2 * k + 1)).u ∧ (acAt es (2 * k)).c = -(acAt es (2 * k + 1)).c := by
    intro k
    have o0 : oddB (2 * k) = false := by unfold oddB; simp
    have o1 : oddB (2 * k + 1) = true := by unfold oddB; simp
    have e0 : 2 * k / 2 = k := by omega
    have e1 : (2 * k + 1) / 2 = k := by omega
    unfold acAt endsE
    rw [o0, o1, e0, e1]
    simp
  obtain ⟨k, hk⟩ : ∃ k, k = x / 2 := ⟨_, rfl⟩
  obtain ⟨k1, k2, k3⟩ := key k
  rcases Nat.mod_two_eq_zero_or_one x with p | p
  · obtain rfl : x = 2 * k := by omega
    obtain rfl : y = 2 * k + 1 := by omega
    exact ⟨k1, k2, k3⟩
  · obtain rfl : x = 2 * k + 1 := by omega
    obtain rfl : y = 2 * k := by omega
    exact ⟨k2.symm, k1.symm, by omega⟩
theorem turnP_nodup (h : ∀ i, ∃ a : Nat, hasA es fl a ∧ g b (parN es b u i) = a ∧ (acAt es a).v = parN es b u i ∧ (acAt es a).u = parN es b u (i + 1)) (hq : parN es b u q = u) (hf : ∀ i, 0 < i → i < q → parN es b u i ≠ u)
    (hL : ∀ L, CH es b u u L q → L < 0) : ((turnP es b u q).map fun x => x / 2).Nodup := by
  have hinj : ∀ i j, i < j → j < q → parN es b u i ≠ parN es b u j := fun i j hij hj he => by
    have := parN_same (es := es) he (q - j)
    rw [show j + (q - j) = q by omega, hq] at this
    exact hf (i + (q - j)) (by omega) (by omega) this
  unfold turnP
  rw [List.map_map]
  unfold List.Nodup
  rw [List.pairwise_map]
  refine List.Pairwise.imp_of_mem ?_ (List.pairwise_lt_range (n := q))
  intro i j hi hj hij he
  have hi := List.mem_range.1 hi
  have hj := List.mem_range.1 hj
  obtain ⟨x, x1, x2, x3, x4⟩ := h i
  obtain ⟨y, y1, y2, y3, y4⟩ := h j
  simp only [Function.comp_apply, x2, y2, Int.toNat_natCast] at he
  have hne := hinj i j hij hj
  have hxy : x ≠ y := fun e => by subst e; exact hne (x3.symm.trans y3)
  obtain ⟨o1, o2, o3⟩ := other_arc (es := es) he hxy
  -- p j = p (i + 1), p i = p (j + 1)
  have a1 : parN es b u (i + 1) = parN es b u j := by rw [← x4, ← y3]; exact o1
  have a2 : parN es b u i = parN es b u (j + 1) := by rw [← x3, ← y4]; exact o2
  have b1 : i + 1 = j := by
    rcases Nat.lt_or_ge (i + 1) j with p | p
    · exact absurd a1 (hinj _ _ p hj)
    · omega
  have b2 : j + 1 = q := by
    rcases Nat.lt_or_ge (j + 1) q with p | p
    · exact absurd a2 (hinj _ _ (by omega) p)
    · omega
  have b3 : i = 0 := by
    rw [b2, hq] at a2
    rcases Nat.eq_zero_or_pos i with p | p
    · exact p
    · exact absurd a2 (hf i p hi)
  subst b3
  obtain rfl : j = 1 := by omega
  obtain rfl : q = 2 := by omega
  have c0 : g b u = x := x2
  have c1 : g b (acAt es x).u = y := by
    rw [x4]; exact y2
  have hc : CH es b u (acAt es y).u (0 + (acAt es y).c + (acAt es x).c) 2 := .cons c0 (.cons c1 (.nil _))
  have e : (acAt es y).u = u := by rw [y4]; exact hq
  rw [e] at hc
  have := hL _ hc
  omega
end
end Go.SolveP
