/-
  What follows of the shortest ways: plain laws.
-/
import Derived.Test.YtfafecgnjjkagaaPPlain4
namespace Go.PathP
open Go Go.Mem Go.NetP Go.RestP Go.CertP

section
variable {A : List Ar} {src src' : Nat → Prop} {N : Nat} {M : Int} {D B D' B' : List Int}
theorem Walk.mono (hs : ∀ s, src s → src' s) {v : Nat} {x y : Int} (p : Walk A src v x y) : Walk A src' v x y := by
  induction p with
  | nil q => exact .nil (hs _ q)
  | snoc _ ha hu ih => exact .snoc ih ha hu
theorem Walk.pos (hN : Net A src N M) {v : Nat} {x y : Int} (p : Walk A src v x y) : 0 ≤ x ∧ 0 ≤ y := by
  induction p with
  | nil => omega
  | snoc _ ha _ ih => have := hN.l0 _ ha; omega
theorem Walk.zero (hN : Net A src N M) {v : Nat} {x y : Int} (p : Walk A src v x y) (hy : y = 0) : x = 0 ∧ src v := by
  cases p with
  | nil q => exact ⟨rfl, q⟩
  | snoc q _ _ => have := q.pos hN; omega
/-- What is known of each node. -/
structure WH (A : List Ar) (src : Nat → Prop) (N : Nat) (D H B : List Int) : Prop where
  low : ∀ v, v < N → -1 ≤ g D v
  hop : ∀ v, v < N → 0 ≤ g H v ∧ g H v + 1 ≤ N
  no : ∀ v, v < N → g D v = -1 → g H v = 0 ∧ g B v = -1
  src_ : ∀ s, s < N → src s → g D s = 0 ∧ g B s = -1
  arc : ∀ a ∈ A, 0 ≤ g D a.u → 0 ≤ g D a.v ∧ g D a.v ≤ g D a.u + a.len
  none_ : ∀ v, v < N → g B v < 0 → g D v ≤ 0 ∧ g B v = -1
  some_ : ∀ v, v < N → 0 ≤ g B v → ∃ a ∈ A, g B v = a.k ∧ a.v = v ∧ 0 ≤ g D a.u ∧ 0 ≤ g D v ∧ g D v = g D a.u + a.len ∧ g H a.u + 1 = g H v
  max : ∀ v, v < N → ∀ M', (∀ a ∈ A, a.len ≤ M') → 0 ≤ M' → g D v ≤ 39 * M' ∨ 40 < N
theorem WS.wh (h : WS A src N M D B) (hN : 0 < N) : ∃ H : List Int, WH A src N D H B := by
  obtain ⟨H, lH, hr, hl, hb⟩ := h.lab
  have hn := h.net
  have hpos := fun v (hv : v < N) => hr.pos hn hv
  refine ⟨H, fun v hv => ?_, fun v hv => ?_, fun v hv h1 => ?_, fun s hs hss => ?_, fun a ha h0 => ?_, fun v hv hbv => ?_, fun v hv hbv => ?_, fun v hv M' hM h0 => ?_⟩
  · rcases hpos v hv with q | q <;> omega
  · rcases hpos v hv with q | q <;> omega
  · have hz : g H v = 0 := by rcases hpos v hv with q | q <;> omega
    exact ⟨hz, (hb v hv).eq (by_zero hz)⟩
  · have h1 := hl.least s 0 0 (.nil hss)
    unfold LE at h1
    have hz : g H s = 0 := by rcases hpos s hs with q | q <;> omega
    exact ⟨by omega, (hb s hs).eq (by_zero hz)⟩
  · rcases hl.real a.u (hn.u a ha) with q | ⟨_, q⟩
    · omega
    · have := hl.least _ _ _ (.snoc q ha rfl)
      unfold LE at this; omega
  · rcases hb v hv with ⟨e, q⟩ | ⟨a, _, _, e, _⟩
    · refine ⟨?_, e⟩
      rcases hl.real v hv with p | ⟨p0, p⟩
      · omega
      · obtain ⟨X, hX⟩ : ∃ X, X = g D v := ⟨_, rfl⟩
        obtain ⟨Y, hY⟩ : ∃ Y, Y = g H v := ⟨_, rfl⟩
        rw [← hX, ← hY] at p
        cases p with
        | nil _ => omega
        | @snoc u x y a p ha hu =>
          subst hu
          have h1 := hl.least _ _ _ p
          have hu := hn.u a ha
          rcases hl.real a.u hu with r | ⟨_, r⟩
          · unfold LE at h1; omega
          · have h2 := hl.least _ _ _ (.snoc r ha rfl)
            have hp := p.pos hn
            unfold LE at h1 h2
            have : byC D H a.v a = true := byC_iff.2 ⟨rfl, h1.1, by omega, by omega, by omega⟩
            rw [q a ha] at this; cases this
    · omega
  · rcases hb v hv with ⟨e, q⟩ | ⟨a, ha, hc, e, _⟩
    · omega
    · obtain ⟨c1, c2, c3, c4, c5⟩ := byC_iff.1 hc
      have := hn.l0 a ha
      exact ⟨a, ha, e, c1, c2, by omega, by omega, c5⟩
  · rcases hr v hv with p | ⟨p0, P, p⟩
    · exact .inl (by omega)
    · have hN' : Net A src N M' := ⟨hn.u, hn.v, hn.l0, hM, hn.s⟩
      obtain ⟨q1, q2, q3, q4⟩ := p.bound hN'
      by_cases h40 : 40 < N
      · exact .inr h40
      · refine .inl ?_
        have : g H v * M' ≤ 39 * M' := Int.mul_le_mul_of_nonneg_right (by omega) h0
        omega
/-- From more nodes nothing is farther. -/
theorem WS.more (h : WS A src N M D B) (h' : WS A src' N M D' B') (hs : ∀ s, src s → src' s) {v : Nat} (hv : v < N) (h0 : 0 ≤ g D v) : 0 ≤ g D' v ∧ g D' v ≤ g D v := by
  obtain ⟨H, _, _, hl, _⟩ := h.lab
  obtain ⟨H', _, _, hl', _⟩ := h'.lab
  rcases hl.real v hv with q | ⟨_, q⟩
  · omega
  · have := hl'.least _ _ _ (q.mono hs)
    unfold LE at this; omega
end
/-- The greatest of some numbers, and 0. -/
def mostN (D : List Int) (k : Nat) : Int := (D.take k).foldl max 0
theorem mostN_succ {D : List Int} {k : Nat} (hk : k < D.length) : mostN D (k + 1) = max (mostN D k) (g D k) := by
  unfold mostN g
  rw [List.take_succ_eq_append_getElem hk, List.foldl_append]
  simp [hk]
theorem mostN_le (D : List Int) : ∀ k, k ≤ D.length → 0 ≤ mostN D k ∧ ∀ v, v < k → g D v ≤ mostN D k
  | 0, _ => ⟨by simp [mostN], fun v hv => by omega⟩
  | k + 1, hk => by
    obtain ⟨h1, h2⟩ := mostN_le D k (by omega)
    rw [mostN_succ (by omega)]
    refine ⟨by omega, fun v hv => ?_⟩
    by_cases e : v = k
    · subst e; omega
    · have := h2 v (by omega); omega
theorem mostN_bound (D : List Int) (X : Int) (h0 : 0 ≤ X) (h : ∀ v, v < D.length → g D v ≤ X) : ∀ k, k ≤ D.length → mostN D k ≤ X
  | 0, _ => by simp [mostN]; exact h0
  | k + 1, hk => by
    have h1 := mostN_bound D X h0 h k (by omega)
    have := h k (by omega)
    rw [mostN_succ (by omega)]; omega
/-- Numbers raised by the ways' lengths: those of the first k nodes. -/
def raise (pot D : List Int) (m : Int) (v : Nat) : Int := g pot v + if g D v < 0 then m else g D v
def raiseK (pot D : List Int) (m : Int) (k : Nat) : List Int := (List.range pot.length).map fun v => if v < k then raise pot D m v else g pot v
theorem raiseK_len (pot D : List Int) (m : Int) (k : Nat) : (raiseK pot D m k).length = pot.length := by simp [raiseK]
theorem raiseK_at {pot D : List Int} {m : Int} {k v : Nat} (hv : v < pot.length) : g (raiseK pot D m k) v = if v < k then raise pot D m v else g pot v := by
  unfold raiseK g
  rw [List.getD_eq_getElem?_getD, List.getElem?_map, List.getElem?_range hv]
  rfl
theorem raiseK_zero (pot D : List Int) (m : Int) : raiseK pot D m 0 = pot := ext_g (raiseK_len ..) fun v hv => by
  rw [raiseK_len] at hv
  rw [raiseK_at hv, if_neg (by omega)]
theorem raiseK_succ {pot D : List Int} {m : Int} {k : Nat} (hk : k < pot.length) : (raiseK pot D m k).set k (raise pot D m k) = raiseK pot D m (k + 1) := ext_g (by simp [raiseK_len]) fun v hv => by
  have hv : v < pot.length := by simpa [raiseK_len] using hv
  rw [g_set (by rw [raiseK_len]; exact hk), raiseK_at hv]
  by_cases e : k = v
  · subst e; rw [upd_same, if_pos (by omega)]
  · rw [upd_ne _ _ e, raiseK_at hv]
    by_cases q : v < k
    · rw [if_pos q, if_pos (by omega)]
    · rw [if_neg q, if_neg (by omega)]
section
variable {N : Nat} {es : List Ed} {fl pot D B : List Int} {src : Nat → Prop}
theorem potAt_g (pot : List Int) (i : Int) : potAt pot i = g pot i.toNat := rfl
/-- Raised numbers fit. -/
theorem raise_fits (hf : fitsB N es fl pot = true) (hb : ∀ v, v < N → -1073741824 ≤ g pot v ∧ g pot v ≤ 1073741824) (h : WS (arcsL es fl pot) src N maxL D B) {m : Int} (hm : m = mostN D N) :
    fitsB N es fl (raiseK pot D m N) = true ∧ ∀ a ∈ arcsL es fl pot, 0 ≤ g D a.u → g D a.v = g D a.u + a.len → lenA es (raiseK pot D m N) a.k = 0 := by
  obtain ⟨hw, hr, hp, ht⟩ := fits_parts hf
  obtain ⟨hn1, hn40, _⟩ := right_cap hr
  have hpl : pot.length = N := by have := (pot_cap hp).1; omega
  obtain ⟨H, hh⟩ := h.wh (by omega)
  have hlenb : ∀ a ∈ arcsL es fl pot, a.len ≤ 2147484648 := fun a ha => by
    obtain ⟨k, h1, h2, rfl⟩ := arcs_mem.1 ha
    obtain ⟨e1, e2, e3, e4⟩ := ends_node hr h1
    have q1 := hb (endsE es k).1.toNat (by omega)
    have q2 := hb (endsE es k).2.1.toNat (by omega)
    show lenA es pot k ≤ _
    unfold lenA
    rw [potAt_g, potAt_g]
    omega
  have hmax : ∀ v, v < N → g D v ≤ 83751901272 := fun v hv => by
    have := hh.max v hv 2147484648 hlenb (by omega); omega
  obtain ⟨m0, m1⟩ := mostN_le D N (by rw [h.lD]; omega)
  have m2 : mostN D N ≤ 83751901272 := mostN_bound D _ (by omega) (fun v hv => hmax v (by rw [← h.lD]; exact hv)) N (by rw [h.lD]; omega)
  rw [← hm] at m0 m1 m2
  have hat : ∀ v, v < N → g (raiseK pot D m N) v = raise pot D m v := fun v hv => by rw [raiseK_at (by omega), if_pos hv]
  have hlen : ∀ k, k < 2 * es.length → ∃ u v : Nat, u < N ∧ v < N ∧ arcAt es pot k = ⟨k, u, v, lenA es pot k⟩ ∧ lenA es (raiseK pot D m N) k = lenA es pot k + (if g D u < 0 then m else g D u) - (if g D v < 0 then m else g D v) := fun k hk => by
    obtain ⟨e1, e2, e3, e4⟩ := ends_node hr hk
    refine ⟨(endsE es k).1.toNat, (endsE es k).2.1.toNat, by omega, by omega, rfl, ?_⟩
    unfold lenA
    rw [potAt_g, potAt_g, potAt_g, potAt_g, hat _ (by omega), hat _ (by omega)]
    unfold raise
    omega
  refine ⟨?_, fun a ha h0 he => ?_⟩
  · simp only [fitsB, Bool.and_eq_true]
    refine ⟨⟨hw, ?_⟩, ?_⟩
    · simp only [potB, Bool.and_eq_true, decide_eq_true_eq]
      refine ⟨List.all_eq_true.2 fun x hx => ?_, by rw [raiseK_len, hpl]⟩
      obtain ⟨v, hv, rfl⟩ := List.mem_iff_getElem.1 hx
      rw [raiseK_len, hpl] at hv
      have e := hat v hv
      have e2 : g (raiseK pot D m N) v = (raiseK pot D m N)[v]'(by rw [raiseK_len, hpl]; exact hv) := by
        unfold g; rw [List.getD_eq_getElem?_getD, List.getElem?_eq_getElem]; rfl
      rw [← e2, e, farB_iff]
      have q1 := hb v hv
      have q2 := m1 v hv
      unfold raise
      split <;> omega
    · unfold tightB
      refine List.all_eq_true.2 fun k hk => ?_
      have hk := List.mem_range.1 hk
      unfold tightS
      by_cases h0 : 0 < roomE es fl k
      · obtain ⟨u, v, hu, hv, e, q⟩ := hlen k hk
        have ha : arcAt es pot k ∈ arcsL es fl pot := arcs_mem.2 ⟨k, hk, h0, rfl⟩
        have ht0 := tight_at ht hk h0
        have := hh.arc _ ha
        rw [e] at this
        dsimp only at this
        have q1 := m1 v hv
        have : 0 ≤ lenA es (raiseK pot D m N) k := by
          rw [q]
          split <;> split <;> omega
        rw [decide_eq_false (show ¬ lenA es (raiseK pot D m N) k < 0 by omega)]
        rfl
      · rw [decide_eq_false h0, Bool.and_false]
        rfl
  · obtain ⟨k, h1, h2, rfl⟩ := arcs_mem.1 ha
    obtain ⟨u, v, hu, hv, e, q⟩ := hlen k h1
    rw [e] at h0 he ⊢
    dsimp only at h0 he ⊢
    rw [q, if_neg (by omega), if_neg (by have := hh.arc _ ha; rw [e] at this; have := (this h0).1; dsimp only at this; omega)]
    omega
end
end Go.PathP
