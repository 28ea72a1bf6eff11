/-
  The best flow, as it is found: what stays so while ways are filled. Plain lemmas.
-/
import Derived.Test.YtacbfpgijmpilaaSA
set_option linter.unusedVariables false
set_option linter.unusedSimpArgs false
namespace Go.SolveP
open Go Go.Mem Go.NetP Go.RestP Go.CertP Go.PathP

/-! ### Numbers made anew -/
def relaxA (es : List Ed) (fl : List Int) (pot : List Int) (a : Nat) : List Int :=
  if g pot (endsE es a).1.toNat + (endsE es a).2.2 < g pot (endsE es a).2.1.toNat ∧ 0 < roomE es fl a then pot.set (endsE es a).2.1.toNat (g pot (endsE es a).1.toNat + (endsE es a).2.2) else pot
def roundA (es : List Ed) (fl : List Int) (m : Nat) (pot : List Int) : List Int := (List.range m).foldl (relaxA es fl) pot
def anewK (es : List Ed) (fl : List Int) (N : Nat) : Nat → List Int
  | 0 => List.replicate N 0
  | k + 1 => roundA es fl (2 * es.length) (anewK es fl N k)
theorem roundA_succ (es : List Ed) (fl : List Int) (m : Nat) (pot : List Int) : roundA es fl (m + 1) pot = relaxA es fl (roundA es fl m pot) m := by
  unfold roundA; rw [List.range_succ, List.foldl_append]; rfl
/-- An arc with its cost. -/
structure Ac where
  u : Nat
  v : Nat
  c : Int
def acAt (es : List Ed) (a : Nat) : Ac := ⟨(endsE es a).1.toNat, (endsE es a).2.1.toNat, (endsE es a).2.2⟩
section
variable (A : Ac → Prop)
/-- A way from anywhere: where it ends, what it costs, how many arcs. -/
inductive Wy : Nat → Int → Nat → Prop
  | nil (s : Nat) : Wy s 0 0
  | snoc {u : Nat} {x : Int} {y : Nat} {a : Ac} : Wy u x y → A a → a.u = u → Wy a.v (x + a.c) (y + 1)
/-- A way whose nodes all have numbers that are as low. -/
inductive GY (d : Nat → Int) : Nat → Int → List Nat → Prop
  | nil {s : Nat} : d s ≤ 0 → GY d s 0 [s]
  | snoc {u : Nat} {x : Int} {P : List Nat} {a : Ac} : GY d u x P → A a → a.u = u → a.v ∉ P → d a.v ≤ x + a.c → GY d a.v (x + a.c) (a.v :: P)
end
section
variable {A : Ac → Prop} {N : Nat} {p d d' : Nat → Int}
theorem GY.mono (hm : ∀ v, d' v ≤ d v) {v : Nat} {x : Int} {P : List Nat} (h : GY A d v x P) : GY A d' v x P := by
  induction h with
  | nil hs => exact .nil (Int.le_trans (hm _) hs)
  | snoc _ ha hu hn hl ih => exact .snoc ih ha hu hn (Int.le_trans (hm _) hl)
theorem GY.wy {v : Nat} {x : Int} {P : List Nat} (h : GY A d v x P) : Wy A v x (P.length - 1) := by
  induction h with
  | nil _ => exact .nil _
  | @snoc u x P a hg ha hu _ _ ih =>
    have : 0 < P.length := by cases hg <;> simp
    have := ih.snoc ha hu
    rw [List.length_cons, show P.length + 1 - 1 = P.length - 1 + 1 by omega]
    exact this
theorem GY.ne {v : Nat} {x : Int} {P : List Nat} (h : GY A d v x P) : 0 < P.length := by cases h <;> simp
theorem GY.nodup {v : Nat} {x : Int} {P : List Nat} (h : GY A d v x P) : P.Nodup := by
  induction h with
  | nil _ => simp
  | snoc _ _ _ hn _ ih => exact List.nodup_cons.2 ⟨hn, ih⟩
theorem GY.nodes (hA : ∀ a, A a → a.u < N ∧ a.v < N) {v : Nat} {x : Int} {P : List Nat} (h : GY A d v x P) (hv : v < N) : ∀ w ∈ P, w < N := by
  induction h with
  | nil _ => intro w hw; simp at hw; subst hw; exact hv
  | snoc _ ha hu _ _ ih =>
    intro w hw
    rcases List.mem_cons.1 hw with rfl | hw
    · exact hv
    · exact ih (by rw [← hu]; exact (hA _ ha).1) w hw
/-- Its nodes' numbers, less those of numbers that fit, are no greater than its end's. -/
theorem GY.mem (hp : ∀ a, A a → 0 ≤ a.c + p a.u - p a.v) {v : Nat} {x : Int} {P : List Nat} (h : GY A d v x P) : ∀ w ∈ P, d w - p w ≤ x - p v := by
  induction h with
  | nil hs => intro w hw; simp at hw; subst hw; omega
  | @snoc u x P a _ ha hu hn hl ih =>
    intro w hw
    have h1 := hp _ ha
    rcases List.mem_cons.1 hw with rfl | hw
    · omega
    · have h2 := ih w hw
      rw [hu] at h1
      omega
/-- Each number is that of a way. -/
def RealY (A : Ac → Prop) (N : Nat) (d : Nat → Int) : Prop := ∀ v, v < N → ∃ P, GY A d v (d v) P
theorem RealY.relax (hA : ∀ a, A a → a.u < N ∧ a.v < N) (hp : ∀ a, A a → 0 ≤ a.c + p a.u - p a.v) (h : RealY A N d) {a : Ac} (ha : A a) (hb : d a.u + a.c < d a.v) : RealY A N (upd d a.v (d a.u + a.c)) := by
  have hm : ∀ w, upd d a.v (d a.u + a.c) w ≤ d w := fun w => by
    unfold upd; split
    · rename_i e; subst e; omega
    · omega
  obtain ⟨P, hP⟩ := h a.u (hA a ha).1
  have hn : a.v ∉ P := fun hmem => by
    have h1 := hP.mem hp _ hmem
    have h2 := hp a ha
    omega
  intro v hv
  by_cases e : a.v = v
  · subst e
    rw [upd_same]
    exact ⟨a.v :: P, .snoc (hP.mono hm) ha rfl hn (by rw [upd_same]; omega)⟩
  · rw [upd_ne _ _ e]
    obtain ⟨Q, hQ⟩ := h v hv
    exact ⟨Q, hQ.mono hm⟩
theorem RealY.len (hA : ∀ a, A a → a.u < N ∧ a.v < N) (h : RealY A N d) {v : Nat} (hv : v < N) : ∃ y, y + 1 ≤ N ∧ Wy A v (d v) y := by
  obtain ⟨P, hP⟩ := h v hv
  have h1 := nodup_le N P hP.nodup (hP.nodes hA hv)
  have h2 := hP.ne
  exact ⟨P.length - 1, by omega, hP.wy⟩
theorem Wy.cost (hc : ∀ a, A a → -1000 ≤ a.c) {v : Nat} {x : Int} {y : Nat} (h : Wy A v x y) : -(1000 * (y : Int)) ≤ x := by
  induction h with
  | nil => omega
  | snoc _ ha _ ih => have := hc _ ha; omega
end
/-- In a round, behind some arcs. -/
structure AN (A : Nat → Prop) (es : List Ed) (N : Nat) (r m : Nat) (d : List Int) : Prop where
  len : d.length = N
  real : RealY (fun a => ∃ k, A k ∧ a = acAt es k) N (g d)
  low : ∀ v, v < N → g d v ≤ 0
  le : ∀ v x y, Wy (fun a => ∃ k, A k ∧ a = acAt es k) v x y → v < N → y ≤ r → g d v ≤ x
  now : ∀ k, k < m → A k → ∀ x y, Wy (fun a => ∃ k, A k ∧ a = acAt es k) (acAt es k).u x y → y ≤ r → g d (acAt es k).v ≤ x + (acAt es k).c
section
variable {es : List Ed} {fl : List Int} {N r m : Nat} {d p : List Int}
def hasA (es : List Ed) (fl : List Int) (k : Nat) : Prop := k < 2 * es.length ∧ 0 < roomE es fl k
theorem hasA_node (hr : rightB N es = true) (a : Ac) (ha : ∃ k, hasA es fl k ∧ a = acAt es k) : (a.u < N ∧ a.v < N) ∧ -1000 ≤ a.c ∧ a.c ≤ 1000 := by
  obtain ⟨k, ⟨h1, h2⟩, rfl⟩ := ha
  obtain ⟨e1, e2, e3, e4⟩ := ends_node hr h1
  unfold acAt
  dsimp only
  omega
theorem hasA_fit (hr : rightB N es = true) (ht : tightB es fl p = true) (a : Ac) (ha : ∃ k, hasA es fl k ∧ a = acAt es k) : 0 ≤ a.c + g p a.u - g p a.v := by
  obtain ⟨k, ⟨h1, h2⟩, rfl⟩ := ha
  exact tight_at ht h1 h2
theorem AN.start : AN (hasA es fl) es N 0 0 (List.replicate N 0) := by
  have hz : ∀ v, v < N → g (List.replicate N 0) v = 0 := fun v hv => by
    unfold g; rw [List.getD_eq_getElem?_getD, List.getElem?_replicate, if_pos hv]; rfl
  refine ⟨by simp, fun v hv => ?_, fun v hv => by rw [hz v hv]; omega, fun v x y h hv hy => ?_, fun k hk => by omega⟩
  · rw [hz v hv]
    exact ⟨[v], .nil (by rw [hz v hv]; omega)⟩
  · cases h with
    | nil => rw [hz v hv]; omega
    | snoc => omega
theorem AN.step (hr : rightB N es = true) (ht : tightB es fl p = true) (h : AN (hasA es fl) es N r m d) (hm : m < 2 * es.length) : AN (hasA es fl) es N r (m + 1) (relaxA es fl d m) := by
  obtain ⟨e1, e2, e3, e4⟩ := ends_node hr hm
  have hv : (acAt es m).v < N := by unfold acAt; dsimp only; omega
  unfold relaxA
  by_cases hc : g d (endsE es m).1.toNat + (endsE es m).2.2 < g d (endsE es m).2.1.toNat ∧ 0 < roomE es fl m
  · rw [if_pos hc]
    have ha : ∃ k, hasA es fl k ∧ acAt es m = acAt es k := ⟨m, ⟨hm, hc.2⟩, rfl⟩
    have hre := h.real.relax (p := g p) (fun a ha => (hasA_node hr a ha).1) (fun a ha => hasA_fit hr ht a ha) ha hc.1
    have hg : g (d.set (endsE es m).2.1.toNat (g d (endsE es m).1.toNat + (endsE es m).2.2)) = upd (g d) (acAt es m).v (g d (acAt es m).u + (acAt es m).c) := g_set (by rw [h.len]; exact hv) _
    have hmo : ∀ w, upd (g d) (acAt es m).v (g d (acAt es m).u + (acAt es m).c) w ≤ g d w := fun w => by
      unfold upd; split
      · rename_i e; subst e; exact Int.le_of_lt hc.1
      · omega
    refine ⟨by rw [List.length_set]; exact h.len, by rw [hg]; exact hre, fun v hv' => by rw [hg]; exact Int.le_trans (hmo v) (h.low v hv'), fun v x y hw hv' hy => by rw [hg]; exact Int.le_trans (hmo v) (h.le v x y hw hv' hy), fun k hk hA x y hw hy => ?_⟩
    rw [hg]
    by_cases e : k = m
    · subst e
      rw [upd_same]
      have hu : (acAt es k).u < N := by unfold acAt; dsimp only; omega
      have := h.le _ x y hw hu hy
      omega
    · exact Int.le_trans (hmo _) (h.now k (by omega) hA x y hw hy)
  · rw [if_neg hc]
    refine ⟨h.len, h.real, h.low, h.le, fun k hk hA x y hw hy => ?_⟩
    by_cases e : k = m
    · subst e
      have hu : (acAt es k).u < N := by unfold acAt; dsimp only; omega
      have h1 := h.le _ x y hw hu hy
      have h2 : ¬ g d (acAt es k).u + (acAt es k).c < g d (acAt es k).v := fun q => hc ⟨q, hA.2⟩
      omega
    · exact h.now k (by omega) hA x y hw hy
theorem AN.next (hr : rightB N es = true) (h : AN (hasA es fl) es N r (2 * es.length) d) : AN (hasA es fl) es N (r + 1) 0 d := by
  refine ⟨h.len, h.real, h.low, fun v x y hw hv hy => ?_, fun k hk => by omega⟩
  cases hw with
  | nil => exact h.low v hv
  | @snoc u x y a hw ha hu =>
    subst hu
    obtain ⟨k, hk, rfl⟩ := ha
    exact h.now k hk.1 hk x y hw (by omega)
theorem AN.all (hr : rightB N es = true) (ht : tightB es fl p = true) : ∀ k, AN (hasA es fl) es N k 0 (anewK es fl N k)
  | 0 => AN.start
  | k + 1 => by
    have h0 := AN.all hr ht k
    have : ∀ m, m ≤ 2 * es.length → AN (hasA es fl) es N k m (roundA es fl m (anewK es fl N k)) := by
      intro m
      induction m with
      | zero => intro _; exact h0
      | succ m ih => intro hm; rw [roundA_succ]; exact (ih (by omega)).step hr ht (by omega)
    exact (this _ (Nat.le_refl _)).next hr
/-- Numbers that are made anew fit. -/
theorem anew_fit (hr : rightB N es = true) (ht : tightB es fl p = true) : (anewK es fl N N).length = N ∧ tightB es fl (anewK es fl N N) = true ∧ ∀ v, v < N → -40000 ≤ g (anewK es fl N N) v ∧ g (anewK es fl N N) v ≤ 0 := by
  have h := AN.all (fl := fl) hr ht N
  obtain ⟨hn1, hn40, _⟩ := right_cap hr
  refine ⟨h.len, ?_, fun v hv => ?_⟩
  · unfold tightB
    refine List.all_eq_true.2 fun k hk => ?_
    have hk := List.mem_range.1 hk
    unfold tightS
    by_cases h0 : 0 < roomE es fl k
    · obtain ⟨e1, e2, e3, e4⟩ := ends_node hr hk
      have ha : ∃ j, hasA es fl j ∧ acAt es k = acAt es j := ⟨k, ⟨hk, h0⟩, rfl⟩
      have hu : (acAt es k).u < N := by unfold acAt; dsimp only; omega
      have hv : (acAt es k).v < N := by unfold acAt; dsimp only; omega
      obtain ⟨y, hy, hw⟩ := h.real.len (fun a ha => (hasA_node hr a ha).1) hu
      have := h.le _ _ _ (hw.snoc ha rfl) hv (by omega)
      have h2 : 0 ≤ lenA es (anewK es fl N N) k := by
        show 0 ≤ (acAt es k).c + g (anewK es fl N N) (acAt es k).u - g (anewK es fl N N) (acAt es k).v
        omega
      rw [decide_eq_false (by omega)]
      rfl
    · rw [decide_eq_false h0, Bool.and_false]
      rfl
  · obtain ⟨y, hy, hw⟩ := h.real.len (fun a ha => (hasA_node hr a ha).1) hv
    have := hw.cost (fun a ha => (hasA_node hr a ha).2.1)
    have := h.low v hv
    omega
/-- In the midst of the making: what numbers may be. -/
theorem anew_mid (hr : rightB N es = true) (ht : tightB es fl p = true) (k m : Nat) (hm : m ≤ 2 * es.length) : (roundA es fl m (anewK es fl N k)).length = N ∧ ∀ v, v < N → -40000 ≤ g (roundA es fl m (anewK es fl N k)) v ∧ g (roundA es fl m (anewK es fl N k)) v ≤ 0 := by
  obtain ⟨hn1, hn40, _⟩ := right_cap hr
  have h0 := AN.all (fl := fl) hr ht k
  have : ∀ m, m ≤ 2 * es.length → AN (hasA es fl) es N k m (roundA es fl m (anewK es fl N k)) := by
    intro m
    induction m with
    | zero => intro _; exact h0
    | succ m ih => intro hm; rw [roundA_succ]; exact (ih (by omega)).step hr ht (by omega)
  have h := this m hm
  refine ⟨h.len, fun v hv => ?_⟩
  obtain ⟨y, hy, hw⟩ := h.real.len (fun a ha => (hasA_node hr a ha).1) hv
  have := hw.cost (fun a ha => (hasA_node hr a ha).2.1)
  have := h.low v hv
  omega
end
def bigB (x : Int) : Bool := decide (x < -1073741824) || decide (1073741824 < x)
/-- .. if one got too great. -/
def narrowF (es : List Ed) (fl pot : List Int) (N : Nat) : List Int := if pot.any bigB then anewK es fl N N else pot
end Go.SolveP
