/-
  Shortest ways over arcs: labels, the least ones, by rounds and by a heap. Plain lemmas.
-/
import Derived.Test.YtfafecgnjjkagaaCPlain
namespace Go.PathP
open Go Go.Mem

/-- An arc: its number, its ends, its length. -/
structure Ar where
  k : Nat
  u : Nat
  v : Nat
  len : Int
deriving DecidableEq

section
variable (A : List Ar) (src : Nat → Prop)
/-- A way from one of some nodes. -/
inductive Walk : Nat → Int → Int → Prop
  | nil {s : Nat} : src s → Walk s 0 0
  | snoc {u : Nat} {x y : Int} {a : Ar} : Walk u x y → a ∈ A → a.u = u → Walk a.v (x + a.len) (y + 1)
/-- A node's label is as little. -/
def LE (d h : Nat → Int) (v : Nat) (x y : Int) : Prop := 0 ≤ d v ∧ (d v < x ∨ (d v = x ∧ h v ≤ y))
/-- A way whose nodes all have labels that are as little as it is there. -/
inductive GW (d h : Nat → Int) : Nat → Int → Int → List Nat → Prop
  | nil {s : Nat} : src s → LE d h s 0 0 → GW d h s 0 0 [s]
  | snoc {u : Nat} {x y : Int} {P : List Nat} {a : Ar} : GW d h u x y P → a ∈ A → a.u = u → a.v ∉ P → LE d h a.v (x + a.len) (y + 1) → GW d h a.v (x + a.len) (y + 1) (a.v :: P)
/-- The arcs are of N nodes, and have lengths up to M. -/
structure Net (N : Nat) (M : Int) : Prop where
  u : ∀ a ∈ A, a.u < N
  v : ∀ a ∈ A, a.v < N
  l0 : ∀ a ∈ A, 0 ≤ a.len
  l1 : ∀ a ∈ A, a.len ≤ M
  s : ∀ s, src s → s < N
end

section
variable {A : List Ar} {src : Nat → Prop} {N : Nat} {M : Int} {d h d' h' : Nat → Int}
theorem LE.trans {v : Nat} {x y x' y' : Int} (p : LE d h v x y) (q : x < x' ∨ (x = x' ∧ y ≤ y')) : LE d h v x' y' := by
  unfold LE at *; omega
theorem GW.mono (hm : ∀ v x y, LE d h v x y → LE d' h' v x y) {v : Nat} {x y : Int} {P : List Nat} (p : GW A src d h v x y P) : GW A src d' h' v x y P := by
  induction p with
  | nil hs hl => exact .nil hs (hm _ _ _ hl)
  | snoc _ ha hu hn hl ih => exact .snoc ih ha hu hn (hm _ _ _ hl)
theorem GW.walk {v : Nat} {x y : Int} {P : List Nat} (p : GW A src d h v x y P) : Walk A src v x y := by
  induction p with
  | nil hs _ => exact .nil hs
  | snoc _ ha hu _ _ ih => exact .snoc ih ha hu
theorem GW.label {v : Nat} {x y : Int} {P : List Nat} (p : GW A src d h v x y P) : LE d h v x y := by
  cases p with
  | nil _ hl => exact hl
  | snoc _ _ _ _ hl => exact hl
theorem GW.pos (hN : Net A src N M) {v : Nat} {x y : Int} {P : List Nat} (p : GW A src d h v x y P) : 0 ≤ x ∧ x ≤ y * M ∧ y + 1 = P.length ∧ v < N := by
  induction p with
  | nil hs _ => exact ⟨by omega, by omega, by simp, hN.s _ hs⟩
  | @snoc u x y P a _ ha hu hn hl ih =>
    have := hN.l0 _ ha
    have := hN.l1 _ ha
    have e : (y + 1) * M = y * M + M := by rw [Int.add_mul]; omega
    exact ⟨by omega, by omega, by simp; omega, hN.v _ ha⟩
theorem GW.mem (hN : Net A src N M) {v : Nat} {x y : Int} {P : List Nat} (p : GW A src d h v x y P) : ∀ w ∈ P, LE d h w x y := by
  induction p with
  | nil hs hl => intro w hw; simp at hw; subst hw; exact hl
  | @snoc u x y P a p ha hu hn hl ih =>
    intro w hw
    rcases List.mem_cons.1 hw with rfl | hw
    · exact hl
    · have := hN.l0 _ ha
      exact (ih w hw).trans (by omega)
theorem GW.nodup {v : Nat} {x y : Int} {P : List Nat} (p : GW A src d h v x y P) : P.Nodup := by
  induction p with
  | nil _ _ => simp
  | snoc _ _ _ hn _ ih => exact List.nodup_cons.2 ⟨hn, ih⟩
theorem GW.nodes (hN : Net A src N M) {v : Nat} {x y : Int} {P : List Nat} (p : GW A src d h v x y P) : ∀ w ∈ P, w < N := by
  induction p with
  | nil hs _ => intro w hw; simp at hw; subst hw; exact hN.s _ hs
  | snoc _ ha _ _ _ ih =>
    intro w hw
    rcases List.mem_cons.1 hw with rfl | hw
    · exact hN.v _ ha
    · exact ih w hw
theorem nodup_le : ∀ (n : Nat) (P : List Nat), P.Nodup → (∀ w ∈ P, w < n) → P.length ≤ n
  | 0, [], _, _ => Nat.le_refl _
  | 0, w :: _, _, h => absurd (h w List.mem_cons_self) (by omega)
  | n + 1, P, hd, h => by
    have h1 := nodup_le n (P.erase n) (hd.erase n) (fun w hw => by
      have h2 := h w (List.mem_of_mem_erase hw)
      have h3 : w ≠ n := fun e => by subst e; exact (List.Nodup.not_mem_erase hd) hw
      omega)
    have h4 := List.length_erase_le (a := n) (l := P)
    have h5 : P.length ≤ (P.erase n).length + 1 := by
      rw [List.length_erase]; split <;> omega
    omega
theorem GW.bound (hN : Net A src N M) {v : Nat} {x y : Int} {P : List Nat} (p : GW A src d h v x y P) : 0 ≤ y ∧ y + 1 ≤ N ∧ 0 ≤ x ∧ x ≤ y * M := by
  obtain ⟨h1, h2, h3, _⟩ := p.pos hN
  have := nodup_le N P p.nodup (p.nodes hN)
  have hp : 0 < P.length := by cases p <;> simp
  omega
/-- Each label is that of a way. -/
def Real (A : List Ar) (src : Nat → Prop) (N : Nat) (d h : Nat → Int) : Prop := ∀ v, v < N → (d v = -1 ∧ h v = 0) ∨ (0 ≤ d v ∧ ∃ P, GW A src d h v (d v) (h v) P)
def bet (d h : Nat → Int) (v : Nat) (x y : Int) : Bool := decide (d v = -1) || decide (x < d v) || (decide (x = d v) && decide (y < h v))
theorem bet_iff {v : Nat} {x y : Int} : bet d h v x y = true ↔ (d v = -1 ∨ x < d v ∨ (x = d v ∧ y < h v)) := by simp [bet, or_assoc]
theorem bet_no {v : Nat} {x y : Int} (hr : d v = -1 ∨ 0 ≤ d v) (hb : bet d h v x y = false) : LE d h v x y := by
  have : ¬ (d v = -1 ∨ x < d v ∨ (x = d v ∧ y < h v)) := fun q => by rw [bet_iff.2 q] at hb; cases hb
  unfold LE; omega
def upd (f : Nat → Int) (v : Nat) (x : Int) : Nat → Int := fun w => if v = w then x else f w
theorem upd_same (f : Nat → Int) (v : Nat) (x : Int) : upd f v x v = x := by simp [upd]
theorem upd_ne (f : Nat → Int) {v w : Nat} (x : Int) (h : v ≠ w) : upd f v x w = f w := by simp [upd, h]
/-- A better label leaves what was as little as little. -/
theorem upd_mono {v : Nat} {x y : Int} (hx : 0 ≤ x) (hb : bet d h v x y = true) : ∀ w p q, LE d h w p q → LE (upd d v x) (upd h v y) w p q := by
  intro w p q hl
  have hb := bet_iff.1 hb
  by_cases e : v = w
  · subst e
    unfold LE at *
    rw [upd_same, upd_same]
    omega
  · unfold LE at *
    rw [upd_ne _ _ e, upd_ne _ _ e]
    exact hl
theorem Real.pos {v : Nat} (hr : Real A src N d h) (hN : Net A src N M) (hv : v < N) : (d v = -1 ∧ h v = 0) ∨ (0 ≤ d v ∧ d v ≤ h v * M ∧ 0 ≤ h v ∧ h v + 1 ≤ N) := by
  rcases hr v hv with p | ⟨p0, P, p⟩
  · exact .inl p
  · obtain ⟨h1, h2, h3, h4⟩ := p.bound hN
    exact .inr ⟨p0, h4, h1, h2⟩
/-- A node with a better label by an arc. -/
theorem Real.relax (hN : Net A src N M) (hr : Real A src N d h) {a : Ar} (ha : a ∈ A) (h0 : 0 ≤ d a.u) (hb : bet d h a.v (d a.u + a.len) (h a.u + 1) = true) :
    Real A src N (upd d a.v (d a.u + a.len)) (upd h a.v (h a.u + 1)) := by
  have hl0 := hN.l0 _ ha
  have hx : 0 ≤ d a.u + a.len := by omega
  have hm := upd_mono hx hb
  intro v hv
  rcases hr a.u (hN.u _ ha) with p | ⟨_, P, p⟩
  · omega
  have hn : a.v ∉ P := fun hmem => by
    have := p.mem hN _ hmem
    have hb := bet_iff.1 hb
    unfold LE at this
    omega
  by_cases e : a.v = v
  · subst e
    rw [upd_same, upd_same]
    refine .inr ⟨hx, a.v :: P, .snoc (p.mono hm) ha rfl hn ?_⟩
    unfold LE
    rw [upd_same, upd_same]
    omega
  · rw [upd_ne _ _ e, upd_ne _ _ e]
    rcases hr v hv with q | ⟨q0, Q, q⟩
    · exact .inl q
    · exact .inr ⟨q0, Q, q.mono hm⟩
/-- Labels that no arc makes better are the least ones. -/
theorem fix_min (hs : ∀ s, src s → LE d h s 0 0) (hf : ∀ a ∈ A, 0 ≤ d a.u → LE d h a.v (d a.u + a.len) (h a.u + 1)) {v : Nat} {x y : Int} (p : Walk A src v x y) : LE d h v x y := by
  induction p with
  | nil q => exact hs _ q
  | @snoc u x y a _ ha hu ih =>
    subst hu
    have h1 := hf a ha ih.1
    unfold LE at ih
    exact h1.trans (by omega)
/-- The least labels. -/
structure Least (A : List Ar) (src : Nat → Prop) (N : Nat) (d h : Nat → Int) : Prop where
  real : ∀ v, v < N → (d v = -1 ∧ h v = 0) ∨ (0 ≤ d v ∧ Walk A src v (d v) (h v))
  least : ∀ v x y, Walk A src v x y → LE d h v x y
theorem Least.eq (p : Least A src N d h) (q : Least A src N d' h') {v : Nat} (hv : v < N) : d v = d' v ∧ h v = h' v := by
  rcases p.real v hv with p1 | ⟨p0, p1⟩ <;> rcases q.real v hv with q1 | ⟨q0, q1⟩
  · omega
  · have := (p.least _ _ _ q1).1; omega
  · have := (q.least _ _ _ p1).1; omega
  · have h1 := p.least _ _ _ q1
    have h2 := q.least _ _ _ p1
    unfold LE at h1 h2
    omega
theorem Real.least (hr : Real A src N d h) (hl : ∀ v x y, Walk A src v x y → LE d h v x y) : Least A src N d h :=
  ⟨fun v hv => (hr v hv).imp id fun ⟨h0, P, p⟩ => ⟨h0, p.walk⟩, hl⟩
/-- What is real, and as little as the least, is the least. -/
theorem Least.of (hN : Net A src N M) (p : Least A src N d h) (hp : Real A src N d h) (hr : Real A src N d' h') (hl : ∀ v x y, Walk A src v x y → y ≤ N → LE d' h' v x y) : Least A src N d' h' := by
  have he : ∀ v, v < N → d v = d' v ∧ h v = h' v := fun v hv => by
    rcases hp v hv with p1 | ⟨p0, P, p1⟩ <;> rcases hr v hv with q1 | ⟨q0, Q, q1⟩
    · omega
    · have := (p.least _ _ _ q1.walk).1; omega
    · have := (hl _ _ _ p1.walk (by have := p1.bound hN; omega)).1; omega
    · have h1 := p.least _ _ _ q1.walk
      have h2 := hl _ _ _ p1.walk (by have := p1.bound hN; omega)
      unfold LE at h1 h2
      omega
  refine ⟨fun v hv => (hr v hv).imp id fun ⟨h0, P, p⟩ => ⟨h0, p.walk⟩, fun v x y w => ?_⟩
  have hv : v < N := by
    cases w with
    | nil hs => exact hN.s _ hs
    | snoc _ ha _ => exact hN.v _ ha
  have h1 := p.least _ _ _ w
  obtain ⟨e1, e2⟩ := he v hv
  unfold LE at *
  rw [← e1, ← e2]
  exact h1
end
end Go.PathP
