/-
  Shortest ways: plain.
-/
import Derived.Test.YtjijhpflkkicaaaNA
set_option linter.unusedVariables false
set_option linter.unusedSimpArgs false
namespace Go.PathP
open Go Go.Mem

/-- An arc: its number, its ends, its length. -/
structure Ar where
  k : Nat
  u : Nat
  v : Nat
  len : Int
deriving DecidableEq

section
variable (A : List Ar) (src : Nat → Prop)
/-- A way from one of some nodes. -/
inductive Walk : Nat → Int → Int → Prop
  | nil {s : Nat} : src s → Walk s 0 0
  | snoc {u : Nat} {x y : Int} {a : Ar} : Walk u x y → a ∈ A → a.u = u → Walk a.v (x + a.len) (y + 1)
/-- A node's label is as little. -/
def LE (d h : Nat → Int) (v : Nat) (x y : Int) : Prop := 0 ≤ d v ∧ (d v < x ∨ (d v = x ∧ h v ≤ y))
/-- A way whose nodes all have labels that are as little as it is there. -/
inductive GW (d h : Nat → Int) : Nat → Int → Int → List Nat → Prop
  | nil {s : Nat} : src s → LE d h s 0 0 → GW d h s 0 0 [s]
  | snoc {u : Nat} {x y : Int} {P : List Nat} {a : Ar} : GW d h u x y P → a ∈ A → a.u = u → a.v ∉ P → LE d h a.v (x + a.len) (y + 1) → GW d h a.v (x + a.len) (y + 1) (a.v :: P)
/-- The arcs are of N nodes, and have lengths up to M. -/
structure Net (N : Nat) (M : Int) : Prop where
  u : ∀ a ∈ A, a.u < N
  v : ∀ a ∈ A, a.v < N
  l0 : ∀ a ∈ A, 0 ≤ a.len
  l1 : ∀ a ∈ A, a.len ≤ M
  s : ∀ s, src s → s < N
end

section
variable {A : List Ar} {src : Nat → Prop} {N : Nat} {M : Int} {d h d' h' : Nat → Int}
theorem LE.trans {v : Nat} {x y x' y' : Int} (p : LE d h v x y) (q : x < x' ∨ (x = x' ∧ y ≤ y')) : LE d h v x' y' := by
  unfold LE at *; omega
theorem GW.mono (hm : ∀ v x y, LE d h v x y → LE d' h' v x y) {v : Nat} {x y : Int} {P : List Nat} (p : GW A src d h v x y P) : GW A src d' h' v x y P := by
  induction p with
  | nil hs hl => exact .nil hs (hm _ _ _ hl)
  | snoc _ ha hu hn hl ih => exact .snoc ih ha hu hn (hm _ _ _ hl)
theorem GW.walk {v : Nat} {x y : Int} {P : List Nat} (p : GW A src d h v x y P) : Walk A src v x y := by
  induction p with
  | nil hs _ => exact .nil hs
  | snoc _ ha hu _ _ ih => exact .snoc ih ha hu
theorem GW.label {v : Nat} {x y : Int} {P : List Nat} (p : GW A src d h v x y P) : LE d h v x y := by
  cases p with
  | nil _ hl => exact hl
  | snoc _ _ _ _ hl => exact hl
theorem GW.pos (hN : Net A src N M) {v : Nat} {x y : Int} {P : List Nat} (p : GW A src d h v x y P) : 0 ≤ x ∧ x ≤ y * M ∧ y + 1 = P.length ∧ v < N := by
  induction p with
  | nil hs _ => exact ⟨by omega, by omega, by simp, hN.s _ hs⟩
  | @snoc u x y P a _ ha hu hn hl ih =>
    have := hN.l0 _ ha
    have := hN.l1 _ ha
    have e : (y + 1) * M = y * M + M := by rw [Int.add_mul]; omega
    exact ⟨by omega, by omega, by simp; omega, hN.v _ ha⟩
theorem GW.mem (hN : Net A src N M) {v : Nat} {x y : Int} {P : List Nat} (p : GW A src d h v x y P) : ∀ w ∈ P, LE d h w x y := by
  induction p with
  | nil hs hl => intro w hw; simp at hw; subst hw; exact hl
  | @snoc u x y P a p ha hu hn hl ih =>
    intro w hw
    rcases List.mem_cons.1 hw with rfl | hw
    · exact hl
    · have := hN.l0 _ ha
      exact (ih w hw).trans (by omega)
theorem GW.nodup {v : Nat} {x y : Int} {P : List Nat} (p : GW A src d h v x y P) : P.Nodup := by
  induction p with
  | nil _ _ => simp
  | snoc _ _ _ hn _ ih => exact List.nodup_cons.2 ⟨hn, ih⟩
theorem GW.nodes (hN : Net A src N M) {v : Nat} {x y : Int} {P : List Nat} (p : GW A src d h v x y P) : ∀ w ∈ P, w < N := by
  induction p with
  | nil hs _ => intro w hw; simp at hw; subst hw; exact hN.s _ hs
  | snoc _ ha _ _ _ ih =>
    intro w hw
    rcases List.mem_cons.1 hw with rfl | hw
    · exact hN.v _ ha
    · exact ih w hw
theorem nodup_le : ∀ (n : Nat) (P : List Nat), P.Nodup → (∀ w ∈ P, w < n) → P.length ≤ n
  | 0, [], _, _ => Nat.le_refl _
  | 0, w :: _, _, h => absurd (h w List.mem_cons_self) (by omega)
  | n + 1, P, hd, h => by
    have h1 := nodup_le n (P.erase n) (hd.erase n) (fun w hw => by
      have h2 := h w (List.mem_of_mem_erase hw)
      have h3 : w ≠ n := fun e => by subst e; exact (List.Nodup.not_mem_erase hd) hw
      omega)
    have h4 := List.length_erase_le (a := n) (l := P)
    have h5 : P.length ≤ (P.erase n).length + 1 := by
      rw [List.length_erase]; split <;> omega
    omega
theorem GW.bound (hN : Net A src N M) {v : Nat} {x y : Int} {P : List Nat} (p : GW A src d h v x y P) : 0 ≤ y ∧ y + 1 ≤ N ∧ 0 ≤ x ∧ x ≤ y * M := by
  obtain ⟨h1, h2, h3, _⟩ := p.pos hN
  have := nodup_le N P p.nodup (p.nodes hN)
  have hp : 0 < P.length := by cases p <;> simp
  omega
/-- Each label is that of a way. -/
def Real (A : List Ar) (src : Nat → Prop) (N : Nat) (d h : Nat → Int) : Prop := ∀ v, v < N → (d v = -1 ∧ h v = 0) ∨ (0 ≤ d v ∧ ∃ P, GW A src d h v (d v) (h v) P)
def bet (d h : Nat → Int) (v : Nat) (x y : Int) : Bool := decide (d v = -1) || decide (x < d v) || (decide (x = d v) && decide (y < h v))
theorem bet_iff {v : Nat} {x y : Int} : bet d h v x y = true ↔ (d v = -1 ∨ x < d v ∨ (x = d v ∧ y < h v)) := by simp [bet, or_assoc]
theorem bet_no {v : Nat} {x y : Int} (hr : d v = -1 ∨ 0 ≤ d v) (hb : bet d h v x y = false) : LE d h v x y := by
  have : ¬ (d v = -1 ∨ x < d v ∨ (x = d v ∧ y < h v)) := fun q => by rw [bet_iff.2 q] at hb; cases hb
  unfold LE; omega
def upd (f : Nat → Int) (v : Nat) (x : Int) : Nat → Int := fun w => if v = w then x else f w
theorem upd_same (f : Nat → Int) (v : Nat) (x : Int) : upd f v x v = x := by simp [upd]
theorem upd_ne (f : Nat → Int) {v w : Nat} (x : Int) (h : v ≠ w) : upd f v x w = f w := by simp [upd, h]
/-- A better label leaves what was as little as little. -/
theorem upd_mono {v : Nat} {x y : Int} (hx : 0 ≤ x) (hb : bet d h v x y = true) : ∀ w p q, LE d h w p q → LE (upd d v x) (upd h v y) w p q := by
  intro w p q hl
  have hb := bet_iff.1 hb
  by_cases e : v = w
  · subst e
    unfold LE at *
    rw [upd_same, upd_same]
    omega
  · unfold LE at *
    rw [upd_ne _ _ e, upd_ne _ _ e]
    exact hl
theorem Real.pos {v : Nat} (hr : Real A src N d h) (hN : Net A src N M) (hv : v < N) : (d v = -1 ∧ h v = 0) ∨ (0 ≤ d v ∧ d v ≤ h v * M ∧ 0 ≤ h v ∧ h v + 1 ≤ N) := by
  rcases hr v hv with p | ⟨p0, P, p⟩
  · exact .inl p
  · obtain ⟨h1, h2, h3, h4⟩ := p.bound hN
    exact .inr ⟨p0, h4, h1, h2⟩
/-- A node with a better label by an arc. -/
theorem Real.relax (hN : Net A src N M) (hr : Real A src N d h) {a : Ar} (ha : a ∈ A) (h0 : 0 ≤ d a.u) (hb : bet d h a.v (d a.u + a.len) (h a.u + 1) = true) :
    Real A src N (upd d a.v (d a.u + a.len)) (upd h a.v (h a.u + 1)) := by
  have hl0 := hN.l0 _ ha
  have hx : 0 ≤ d a.u + a.len := by omega
  have hm := upd_mono hx hb
  intro v hv
  rcases hr a.u (hN.u _ ha) with p | ⟨_, P, p⟩
  · omega
  have hn : a.v ∉ P := fun hmem => by
    have := p.mem hN _ hmem
    have hb := bet_iff.1 hb
    unfold LE at this
    omega
  by_cases e : a.v = v
  · subst e
    rw [upd_same, upd_same]
    refine .inr ⟨hx, a.v :: P, .snoc (p.mono hm) ha rfl hn ?_⟩
    unfold LE
    rw [upd_same, upd_same]
    omega
  · rw [upd_ne _ _ e, upd_ne _ _ e]
    rcases hr v hv with q | ⟨q0, Q, q⟩
    · exact .inl q
    · exact .inr ⟨q0, Q, q.mono hm⟩
/-- Labels that no arc makes better are the least ones. -/
theorem fix_min (hs : ∀ s, src s → LE d h s 0 0) (hf : ∀ a ∈ A, 0 ≤ d a.u → LE d h a.v (d a.u + a.len) (h a.u + 1)) {v : Nat} {x y : Int} (p : Walk A src v x y) : LE d h v x y := by
  induction p with
  | nil q => exact hs _ q
  | @snoc u x y a _ ha hu ih =>
    subst hu
    have h1 := hf a ha ih.1
    unfold LE at ih
    exact h1.trans (by omega)
/-- The least labels. -/
structure Least (A : List Ar) (src : Nat → Prop) (N : Nat) (d h : Nat → Int) : Prop where
  real : ∀ v, v < N → (d v = -1 ∧ h v = 0) ∨ (0 ≤ d v ∧ Walk A src v (d v) (h v))
  least : ∀ v x y, Walk A src v x y → LE d h v x y
theorem Real.least (hr : Real A src N d h) (hl : ∀ v x y, Walk A src v x y → LE d h v x y) : Least A src N d h :=
  ⟨fun v hv => (hr v hv).imp id fun ⟨h0, P, p⟩ => ⟨h0, p.walk⟩, hl⟩
/-- What is real, and as little as the least, is the least. -/
theorem Least.of (hN : Net A src N M) (p : Least A src N d h) (hp : Real A src N d h) (hr : Real A src N d' h') (hl : ∀ v x y, Walk A src v x y → y ≤ N → LE d' h' v x y) : Least A src N d' h' := by
  have he : ∀ v, v < N → d v = d' v ∧ h v = h' v := fun v hv => by
    rcases hp v hv with p1 | ⟨p0, P, p1⟩ <;> rcases hr v hv with q1 | ⟨q0, Q, q1⟩
    · omega
    · have := (p.least _ _ _ q1.walk).1; omega
    · have := (hl _ _ _ p1.walk (by have := p1.bound hN; omega)).1; omega
    · have h1 := p.least _ _ _ q1.walk
      have h2 := hl _ _ _ p1.walk (by have := p1.bound hN; omega)
      unfold LE at h1 h2
      omega
  refine ⟨fun v hv => (hr v hv).imp id fun ⟨h0, P, p⟩ => ⟨h0, p.walk⟩, fun v x y w => ?_⟩
  have hv : v < N := by
    cases w with
    | nil hs => exact hN.s _ hs
    | snoc _ ha _ => exact hN.v _ ha
  have h1 := p.least _ _ _ w
  obtain ⟨e1, e2⟩ := he v hv
  unfold LE at *
  rw [← e1, ← e2]
  exact h1
end
end Go.PathP
namespace Go.PathP
open Go Go.Mem

/-- A list of numbers, as a function. -/
def g (D : List Int) (v : Nat) : Int := D.getD v 0
theorem g_set {D : List Int} {v : Nat} (hv : v < D.length) (x : Int) : g (D.set v x) = upd (g D) v x := by
  funext w
  unfold upd
  show (D.set v x).getD w 0 = if v = w then x else D.getD w 0
  rw [List.getD_eq_getElem?_getD, List.getD_eq_getElem?_getD, List.getElem?_set]
  by_cases h : v = w
  · subst h; simp [hv]
  · simp [h]
abbrev Th := Int × Int
/-- What stays so while nodes are taken from the heap: some arcs of the node that is at hand are to come. -/
structure DJ (A : List Ar) (src : Nat → Prop) (N : Nat) (M : Int) (R : List Ar) (D H : List Int) (Q : List Th) (X : Nat → Nat) (c : Int) : Prop where
  net : Net A src N M
  lD : D.length = N
  lH : H.length = N
  real : Real A src N (g D) (g H)
  src0 : ∀ s, src s → LE (g D) (g H) s 0 0
  low : ∀ q ∈ Q, c ≤ q.1
  ent : ∀ q ∈ Q, ∃ v : Nat, q.2 = v ∧ v < N ∧ 0 ≤ g D v ∧ g D v ≤ q.1
  seen : ∀ v, v < N → 0 < X v → 0 ≤ g D v ∧ g D v ≤ c
  cred : ∀ v, v < N → 0 ≤ g D v → (X v : Int) + (Q.count (g D v, (v : Int)) : Int) + g H v ≤ N
  opn : ∀ a ∈ A, 0 ≤ g D a.u → a ∈ R ∨ LE (g D) (g H) a.v (g D a.u + a.len) (g H a.u + 1) ∨ (g D a.u, (a.u : Int)) ∈ Q

section
variable {A : List Ar} {src : Nat → Prop} {N : Nat} {M : Int} {R : List Ar} {D H : List Int} {Q Q' : List Th} {X : Nat → Nat} {c : Int}
theorem DJ.perm (h : DJ A src N M R D H Q X c) (p : Q.Perm Q') : DJ A src N M R D H Q' X c :=
  ⟨h.net, h.lD, h.lH, h.real, h.src0, fun q hq => h.low q (p.mem_iff.2 hq), fun q hq => h.ent q (p.mem_iff.2 hq), h.seen, fun v hv h0 => by rw [← p.count_eq]; exact h.cred v hv h0,
    fun a ha h0 => (h.opn a ha h0).imp id (Or.imp id p.mem_iff.1)⟩
/-- What was taken is stale. -/
theorem DJ.stale {d : Int} {v : Nat} (h : DJ A src N M [] D H ((d, (v : Int)) :: Q) X c) (hmin : ∀ q ∈ Q, d ≤ q.1) (hne : d ≠ g D v) : DJ A src N M [] D H Q X d :=
  ⟨h.net, h.lD, h.lH, h.real, h.src0, hmin, fun q hq => h.ent q (List.mem_cons_of_mem _ hq),
    fun w hw hx => by have h1 := h.seen w hw hx; have h2 := h.low _ List.mem_cons_self; dsimp only at h2; omega,
    fun w hw h0 => by
      have := h.cred w hw h0
      rw [List.count_cons] at this
      split at this <;> omega,
    fun a ha h0 => by
      rcases h.opn a ha h0 with p | p | p
      · exact absurd p (by simp)
      · exact .inr (.inl p)
      · rcases List.mem_cons.1 p with e | p
        · injection e with e1 e2
          have : a.u = v := by omega
          subst this
          exact absurd e1.symm hne
        · exact .inr (.inr p)⟩
def bump (X : Nat → Nat) (u : Nat) : Nat → Nat := fun v => if u = v then X v + 1 else X v
/-- What was taken is at hand. -/
theorem DJ.live {d : Int} {u : Nat} (h : DJ A src N M [] D H ((d, (u : Int)) :: Q) X c) (hmin : ∀ q ∈ Q, d ≤ q.1) (he : d = g D u) : DJ A src N M (A.filter fun a => a.u == u) D H Q (bump X u) d ∧ X u < N ∧ u < N ∧ 0 ≤ g D u := by
  obtain ⟨v, e1, e2, e3, e4⟩ := h.ent _ List.mem_cons_self
  dsimp only at e1 e4
  obtain rfl : u = v := by omega
  have hc := h.low _ List.mem_cons_self
  dsimp only at hc
  have hcr := h.cred u e2 e3
  rw [List.count_cons] at hcr
  have hp := h.real.pos h.net e2
  have hb : ((d, (u : Int)) == (g D u, (u : Int))) = true := by rw [he]; simp
  rw [if_pos hb] at hcr
  refine ⟨⟨h.net, h.lD, h.lH, h.real, h.src0, hmin, fun q hq => h.ent q (List.mem_cons_of_mem _ hq), fun w hw hx => ?_, fun w hw h0 => ?_, fun a ha h0 => ?_⟩, by omega, e2, e3⟩
  · unfold bump at hx
    by_cases e : u = w
    · subst e; omega
    · rw [if_neg e] at hx
      have := h.seen w hw hx; omega
  · unfold bump
    by_cases e : u = w
    · subst e; rw [if_pos rfl]; omega
    · rw [if_neg e]
      have := h.cred w hw h0
      rw [List.count_cons] at this
      split at this <;> omega
  · rcases h.opn a ha h0 with p | p | p
    · exact absurd p (by simp)
    · exact .inr (.inl p)
    · rcases List.mem_cons.1 p with e | p
      · injection e with e1 e2
        have : a.u = u := by omega
        exact .inl (List.mem_filter.2 ⟨ha, by simp [this]⟩)
      · exact .inr (.inr p)
/-- One arc of the node that is at hand. -/
def goStep (u : Nat) (S : List Int × List Int × List Th) (a : Ar) : List Int × List Int × List Th :=
  if bet (g S.1) (g S.2.1) a.v (g S.1 u + a.len) (g S.2.1 u + 1) then (S.1.set a.v (g S.1 u + a.len), S.2.1.set a.v (g S.2.1 u + 1), (g S.1 u + a.len, (a.v : Int)) :: S.2.2) else S
theorem count_zero {Q : List Th} {q : Th} (h : q ∉ Q) : Q.count q = 0 := List.count_eq_zero.2 h
theorem DJ.step {a : Ar} {u : Nat} (h : DJ A src N M (a :: R) D H Q X c) (hc : g D u = c) (h0 : 0 ≤ g D u) (ha : a ∈ A) (hu : a.u = u) (S : List Int × List Int × List Th) (hS : S = goStep u (D, H, Q) a) :
    DJ A src N M R S.1 S.2.1 S.2.2 X c ∧ g S.1 u = c ∧ g S.2.1 u = g H u := by
  subst hu
  have hv := h.net.v _ ha
  have hul := h.net.u _ ha
  have hl0 := h.net.l0 _ ha
  unfold goStep at hS
  dsimp only at hS
  by_cases hb : bet (g D) (g H) a.v (g D a.u + a.len) (g H a.u + 1) = true
  rotate_left
  · rw [if_neg hb] at hS
    subst hS
    refine ⟨⟨h.net, h.lD, h.lH, h.real, h.src0, h.low, h.ent, h.seen, h.cred, fun b hb' hb0 => ?_⟩, hc, rfl⟩
    rcases h.opn b hb' hb0 with p | p | p
    · rcases List.mem_cons.1 p with e | p
      · subst e
        refine .inr (.inl (bet_no (d := g D) (h := g H) ?_ (by simpa using hb)))
        rcases h.real.pos h.net hv with q | q
        · exact .inl q.1
        · exact .inr q.1
      · exact .inl p
    · exact .inr (.inl p)
    · exact .inr (.inr p)
  rw [if_pos hb] at hS
  obtain ⟨x, hx⟩ : ∃ x, x = g D a.u + a.len := ⟨_, rfl⟩
  obtain ⟨y, hy⟩ : ∃ y, y = g H a.u + 1 := ⟨_, rfl⟩
  have hre := h.real.relax h.net ha h0 hb
  have hmo := upd_mono (show 0 ≤ g D a.u + a.len by omega) hb
  rw [← hx, ← hy] at hb hS hre hmo
  have hbi := bet_iff.1 hb
  have gD : g (D.set a.v x) = upd (g D) a.v x := g_set (by rw [h.lD]; exact hv) x
  have gH : g (H.set a.v y) = upd (g H) a.v y := g_set (by rw [h.lH]; exact hv) y
  have hne : a.v ≠ a.u := fun e => by
    rw [e] at hbi
    omega
  have hcx : c ≤ x := by omega
  have hpn := hre.pos h.net hv
  rw [upd_same, upd_same] at hpn
  subst hS
  dsimp only
  rw [gD, gH]
  refine ⟨⟨h.net, by rw [List.length_set]; exact h.lD, by rw [List.length_set]; exact h.lH, by rw [gD, gH]; exact hre, fun s hs => by rw [gD, gH]; exact hmo _ _ _ (h.src0 s hs), fun q hq => ?_, fun q hq => ?_, fun v hv' hX => ?_, fun v hv' hd => ?_, fun b hb' hb0 => ?_⟩, by rw [upd_ne _ _ hne]; exact hc, by rw [upd_ne _ _ hne]⟩
  · rcases List.mem_cons.1 hq with rfl | hq
    · exact hcx
    · exact h.low q hq
  · rw [gD]
    rcases List.mem_cons.1 hq with rfl | hq
    · exact ⟨a.v, rfl, hv, by rw [upd_same]; omega, by rw [upd_same]; exact Int.le_refl _⟩
    · obtain ⟨v, e1, e2, e3, e4⟩ := h.ent q hq
      refine ⟨v, e1, e2, ?_⟩
      by_cases e : a.v = v
      · subst e; rw [upd_same]; omega
      · rw [upd_ne _ _ e]; exact ⟨e3, e4⟩
  · rw [gD]
    have := h.seen v hv' hX
    by_cases e : a.v = v
    · subst e; rw [upd_same]; omega
    · rw [upd_ne _ _ e]; exact this
  · rw [gD] at hd ⊢
    rw [gH]
    by_cases e : a.v = v
    · subst e
      rw [upd_same, upd_same, List.count_cons, if_pos (by simp)]
      by_cases hold : g D a.v = x
      · have hcr := h.cred a.v hv (by omega)
        rw [hold] at hcr
        omega
      · have hX : X a.v = 0 := by
          rcases Nat.eq_zero_or_pos (X a.v) with q | q
          · exact q
          · have := h.seen _ hv q; omega
        have hnm : (x, (a.v : Int)) ∉ Q := fun hm => by
          obtain ⟨v, e1, e2, e3, e4⟩ := h.ent _ hm
          dsimp only at e1 e4
          obtain rfl : a.v = v := by omega
          omega
        rw [count_zero hnm, hX]
        omega
    · rw [upd_ne _ _ e] at hd ⊢
      rw [upd_ne _ _ e, List.count_cons, if_neg (by simp; intro _; omega)]
      exact h.cred v hv' hd
  · rw [gD] at hb0 ⊢
    rw [gH]
    by_cases e : a.v = b.u
    · refine .inr (.inr ?_)
      rw [← e, upd_same]
      exact List.mem_cons_self
    · rw [upd_ne _ _ e] at hb0 ⊢
      rw [upd_ne _ _ e]
      rcases h.opn b hb' hb0 with p | p | p
      · rcases List.mem_cons.1 p with e' | p
        · subst e'
          refine .inr (.inl ?_)
          unfold LE
          rw [upd_same, upd_same]
          omega
        · exact .inl p
      · exact .inr (.inl (hmo _ _ _ p))
      · exact .inr (.inr (List.mem_cons_of_mem _ p))
def goF (u : Nat) (O : List Ar) (S : List Int × List Int × List Th) : List Int × List Int × List Th := O.foldl (goStep u) S
theorem DJ.goes {u : Nat} : ∀ (R : List Ar) (D H : List Int) (Q : List Th), DJ A src N M R D H Q X c → g D u = c → 0 ≤ g D u → (∀ a ∈ R, a ∈ A ∧ a.u = u) → ∀ S, S = goF u R (D, H, Q) → DJ A src N M [] S.1 S.2.1 S.2.2 X c
  | [], D, H, Q, h, _, _, _, S, hS => by subst hS; exact h
  | a :: R, D, H, Q, h, hc, h0, hR, S, hS => by
    obtain ⟨ha, hu⟩ := hR a List.mem_cons_self
    obtain ⟨h1, h2, h3⟩ := h.step hc h0 ha hu _ rfl
    exact DJ.goes R _ _ _ h1 h2 (by rw [h2]; omega) (fun b hb => hR b (List.mem_cons_of_mem _ hb)) S (by rw [hS]; rfl)
/-- How much is to come at most. -/
def mu (A : List Ar) (N : Nat) (X : Nat → Nat) : Nat := (A.map fun a => N - X a.u).sum
theorem mu_bump (N : Nat) (X : Nat → Nat) (u : Nat) (hu : X u < N) : ∀ A : List Ar, mu A N (bump X u) + (A.filter fun a => a.u == u).length = mu A N X
  | [] => rfl
  | a :: A => by
    have ih := mu_bump N X u hu A
    unfold mu at ih ⊢
    rw [List.map_cons, List.map_cons, List.sum_cons, List.sum_cons, List.filter_cons]
    by_cases e : a.u = u
    · rw [if_pos (by simp [e]), List.length_cons]
      unfold bump at ih ⊢
      rw [e, if_pos rfl]
      omega
    · rw [if_neg (by simp [e])]
      unfold bump at ih ⊢
      rw [if_neg (fun q => e q.symm)]
      omega
theorem mu_le (N : Nat) (X : Nat → Nat) : ∀ A : List Ar, mu A N X ≤ A.length * N
  | [] => by simp [mu]
  | a :: A => by
    have := mu_le N X A
    unfold mu at this ⊢
    rw [List.map_cons, List.sum_cons, List.length_cons, Nat.add_mul]
    omega
/-- Nothing is left: the labels are the least ones. -/
theorem DJ.least (h : DJ A src N M [] D H [] X c) : Least A src N (g D) (g H) :=
  h.real.least fun v x y p => fix_min h.src0 (fun a ha h0 => by
    rcases h.opn a ha h0 with q | q | q
    · exact absurd q (by simp)
    · exact q
    · exact absurd q (by simp)) p
end
/-- The nodes from which the ways lead, one by one. -/
def begStep (S : List Int × List Th) (v : Nat) : List Int × List Th := if g S.1 v = 0 then S else (S.1.set v 0, (0, (v : Int)) :: S.2)
structure BG (N : Nat) (pre : List Nat) (S : List Int × List Th) : Prop where
  lD : S.1.length = N
  val : ∀ v, v < N → (v ∈ pre ∧ g S.1 v = 0 ∧ S.2.count (0, (v : Int)) = 1) ∨ (v ∉ pre ∧ g S.1 v = -1 ∧ S.2.count (0, (v : Int)) = 0)
  ent : ∀ q ∈ S.2, ∃ v, v ∈ pre ∧ q = (0, (v : Int))
theorem BG.start (N : Nat) : BG N [] (List.replicate N (-1), []) where
  lD := by simp
  val v hv := .inr ⟨by simp, by simp [g, hv], by simp⟩
  ent q hq := by simp at hq
theorem BG.step {N : Nat} {pre : List Nat} {S : List Int × List Th} (h : BG N pre S) {v : Nat} (hv : v < N) : BG N (pre ++ [v]) (begStep S v) := by
  unfold begStep
  by_cases e : g S.1 v = 0
  · rw [if_pos e]
    have hvp : v ∈ pre := by
      rcases h.val v hv with ⟨q, _, _⟩ | ⟨_, q, _⟩
      · exact q
      · omega
    refine ⟨h.lD, fun w hw => ?_, fun q hq => ?_⟩
    · rcases h.val w hw with ⟨q1, q2, q3⟩ | ⟨q1, q2, q3⟩
      · exact .inl ⟨List.mem_append_left _ q1, q2, q3⟩
      · refine .inr ⟨fun hm => ?_, q2, q3⟩
        rcases List.mem_append.1 hm with hm | hm
        · exact q1 hm
        · simp at hm; subst hm; exact q1 hvp
    · obtain ⟨w, h1, h2⟩ := h.ent q hq
      exact ⟨w, List.mem_append_left _ h1, h2⟩
  · rw [if_neg e]
    refine ⟨by simpa using h.lD, fun w hw => ?_, fun q hq => ?_⟩
    · dsimp only
      rw [g_set (by rw [h.lD]; exact hv), List.count_cons]
      by_cases ew : v = w
      · subst ew
        rw [upd_same, if_pos (by simp)]
        rcases h.val v hv with ⟨_, q, _⟩ | ⟨_, _, q⟩
        · exact absurd q e
        · exact .inl ⟨by simp, rfl, by omega⟩
      · rw [upd_ne _ _ ew, if_neg (by simp; omega)]
        rcases h.val w hw with ⟨q1, q2, q3⟩ | ⟨q1, q2, q3⟩
        · exact .inl ⟨List.mem_append_left _ q1, q2, q3⟩
        · refine .inr ⟨fun hm => ?_, q2, q3⟩
          rcases List.mem_append.1 hm with hm | hm
          · exact q1 hm
          · simp at hm; exact ew hm.symm
    · rcases List.mem_cons.1 hq with rfl | hq
      · exact ⟨v, by simp, rfl⟩
      · obtain ⟨w, h1, h2⟩ := h.ent q hq
        exact ⟨w, List.mem_append_left _ h1, h2⟩
/-- At the start. -/
theorem BG.dj {A : List Ar} {N : Nat} {M : Int} {from_ : List Nat} {D : List Int} {Q : List Th} (h : BG N from_ (D, Q)) (hn : Net A (· ∈ from_) N M) : DJ A (· ∈ from_) N M [] D (List.replicate N 0) Q (fun _ => 0) 0 := by
  have hH : ∀ v, g (List.replicate N 0) v = 0 := fun v => by unfold g; rw [List.getD_eq_getElem?_getD, List.getElem?_replicate]; split <;> rfl
  have hs : ∀ s, s ∈ from_ → g D s = 0 := fun s hs => by
    rcases h.val s (hn.s s hs) with ⟨_, q, _⟩ | ⟨q, _, _⟩
    · exact q
    · exact absurd hs q
  have hsl : ∀ s, s ∈ from_ → LE (g D) (g (List.replicate N 0)) s 0 0 := fun s q => by unfold LE; rw [hs s q, hH]; omega
  refine ⟨hn, h.lD, by simp, fun v hv => ?_, hsl, fun q hq => ?_, fun q hq => ?_, fun v _ hx => by omega, fun v hv h0 => ?_, fun a ha h0 => ?_⟩
  · rcases h.val v hv with ⟨q1, q2, _⟩ | ⟨_, q2, _⟩
    · refine .inr ⟨by rw [q2]; omega, [v], ?_⟩
      rw [q2, hH]
      exact .nil q1 (hsl v q1)
    · exact .inl ⟨q2, hH v⟩
  · obtain ⟨v, _, rfl⟩ := h.ent q hq; exact Int.le_refl _
  · obtain ⟨v, q1, rfl⟩ := h.ent q hq
    exact ⟨v, rfl, hn.s v q1, by rw [hs v q1]; exact Int.le_refl _, by rw [hs v q1]; exact Int.le_refl _⟩
  · rcases h.val v hv with ⟨_, q2, q3⟩ | ⟨_, q2, _⟩
    · rw [q2, hH]
      dsimp only at q3
      rw [q3]
      omega
    · dsimp only at q2; omega
  · have hu := hn.u a ha
    rcases h.val a.u hu with ⟨_, q2, q3⟩ | ⟨_, q2, _⟩
    · refine .inr (.inr ?_)
      dsimp only at q2 q3
      rw [q2]
      exact List.count_pos_iff.1 (by omega)
    · dsimp only at q2; omega
end Go.PathP
namespace Go.PathP
open Go Go.Mem Go.NetP Go.RestP Go.CertP

/-- One arc in a round. -/
def relB (S : List Int × List Int) (a : Ar) : List Int × List Int :=
  if decide (0 ≤ g S.1 a.u) && bet (g S.1) (g S.2) a.v (g S.1 a.u + a.len) (g S.2 a.u + 1) then (S.1.set a.v (g S.1 a.u + a.len), S.2.set a.v (g S.2 a.u + 1)) else S
/-- In a round, behind some arcs. -/
structure BF (A : List Ar) (src : Nat → Prop) (N : Nat) (M : Int) (r : Int) (pre : List Ar) (D H : List Int) : Prop where
  net : Net A src N M
  lD : D.length = N
  lH : H.length = N
  real : Real A src N (g D) (g H)
  le : ∀ v x y, Walk A src v x y → y ≤ r → LE (g D) (g H) v x y
  now : ∀ a ∈ pre, ∀ x y, Walk A src a.u x y → y ≤ r → LE (g D) (g H) a.v (x + a.len) (y + 1)
section
variable {A : List Ar} {src : Nat → Prop} {N : Nat} {M : Int} {r : Int} {pre : List Ar} {D H : List Int}
theorem BF.step (h : BF A src N M r pre D H) {a : Ar} (ha : a ∈ A) (S : List Int × List Int) (hS : S = relB (D, H) a) : BF A src N M r (pre ++ [a]) S.1 S.2 := by
  have hv := h.net.v _ ha
  have hl0 := h.net.l0 _ ha
  unfold relB at hS
  dsimp only at hS
  by_cases h0 : 0 ≤ g D a.u
  rotate_left
  · rw [if_neg (by simp [h0])] at hS
    subst hS
    refine ⟨h.net, h.lD, h.lH, h.real, h.le, fun b hb x y hw hy => ?_⟩
    rcases List.mem_append.1 hb with hb | hb
    · exact h.now b hb x y hw hy
    · simp at hb; subst hb
      exact absurd (h.le _ _ _ hw hy).1 h0
  by_cases hb : bet (g D) (g H) a.v (g D a.u + a.len) (g H a.u + 1) = true
  rotate_left
  · rw [if_neg (by simp [hb])] at hS
    subst hS
    refine ⟨h.net, h.lD, h.lH, h.real, h.le, fun b hb' x y hw hy => ?_⟩
    rcases List.mem_append.1 hb' with hb' | hb'
    · exact h.now b hb' x y hw hy
    · simp at hb'; subst hb'
      have h1 := h.le _ _ _ hw hy
      have h2 : LE (g D) (g H) b.v (g D b.u + b.len) (g H b.u + 1) := bet_no (d := g D) (h := g H) (by rcases h.real.pos h.net hv with q | q; exact .inl q.1; exact .inr q.1) (by simpa using hb)
      unfold LE at h1
      exact h2.trans (by omega)
  rw [if_pos (by simp [h0, hb])] at hS
  have hre := h.real.relax h.net ha h0 hb
  have hmo := upd_mono (show 0 ≤ g D a.u + a.len by omega) hb
  have gD : g (D.set a.v (g D a.u + a.len)) = upd (g D) a.v (g D a.u + a.len) := g_set (by rw [h.lD]; exact hv) _
  have gH : g (H.set a.v (g H a.u + 1)) = upd (g H) a.v (g H a.u + 1) := g_set (by rw [h.lH]; exact hv) _
  subst hS
  dsimp only
  refine ⟨h.net, by rw [List.length_set]; exact h.lD, by rw [List.length_set]; exact h.lH, by rw [gD, gH]; exact hre, fun v x y hw hy => by rw [gD, gH]; exact hmo _ _ _ (h.le v x y hw hy), fun b hb' x y hw hy => ?_⟩
  rw [gD, gH]
  rcases List.mem_append.1 hb' with hb' | hb'
  · exact hmo _ _ _ (h.now b hb' x y hw hy)
  · simp at hb'; subst hb'
    have h1 := h.le _ _ _ hw hy
    unfold LE at h1 ⊢
    rw [upd_same, upd_same]
    omega
/-- A round is done. -/
theorem BF.next (h : BF A src N M r pre D H) (hp : ∀ a ∈ A, a ∈ pre) (hr : 0 ≤ r) : BF A src N M (r + 1) [] D H :=
  ⟨h.net, h.lD, h.lH, h.real, fun v x y hw hy => by
    cases hw with
    | nil hs => exact h.le _ _ _ (.nil hs) hr
    | @snoc u x' y' a hw ha hu => subst hu; exact h.now a (hp a ha) _ _ hw (by omega), fun a ha => by simp at ha⟩
theorem walk_y {v : Nat} {x y : Int} (hw : Walk A src v x y) : 0 ≤ y := by
  induction hw with
  | nil _ => exact Int.le_refl _
  | snoc _ _ _ ih => omega
theorem BF.start (hn : Net A src N M) (hD : D.length = N) (hs : ∀ v, v < N → (src v ∧ g D v = 0) ∨ (¬ src v ∧ g D v = -1)) : BF A src N M 0 [] D (List.replicate N 0) := by
  have hH : ∀ v, g (List.replicate N 0) v = 0 := fun v => by
    show (List.replicate N (0 : Int)).getD v 0 = 0
    rw [List.getD_eq_getElem?_getD, List.getElem?_replicate]; split <;> rfl
  have hs0 : ∀ s, src s → g D s = 0 := fun s q => by
    rcases hs s (hn.s s q) with ⟨_, e⟩ | ⟨e, _⟩
    · exact e
    · exact absurd q e
  have hsl : ∀ s, src s → LE (g D) (g (List.replicate N 0)) s 0 0 := fun s q => by unfold LE; rw [hs0 s q, hH]; omega
  refine ⟨hn, hD, by simp, fun v hv => ?_, fun v x y hw hy => ?_, fun a ha => by simp at ha⟩
  · rcases hs v hv with ⟨q1, q2⟩ | ⟨_, q2⟩
    · refine .inr ⟨by rw [q2]; omega, [v], ?_⟩
      rw [q2, hH]
      exact .nil q1 (hsl v q1)
    · exact .inl ⟨q2, hH v⟩
  · cases hw with
    | nil q => exact hsl _ q
    | snoc hw _ _ => have := walk_y hw; omega
end
/-- By which arcs a way may come. -/
def byC (D H : List Int) (v : Nat) (a : Ar) : Bool := decide (a.v = v) && decide (0 ≤ g D a.u) && decide (g H v ≠ 0) && decide (g D a.u + a.len = g D v) && decide (g H a.u + 1 = g H v)
theorem byC_iff {D H : List Int} {v : Nat} {a : Ar} : byC D H v a = true ↔ a.v = v ∧ 0 ≤ g D a.u ∧ g H v ≠ 0 ∧ g D a.u + a.len = g D v ∧ g H a.u + 1 = g H v := by
  simp [byC, and_assoc]
/-- The least one of these. -/
def IsBy (L : List Ar) (D H : List Int) (v : Nat) (b : Int) : Prop := (b = -1 ∧ ∀ a ∈ L, byC D H v a = false) ∨ ∃ a ∈ L, byC D H v a = true ∧ b = a.k ∧ ∀ c ∈ L, byC D H v c = true → a.k ≤ c.k
theorem IsBy.eq {L : List Ar} {D H : List Int} {v : Nat} {b b' : Int} (h : IsBy L D H v b) (h' : IsBy L D H v b') : b = b' := by
  rcases h with ⟨rfl, h⟩ | ⟨a, h1, h2, rfl, h3⟩ <;> rcases h' with ⟨rfl, h'⟩ | ⟨a', h1', h2', rfl, h3'⟩
  · rfl
  · rw [h _ h1'] at h2'; cases h2'
  · rw [h' _ h1] at h2; cases h2
  · have := h3 _ h1' h2'; have := h3' _ h1 h2; omega
theorem IsBy.congr {L : List Ar} {D H D' H' : List Int} {v : Nat} {b : Int} (hL : ∀ a ∈ L, a.u < D.length) (hv : v < D.length) (hD : ∀ w, w < D.length → g D w = g D' w) (hH : ∀ w, w < D.length → g H w = g H' w) (h : IsBy L D H v b) : IsBy L D' H' v b := by
  have e : ∀ a ∈ L, byC D H v a = byC D' H' v a := fun a ha => by
    unfold byC
    rw [hD _ (hL a ha), hD _ hv, hH _ hv, hH _ (hL a ha)]
  rcases h with ⟨rfl, h⟩ | ⟨a, h1, h2, rfl, h3⟩
  · exact .inl ⟨rfl, fun a ha => by rw [← e a ha]; exact h a ha⟩
  · exact .inr ⟨a, h1, by rw [← e a h1]; exact h2, rfl, fun c hc hb => h3 c hc (by rw [e c hc]; exact hb)⟩
theorem IsBy.nil (D H : List Int) (v : Nat) : IsBy [] D H v (-1) := .inl ⟨rfl, fun _ h => by simp at h⟩
/-- One arc more. -/
theorem IsBy.more {L : List Ar} {D H : List Int} {v : Nat} {b : Int} (h : IsBy L D H v b) (a : Ar) : IsBy (L ++ [a]) D H v (if byC D H v a && (decide (b = -1) || decide ((a.k : Int) < b)) then (a.k : Int) else b) := by
  by_cases hc : byC D H v a = true
  · rcases h with ⟨rfl, h⟩ | ⟨c, h1, h2, rfl, h3⟩
    · rw [if_pos (by simp [hc])]
      refine .inr ⟨a, by simp, hc, rfl, fun d hd hd' => ?_⟩
      rcases List.mem_append.1 hd with hd | hd
      · rw [h d hd] at hd'; cases hd'
      · simp at hd; subst hd; exact Nat.le_refl _
    · by_cases hk : a.k < c.k
      · rw [if_pos (by simp [hc]; omega)]
        refine .inr ⟨a, by simp, hc, rfl, fun d hd hd' => ?_⟩
        rcases List.mem_append.1 hd with hd | hd
        · have := h3 d hd hd'; omega
        · simp at hd; subst hd; exact Nat.le_refl _
      · rw [if_neg (by simp; omega)]
        refine .inr ⟨c, by simp [h1], h2, rfl, fun d hd hd' => ?_⟩
        rcases List.mem_append.1 hd with hd | hd
        · exact h3 d hd hd'
        · simp at hd; subst hd; omega
  · rw [if_neg (by simp [hc])]
    have hc' : byC D H v a = false := by simpa using hc
    rcases h with ⟨rfl, h⟩ | ⟨c, h1, h2, rfl, h3⟩
    · refine .inl ⟨rfl, fun d hd => ?_⟩
      rcases List.mem_append.1 hd with hd | hd
      · exact h d hd
      · simp at hd; subst hd; exact hc'
    · refine .inr ⟨c, by simp [h1], h2, rfl, fun d hd hd' => ?_⟩
      rcases List.mem_append.1 hd with hd | hd
      · exact h3 d hd hd'
      · simp at hd; subst hd; rw [hc'] at hd'; cases hd'
theorem IsBy.same {L L' : List Ar} {D H : List Int} {v : Nat} {b : Int} (h : IsBy L D H v b) (hL : ∀ a, a ∈ L ↔ a ∈ L') : IsBy L' D H v b := by
  rcases h with ⟨rfl, h⟩ | ⟨c, h1, h2, rfl, h3⟩
  · exact .inl ⟨rfl, fun a ha => h a ((hL a).2 ha)⟩
  · exact .inr ⟨c, (hL c).1 h1, h2, rfl, fun d hd hd' => h3 d ((hL d).2 hd) hd'⟩
/-- What Ways answers. -/
structure WS (A : List Ar) (src : Nat → Prop) (N : Nat) (M : Int) (D B : List Int) : Prop where
  net : Net A src N M
  lD : D.length = N
  lB : B.length = N
  lab : ∃ H : List Int, H.length = N ∧ Real A src N (g D) (g H) ∧ Least A src N (g D) (g H) ∧ ∀ v, v < N → IsBy A D H v (g B v)
theorem ext_g {a b : List Int} (hl : a.length = b.length) (h : ∀ v, v < a.length → g a v = g b v) : a = b :=
  List.ext_getElem hl fun i h1 h2 => by
    have := h i h1
    unfold g at this
    rw [List.getD_eq_getElem?_getD, List.getD_eq_getElem?_getD] at this
    simpa [h1, h2] using this
/-- The arcs of a net that have room. -/
def arcAt (es : List Ed) (pot : List Int) (a : Nat) : Ar := ⟨a, (endsE es a).1.toNat, (endsE es a).2.1.toNat, lenA es pot a⟩
def hasRoom (es : List Ed) (fl : List Int) (a : Nat) : Bool := decide (0 < roomE es fl a)
def arcsN (es : List Ed) (fl pot : List Int) (m : Nat) : List Ar := ((List.range m).filter (hasRoom es fl)).map (arcAt es pot)
def arcsL (es : List Ed) (fl pot : List Int) : List Ar := arcsN es fl pot (2 * es.length)
theorem arcsN_succ (es : List Ed) (fl pot : List Int) (m : Nat) : arcsN es fl pot (m + 1) = arcsN es fl pot m ++ if hasRoom es fl m then [arcAt es pot m] else [] := by
  unfold arcsN
  rw [List.range_succ, List.filter_append, List.map_append, List.filter_cons]
  split <;> simp
theorem arcs_mem {es : List Ed} {fl pot : List Int} {m : Nat} {a : Ar} : a ∈ arcsN es fl pot m ↔ ∃ k, k < m ∧ 0 < roomE es fl k ∧ a = arcAt es pot k := by
  unfold arcsN hasRoom
  simp only [List.mem_map, List.mem_filter, List.mem_range, decide_eq_true_eq]
  constructor
  · rintro ⟨k, ⟨h1, h2⟩, rfl⟩; exact ⟨k, h1, h2, rfl⟩
  · rintro ⟨k, h1, h2, rfl⟩; exact ⟨k, ⟨h1, h2⟩, rfl⟩
/-- The greatest length. -/
def maxL : Int := 2199023256552
theorem len_bound {n : Int} {es : List Ed} {pot : List Int} (hr : rightB n es = true) (hp : potB n pot = true) {a : Nat} (ha : a < 2 * es.length) : -maxL ≤ lenA es pot a ∧ lenA es pot a ≤ maxL := by
  obtain ⟨_, _, h3, h4⟩ := ends_node hr ha
  have h := (pot_cap hp).2
  have h1 := h (endsE es a).1.toNat
  have h2 := h (endsE es a).2.1.toNat
  unfold lenA potAt maxL
  omega
theorem fits_parts {n : Int} {es : List Ed} {fl pot : List Int} (h : fitsB n es fl pot = true) : withinB n es fl = true ∧ rightB n es = true ∧ potB n pot = true ∧ tightB es fl pot = true := by
  simp only [fitsB, Bool.and_eq_true] at h
  exact ⟨h.1.1, (within_cap h.1.1).2.1, h.1.2, h.2⟩
/-- The arcs of what fits. -/
theorem fits_net {n : Nat} {es : List Ed} {fl pot : List Int} (h : fitsB n es fl pot = true) {src : Nat → Prop} (hs : ∀ s, src s → s < n) : Net (arcsL es fl pot) src n maxL := by
  obtain ⟨hw, hr, hp, ht⟩ := fits_parts h
  refine ⟨fun a ha => ?_, fun a ha => ?_, fun a ha => ?_, fun a ha => ?_, hs⟩ <;> (obtain ⟨k, h1, h2, rfl⟩ := arcs_mem.1 ha)
  · have := (ends_node hr h1).1; unfold arcAt; dsimp only; omega
  · have := (ends_node hr h1).2.1; unfold arcAt; dsimp only; omega
  · exact tight_at ht h1 h2
  · exact (len_bound hr hp h1).2
end Go.PathP
namespace Go.PathP
open Go Go.Mem Go.NetP Go.RestP Go.CertP

section
variable {A : List Ar} {src : Nat → Prop} {N : Nat} {M : Int} {r : Int} {pre : List Ar} {D H : List Int}
/-- As many rounds as there are nodes. -/
theorem BF.least (h : BF A src N M r [] D H) (hr : (N : Int) ≤ r) : Least A src N (g D) (g H) :=
  h.real.least fun v x y p => fix_min (fun s q => h.le s 0 0 (.nil q) (by omega)) (fun a ha h0 => by
    rcases h.real a.u (h.net.u a ha) with q | ⟨_, P, q⟩
    · omega
    · have hb := q.bound h.net
      exact h.le _ _ _ (.snoc q.walk ha rfl) (by omega)) p
end
/-- The arcs that have room, from one on. -/
def arcsD (es : List Ed) (fl pot : List Int) (j : Nat) : List Ar := (arcsL es fl pot).filter fun a => decide (j ≤ a.k)
theorem arcsD_mem {es : List Ed} {fl pot : List Int} {j : Nat} {a : Ar} : a ∈ arcsD es fl pot j ↔ ∃ k, j ≤ k ∧ k < 2 * es.length ∧ 0 < roomE es fl k ∧ a = arcAt es pot k := by
  unfold arcsD arcsL
  rw [List.mem_filter, arcs_mem]
  constructor
  · rintro ⟨⟨k, h1, h2, rfl⟩, h3⟩
    exact ⟨k, of_decide_eq_true h3, h1, h2, rfl⟩
  · rintro ⟨k, h0, h1, h2, rfl⟩
    exact ⟨⟨k, h1, h2, rfl⟩, decide_eq_true h0⟩
section
variable {es : List Ed} {fl pot D H : List Int} {v j : Nat} {b : Int}
theorem byD_no (h : IsBy (arcsD es fl pot (j + 1)) D H v b) (hn : roomE es fl j ≤ 0 ∨ byC D H v (arcAt es pot j) = false) : IsBy (arcsD es fl pot j) D H v b := by
  rcases h with ⟨rfl, h⟩ | ⟨c, h1, h2, rfl, h3⟩
  · refine .inl ⟨rfl, fun a ha => ?_⟩
    obtain ⟨k, q1, q2, q3, rfl⟩ := arcsD_mem.1 ha
    by_cases e : k = j
    · subst e
      rcases hn with hn | hn
      · omega
      · exact hn
    · exact h _ (arcsD_mem.2 ⟨k, by omega, q2, q3, rfl⟩)
  · obtain ⟨k, q1, q2, q3, rfl⟩ := arcsD_mem.1 h1
    refine .inr ⟨_, arcsD_mem.2 ⟨k, by omega, q2, q3, rfl⟩, h2, rfl, fun d hd hc => ?_⟩
    obtain ⟨k', p1, p2, p3, rfl⟩ := arcsD_mem.1 hd
    by_cases e : k' = j
    · subst e
      rcases hn with hn | hn
      · omega
      · rw [hn] at hc; cases hc
    · exact h3 _ (arcsD_mem.2 ⟨k', by omega, p2, p3, rfl⟩) hc
theorem byD_yes (hj : j < 2 * es.length) (hr : 0 < roomE es fl j) (hc : byC D H v (arcAt es pot j) = true) : IsBy (arcsD es fl pot j) D H v j := by
  refine .inr ⟨_, arcsD_mem.2 ⟨j, Nat.le_refl _, hj, hr, rfl⟩, hc, rfl, fun d hd _ => ?_⟩
  obtain ⟨k', p1, p2, p3, rfl⟩ := arcsD_mem.1 hd
  exact p1
theorem byD_end (h : IsBy (arcsD es fl pot 0) D H v b) : IsBy (arcsL es fl pot) D H v b := h.same fun a => by
  unfold arcsD
  rw [List.mem_filter]
  exact ⟨fun q => q.1, fun q => ⟨q, by simp⟩⟩
theorem by_zero {L : List Ar} (hH : g H v = 0) : IsBy L D H v (-1) := .inl ⟨rfl, fun a _ => by
  rw [Bool.eq_false_iff]; intro q
  have := byC_iff.1 q
  omega⟩
end
/-- Behind some of the nodes from which the ways lead, by definition. -/
structure RS (n : Nat) (zs : List Int) (k : Nat) (D : List Int) : Prop where
  len : D.length = n
  all_ : ∀ z ∈ zs.take k, 0 ≤ z ∧ z < n
  at_ : ∀ v, v < n → (v ∈ (zs.take k).map Int.toNat ∧ g D v = 0) ∨ (v ∉ (zs.take k).map Int.toNat ∧ g D v = -1)
theorem RS.step {n : Nat} {zs : List Int} {k : Nat} {D : List Int} (h : RS n zs k D) (hk : k < zs.length) {u : Nat} (hu : zs.getD k 0 = u) (hun : u < n) : RS n zs (k + 1) (D.set u 0) := by
  have e : zs.take (k + 1) = zs.take k ++ [(u : Int)] := by
    rw [List.take_succ_eq_append_getElem hk]
    rw [List.getD_eq_getElem?_getD, List.getElem?_eq_getElem hk] at hu
    simp only [Option.getD_some] at hu
    rw [hu]
  refine ⟨by rw [List.length_set]; exact h.len, fun z hz => ?_, fun v hv => ?_⟩
  · rw [e] at hz
    rcases List.mem_append.1 hz with hz | hz
    · exact h.all_ z hz
    · simp at hz; subst hz; omega
  · rw [e, List.map_append, g_set (by rw [h.len]; exact hun)]
    by_cases q : u = v
    · subst q
      rw [upd_same]
      exact .inl ⟨by simp, rfl⟩
    · rw [upd_ne _ _ q]
      rcases h.at_ v hv with ⟨h1, h2⟩ | ⟨h1, h2⟩
      · exact .inl ⟨by simp only [List.mem_append]; exact .inl h1, h2⟩
      · refine .inr ⟨fun hm => ?_, h2⟩
        rcases List.mem_append.1 hm with hm | hm
        · exact h1 hm
        · simp at hm; omega
/-- The last arcs of the first nodes. -/
structure BO (es : List Ed) (fl pot D H : List Int) (n q : Nat) (B : List Int) : Prop where
  len : B.length = n
  done : ∀ w, w < q → IsBy (arcsL es fl pot) D H w (g B w)
  rest : ∀ w, q ≤ w → w < n → g B w = -1
/-- The same, and at a node behind some arcs. -/
structure BD (es : List Ed) (fl pot D H : List Int) (n q j : Nat) (B : List Int) : Prop where
  len : B.length = n
  done : ∀ w, w < q → IsBy (arcsL es fl pot) D H w (g B w)
  now : IsBy (arcsD es fl pot j) D H q (g B q)
  rest : ∀ w, q < w → w < n → g B w = -1
section
variable {es : List Ed} {fl pot D H B : List Int} {n q j : Nat}
theorem BO.zero (h : BO es fl pot D H n q B) (hq : q < n) (hH : g H q = 0) : BO es fl pot D H n (q + 1) B :=
  ⟨h.len, fun w hw => by
    by_cases e : w = q
    · subst e; rw [h.rest w (Nat.le_refl _) hq]; exact by_zero hH
    · exact h.done w (by omega), fun w h1 h2 => h.rest w (by omega) h2⟩
theorem BD.out (h : BD es fl pot D H n q 0 B) : BO es fl pot D H n (q + 1) B :=
  ⟨h.len, fun w hw => by
    by_cases e : w = q
    · subst e; exact byD_end h.now
    · exact h.done w (by omega), fun w h1 h2 => h.rest w (by omega) h2⟩
theorem BD.no (h : BD es fl pot D H n q (j + 1) B) (hn : roomE es fl j ≤ 0 ∨ byC D H q (arcAt es pot j) = false) : BD es fl pot D H n q j B :=
  ⟨h.len, h.done, byD_no h.now hn, h.rest⟩
theorem BD.yes (h : BD es fl pot D H n q (j + 1) B) (hq : q < n) (hj : j < 2 * es.length) (hr : 0 < roomE es fl j) (hc : byC D H q (arcAt es pot j) = true) : BD es fl pot D H n q j (B.set q j) := by
  have e : g (B.set q (j : Int)) = upd (g B) q j := g_set (by rw [h.len]; exact hq) _
  refine ⟨by rw [List.length_set]; exact h.len, fun w hw => ?_, ?_, fun w h1 h2 => ?_⟩
  · rw [e, upd_ne _ _ (by omega)]; exact h.done w hw
  · rw [e, upd_same]; exact byD_yes hj hr hc
  · rw [e, upd_ne _ _ (by omega)]; exact h.rest w h1 h2
end
section
variable {es : List Ed} {fl pot : List Int} {src : Nat → Prop} {N : Nat} {M r : Int} {m : Nat} {D H : List Int}
theorem BF.skip (h : BF (arcsL es fl pot) src N M r (arcsN es fl pot m) D H) (hr : roomE es fl m ≤ 0) : BF (arcsL es fl pot) src N M r (arcsN es fl pot (m + 1)) D H := by
  rw [arcsN_succ]
  unfold hasRoom
  rw [if_neg (by simp; omega), List.append_nil]
  exact h
theorem BF.arc (h : BF (arcsL es fl pot) src N M r (arcsN es fl pot m) D H) (hm : m < 2 * es.length) (hr : 0 < roomE es fl m) (S : List Int × List Int) (hS : S = relB (D, H) (arcAt es pot m)) : BF (arcsL es fl pot) src N M r (arcsN es fl pot (m + 1)) S.1 S.2 := by
  rw [arcsN_succ]
  unfold hasRoom
  rw [if_pos (by simp; exact hr)]
  exact h.step (arcs_mem.2 ⟨m, hm, hr, rfl⟩) S hS
end
end Go.PathP
namespace Go.PathP
open Go Go.Mem Go.NetP Go.RestP Go.CertP

section
variable {A : List Ar} {src src' : Nat → Prop} {N : Nat} {M : Int} {D B D' B' : List Int}
theorem Walk.mono (hs : ∀ s, src s → src' s) {v : Nat} {x y : Int} (p : Walk A src v x y) : Walk A src' v x y := by
  induction p with
  | nil q => exact .nil (hs _ q)
  | snoc _ ha hu ih => exact .snoc ih ha hu
theorem Walk.pos (hN : Net A src N M) {v : Nat} {x y : Int} (p : Walk A src v x y) : 0 ≤ x ∧ 0 ≤ y := by
  induction p with
  | nil => omega
  | snoc _ ha _ ih => have := hN.l0 _ ha; omega
theorem Walk.zero (hN : Net A src N M) {v : Nat} {x y : Int} (p : Walk A src v x y) (hy : y = 0) : x = 0 ∧ src v := by
  cases p with
  | nil q => exact ⟨rfl, q⟩
  | snoc q _ _ => have := q.pos hN; omega
/-- What is known of each node. -/
structure WH (A : List Ar) (src : Nat → Prop) (N : Nat) (D H B : List Int) : Prop where
  low : ∀ v, v < N → -1 ≤ g D v
  hop : ∀ v, v < N → 0 ≤ g H v ∧ g H v + 1 ≤ N
  no : ∀ v, v < N → g D v = -1 → g H v = 0 ∧ g B v = -1
  src_ : ∀ s, s < N → src s → g D s = 0 ∧ g B s = -1
  arc : ∀ a ∈ A, 0 ≤ g D a.u → 0 ≤ g D a.v ∧ g D a.v ≤ g D a.u + a.len
  none_ : ∀ v, v < N → g B v < 0 → g D v ≤ 0 ∧ g B v = -1
  some_ : ∀ v, v < N → 0 ≤ g B v → ∃ a ∈ A, g B v = a.k ∧ a.v = v ∧ 0 ≤ g D a.u ∧ 0 ≤ g D v ∧ g D v = g D a.u + a.len ∧ g H a.u + 1 = g H v
  max : ∀ v, v < N → ∀ M', (∀ a ∈ A, a.len ≤ M') → 0 ≤ M' → g D v ≤ 39 * M' ∨ 40 < N
theorem WS.wh (h : WS A src N M D B) (hN : 0 < N) : ∃ H : List Int, WH A src N D H B := by
  obtain ⟨H, lH, hr, hl, hb⟩ := h.lab
  have hn := h.net
  have hpos := fun v (hv : v < N) => hr.pos hn hv
  refine ⟨H, fun v hv => ?_, fun v hv => ?_, fun v hv h1 => ?_, fun s hs hss => ?_, fun a ha h0 => ?_, fun v hv hbv => ?_, fun v hv hbv => ?_, fun v hv M' hM h0 => ?_⟩
  · rcases hpos v hv with q | q <;> omega
  · rcases hpos v hv with q | q <;> omega
  · have hz : g H v = 0 := by rcases hpos v hv with q | q <;> omega
    exact ⟨hz, (hb v hv).eq (by_zero hz)⟩
  · have h1 := hl.least s 0 0 (.nil hss)
    unfold LE at h1
    have hz : g H s = 0 := by rcases hpos s hs with q | q <;> omega
    exact ⟨by omega, (hb s hs).eq (by_zero hz)⟩
  · rcases hl.real a.u (hn.u a ha) with q | ⟨_, q⟩
    · omega
    · have := hl.least _ _ _ (.snoc q ha rfl)
      unfold LE at this; omega
  · rcases hb v hv with ⟨e, q⟩ | ⟨a, _, _, e, _⟩
    · refine ⟨?_, e⟩
      rcases hl.real v hv with p | ⟨p0, p⟩
      · omega
      · obtain ⟨X, hX⟩ : ∃ X, X = g D v := ⟨_, rfl⟩
        obtain ⟨Y, hY⟩ : ∃ Y, Y = g H v := ⟨_, rfl⟩
        rw [← hX, ← hY] at p
        cases p with
        | nil _ => omega
        | @snoc u x y a p ha hu =>
          subst hu
          have h1 := hl.least _ _ _ p
          have hu := hn.u a ha
          rcases hl.real a.u hu with r | ⟨_, r⟩
          · unfold LE at h1; omega
          · have h2 := hl.least _ _ _ (.snoc r ha rfl)
            have hp := p.pos hn
            unfold LE at h1 h2
            have : byC D H a.v a = true := byC_iff.2 ⟨rfl, h1.1, by omega, by omega, by omega⟩
            rw [q a ha] at this; cases this
    · omega
  · rcases hb v hv with ⟨e, q⟩ | ⟨a, ha, hc, e, _⟩
    · omega
    · obtain ⟨c1, c2, c3, c4, c5⟩ := byC_iff.1 hc
      have := hn.l0 a ha
      exact ⟨a, ha, e, c1, c2, by omega, by omega, c5⟩
  · rcases hr v hv with p | ⟨p0, P, p⟩
    · exact .inl (by omega)
    · have hN' : Net A src N M' := ⟨hn.u, hn.v, hn.l0, hM, hn.s⟩
      obtain ⟨q1, q2, q3, q4⟩ := p.bound hN'
      by_cases h40 : 40 < N
      · exact .inr h40
      · refine .inl ?_
        have : g H v * M' ≤ 39 * M' := Int.mul_le_mul_of_nonneg_right (by omega) h0
        omega
/-- From more nodes nothing is farther. -/
theorem WS.more (h : WS A src N M D B) (h' : WS A src' N M D' B') (hs : ∀ s, src s → src' s) {v : Nat} (hv : v < N) (h0 : 0 ≤ g D v) : 0 ≤ g D' v ∧ g D' v ≤ g D v := by
  obtain ⟨H, _, _, hl, _⟩ := h.lab
  obtain ⟨H', _, _, hl', _⟩ := h'.lab
  rcases hl.real v hv with q | ⟨_, q⟩
  · omega
  · have := hl'.least _ _ _ (q.mono hs)
    unfold LE at this; omega
end
/-- The greatest of some numbers, and 0. -/
def mostN (D : List Int) (k : Nat) : Int := (D.take k).foldl max 0
/-- Numbers raised by the ways' lengths: those of the first k nodes. -/
def raise (pot D : List Int) (m : Int) (v : Nat) : Int := g pot v + if g D v < 0 then m else g D v
def raiseK (pot D : List Int) (m : Int) (k : Nat) : List Int := (List.range pot.length).map fun v => if v < k then raise pot D m v else g pot v
section
variable {N : Nat} {es : List Ed} {fl pot D B : List Int} {src : Nat → Prop}
theorem potAt_g (pot : List Int) (i : Int) : potAt pot i = g pot i.toNat := rfl
end
end Go.PathP
