/-
  Shortest ways by a heap: what stays so. Plain lemmas.
-/
import Derived.Test.YtfafecgnjjkagaaPPlain
namespace Go.PathP
open Go Go.Mem

/-- A list of numbers, as a function. -/
def g (D : List Int) (v : Nat) : Int := D.getD v 0
theorem g_set {D : List Int} {v : Nat} (hv : v < D.length) (x : Int) : g (D.set v x) = upd (g D) v x := by
  funext w
  unfold upd
  show (D.set v x).getD w 0 = if v = w then x else D.getD w 0
  rw [List.getD_eq_getElem?_getD, List.getD_eq_getElem?_getD, List.getElem?_set]
  by_cases h : v = w
  · subst h; simp [hv]
  · simp [h]
abbrev Th := Int × Int
/-- What stays so while nodes are taken from the heap: some arcs of the node that is at hand are to come. -/
structure DJ (A : List Ar) (src : Nat → Prop) (N : Nat) (M : Int) (R : List Ar) (D H : List Int) (Q : List Th) (X : Nat → Nat) (c : Int) : Prop where
  net : Net A src N M
  lD : D.length = N
  lH : H.length = N
  real : Real A src N (g D) (g H)
  src0 : ∀ s, src s → LE (g D) (g H) s 0 0
  low : ∀ q ∈ Q, c ≤ q.1
  ent : ∀ q ∈ Q, ∃ v : Nat, q.2 = v ∧ v < N ∧ 0 ≤ g D v ∧ g D v ≤ q.1
  seen : ∀ v, v < N → 0 < X v → 0 ≤ g D v ∧ g D v ≤ c
  cred : ∀ v, v < N → 0 ≤ g D v → (X v : Int) + (Q.count (g D v, (v : Int)) : Int) + g H v ≤ N
  opn : ∀ a ∈ A, 0 ≤ g D a.u → a ∈ R ∨ LE (g D) (g H) a.v (g D a.u + a.len) (g H a.u + 1) ∨ (g D a.u, (a.u : Int)) ∈ Q

section
variable {A : List Ar} {src : Nat → Prop} {N : Nat} {M : Int} {R : List Ar} {D H : List Int} {Q Q' : List Th} {X : Nat → Nat} {c : Int}
theorem DJ.perm (h : DJ A src N M R D H Q X c) (p : Q.Perm Q') : DJ A src N M R D H Q' X c :=
  ⟨h.net, h.lD, h.lH, h.real, h.src0, fun q hq => h.low q (p.mem_iff.2 hq), fun q hq => h.ent q (p.mem_iff.2 hq), h.seen, fun v hv h0 => by rw [← p.count_eq]; exact h.cred v hv h0,
    fun a ha h0 => (h.opn a ha h0).imp id (Or.imp id p.mem_iff.1)⟩
/-- What was taken is stale. -/
theorem DJ.stale {d : Int} {v : Nat} (h : DJ A src N M [] D H ((d, (v : Int)) :: Q) X c) (hmin : ∀ q ∈ Q, d ≤ q.1) (hne : d ≠ g D v) : DJ A src N M [] D H Q X d :=
  ⟨h.net, h.lD, h.lH, h.real, h.src0, hmin, fun q hq => h.ent q (List.mem_cons_of_mem _ hq),
    fun w hw hx => by have h1 := h.seen w hw hx; have h2 := h.low _ List.mem_cons_self; dsimp only at h2; omega,
    fun w hw h0 => by
      have := h.cred w hw h0
      rw [List.count_cons] at this
      split at this <;> omega,
    fun a ha h0 => by
      rcases h.opn a ha h0 with p | p | p
      · exact absurd p (by simp)
      · exact .inr (.inl p)
      · rcases List.mem_cons.1 p with e | p
        · injection e with e1 e2
          have : a.u = v := by omega
          subst this
          exact absurd e1.symm hne
        · exact .inr (.inr p)⟩
def bump (X : Nat → Nat) (u : Nat) : Nat → Nat := fun v => if u = v then X v + 1 else X v
/-- What was taken is at hand. -/
theorem DJ.live {d : Int} {u : Nat} (h : DJ A src N M [] D H ((d, (u : Int)) :: Q) X c) (hmin : ∀ q ∈ Q, d ≤ q.1) (he : d = g D u) : DJ A src N M (A.filter fun a => a.u == u) D H Q (bump X u) d ∧ X u < N ∧ u < N ∧ 0 ≤ g D u := by
  obtain ⟨v, e1, e2, e3, e4⟩ := h.ent _ List.mem_cons_self
  dsimp only at e1 e4
  obtain rfl : u = v := by omega
  have hc := h.low _ List.mem_cons_self
  dsimp only at hc
  have hcr := h.cred u e2 e3
  rw [List.count_cons] at hcr
  have hp := h.real.pos h.net e2
  have hb : ((d, (u : Int)) == (g D u, (u : Int))) = true := by rw [he]; simp
  rw [if_pos hb] at hcr
  refine ⟨⟨h.net, h.lD, h.lH, h.real, h.src0, hmin, fun q hq => h.ent q (List.mem_cons_of_mem _ hq), fun w hw hx => ?_, fun w hw h0 => ?_, fun a ha h0 => ?_⟩, by omega, e2, e3⟩
  · unfold bump at hx
    by_cases e : u = w
    · subst e; omega
    · rw [if_neg e] at hx
      have := h.seen w hw hx; omega
  · unfold bump
    by_cases e : u = w
    · subst e; rw [if_pos rfl]; omega
    · rw [if_neg e]
      have := h.cred w hw h0
      rw [List.count_cons] at this
      split at this <;> omega
  · rcases h.opn a ha h0 with p | p | p
    · exact absurd p (by simp)
    · exact .inr (.inl p)
    · rcases List.mem_cons.1 p with e | p
      · injection e with e1 e2
        have : a.u = u := by omega
        exact .inl (List.mem_filter.2 ⟨ha, by simp [this]⟩)
      · exact .inr (.inr p)
/-- One arc of the node that is at hand. -/
def goStep (u : Nat) (S : List Int × List Int × List Th) (a : Ar) : List Int × List Int × List Th :=
  if bet (g S.1) (g S.2.1) a.v (g S.1 u + a.len) (g S.2.1 u + 1) then (S.1.set a.v (g S.1 u + a.len), S.2.1.set a.v (g S.2.1 u + 1), (g S.1 u + a.len, (a.v : Int)) :: S.2.2) else S
theorem count_zero {Q : List Th} {q : Th} (h : q ∉ Q) : Q.count q = 0 := List.count_eq_zero.2 h
theorem DJ.step {a : Ar} {u : Nat} (h : DJ A src N M (a :: R) D H Q X c) (hc : g D u = c) (h0 : 0 ≤ g D u) (ha : a ∈ A) (hu : a.u = u) (S : List Int × List Int × List Th) (hS : S = goStep u (D, H, Q) a) :
    DJ A src N M R S.1 S.2.1 S.2.2 X c ∧ g S.1 u = c ∧ g S.2.1 u = g H u := by
  subst hu
  have hv := h.net.v _ ha
  have hul := h.net.u _ ha
  have hl0 := h.net.l0 _ ha
  unfold goStep at hS
  dsimp only at hS
  by_cases hb : bet (g D) (g H) a.v (g D a.u + a.len) (g H a.u + 1) = true
  rotate_left
  · rw [if_neg hb] at hS
    subst hS
    refine ⟨⟨h.net, h.lD, h.lH, h.real, h.src0, h.low, h.ent, h.seen, h.cred, fun b hb' hb0 => ?_⟩, hc, rfl⟩
    rcases h.opn b hb' hb0 with p | p | p
    · rcases List.mem_cons.1 p with e | p
      · subst e
        refine .inr (.inl (bet_no (d := g D) (h := g H) ?_ (by simpa using hb)))
        rcases h.real.pos h.net hv with q | q
        · exact .inl q.1
        · exact .inr q.1
      · exact .inl p
    · exact .inr (.inl p)
    · exact .inr (.inr p)
  rw [if_pos hb] at hS
  obtain ⟨x, hx⟩ : ∃ x, x = g D a.u + a.len := ⟨_, rfl⟩
  obtain ⟨y, hy⟩ : ∃ y, y = g H a.u + 1 := ⟨_, rfl⟩
  have hre := h.real.relax h.net ha h0 hb
  have hmo := upd_mono (show 0 ≤ g D a.u + a.len by omega) hb
  rw [← hx, ← hy] at hb hS hre hmo
  have hbi := bet_iff.1 hb
  have gD : g (D.set a.v x) = upd (g D) a.v x := g_set (by rw [h.lD]; exact hv) x
  have gH : g (H.set a.v y) = upd (g H) a.v y := g_set (by rw [h.lH]; exact hv) y
  have hne : a.v ≠ a.u := fun e => by
    rw [e] at hbi
    omega
  have hcx : c ≤ x := by omega
  have hpn := hre.pos h.net hv
  rw [upd_same, upd_same] at hpn
  subst hS
  dsimp only
  rw [gD, gH]
  refine ⟨⟨h.net, by rw [List.length_set]; exact h.lD, by rw [List.length_set]; exact h.lH, by rw [gD, gH]; exact hre, fun s hs => by rw [gD, gH]; exact hmo _ _ _ (h.src0 s hs), fun q hq => ?_, fun q hq => ?_, fun v hv' hX => ?_, fun v hv' hd => ?_, fun b hb' hb0 => ?_⟩, by rw [upd_ne _ _ hne]; exact hc, by rw [upd_ne _ _ hne]⟩
  · rcases List.mem_cons.1 hq with rfl | hq
    · exact hcx
    · exact h.low q hq
  · rw [gD]
    rcases List.mem_cons.1 hq with rfl | hq
    · exact ⟨a.v, rfl, hv, by rw [upd_same]; omega, by rw [upd_same]; exact Int.le_refl _⟩
    · obtain ⟨v, e1, e2, e3, e4⟩ := h.ent q hq
      refine ⟨v, e1, e2, ?_⟩
      by_cases e : a.v = v
      · subst e; rw [upd_same]; omega
      · rw [upd_ne _ _ e]; exact ⟨e3, e4⟩
  · rw [gD]
    have := h.seen v hv' hX
    by_cases e : a.v = v
    · subst e; rw [upd_same]; omega
    · rw [upd_ne _ _ e]; exact this
  · rw [gD] at hd ⊢
    rw [gH]
    by_cases e : a.v = v
    · subst e
      rw [upd_same, upd_same, List.count_cons, if_pos (by simp)]
      by_cases hold : g D a.v = x
      · have hcr := h.cred a.v hv (by omega)
        rw [hold] at hcr
        omega
      · have hX : X a.v = 0 := by
          rcases Nat.eq_zero_or_pos (X a.v) with q | q
          · exact q
          · have := h.seen _ hv q; omega
        have hnm : (x, (a.v : Int)) ∉ Q := fun hm => by
          obtain ⟨v, e1, e2, e3, e4⟩ := h.ent _ hm
          dsimp only at e1 e4
          obtain rfl : a.v = v := by omega
          omega
        rw [count_zero hnm, hX]
        omega
    · rw [upd_ne _ _ e] at hd ⊢
      rw [upd_ne _ _ e, List.count_cons, if_neg (by simp; intro _; omega)]
      exact h.cred v hv' hd
  · rw [gD] at hb0 ⊢
    rw [gH]
    by_cases e : a.v = b.u
    · refine .inr (.inr ?_)
      rw [← e, upd_same]
      exact List.mem_cons_self
    · rw [upd_ne _ _ e] at hb0 ⊢
      rw [upd_ne _ _ e]
      rcases h.opn b hb' hb0 with p | p | p
      · rcases List.mem_cons.1 p with e' | p
        · subst e'
          refine .inr (.inl ?_)
          unfold LE
          rw [upd_same, upd_same]
          omega
        · exact .inl p
      · exact .inr (.inl (hmo _ _ _ p))
      · exact .inr (.inr (List.mem_cons_of_mem _ p))
def goF (u : Nat) (O : List Ar) (S : List Int × List Int × List Th) : List Int × List Int × List Th := O.foldl (goStep u) S
theorem goStep_len (u : Nat) (S : List Int × List Int × List Th) (a : Ar) : (goStep u S a).2.2.length ≤ S.2.2.length + 1 := by
  unfold goStep; split <;> simp
theorem goF_len (u : Nat) : ∀ (O : List Ar) (S : List Int × List Int × List Th), (goF u O S).2.2.length ≤ S.2.2.length + O.length
  | [], S => by simp [goF]
  | a :: O, S => by
    have h1 := goF_len u O (goStep u S a)
    have h2 := goStep_len u S a
    have : goF u (a :: O) S = goF u O (goStep u S a) := rfl
    rw [this, List.length_cons]; omega
theorem DJ.goes {u : Nat} : ∀ (R : List Ar) (D H : List Int) (Q : List Th), DJ A src N M R D H Q X c → g D u = c → 0 ≤ g D u → (∀ a ∈ R, a ∈ A ∧ a.u = u) → ∀ S, S = goF u R (D, H, Q) → DJ A src N M [] S.1 S.2.1 S.2.2 X c
  | [], D, H, Q, h, _, _, _, S, hS => by subst hS; exact h
  | a :: R, D, H, Q, h, hc, h0, hR, S, hS => by
    obtain ⟨ha, hu⟩ := hR a List.mem_cons_self
    obtain ⟨h1, h2, h3⟩ := h.step hc h0 ha hu _ rfl
    exact DJ.goes R _ _ _ h1 h2 (by rw [h2]; omega) (fun b hb => hR b (List.mem_cons_of_mem _ hb)) S (by rw [hS]; rfl)
/-- How much is to come at most. -/
def mu (A : List Ar) (N : Nat) (X : Nat → Nat) : Nat := (A.map fun a => N - X a.u).sum
theorem mu_bump (N : Nat) (X : Nat → Nat) (u : Nat) (hu : X u < N) : ∀ A : List Ar, mu A N (bump X u) + (A.filter fun a => a.u == u).length = mu A N X
  | [] => rfl
  | a :: A => by
    have ih := mu_bump N X u hu A
    unfold mu at ih ⊢
    rw [List.map_cons, List.map_cons, List.sum_cons, List.sum_cons, List.filter_cons]
    by_cases e : a.u = u
    · rw [if_pos (by simp [e]), List.length_cons]
      unfold bump at ih ⊢
      rw [e, if_pos rfl]
      omega
    · rw [if_neg (by simp [e])]
      unfold bump at ih ⊢
      rw [if_neg (fun q => e q.symm)]
      omega
theorem mu_le (N : Nat) (X : Nat → Nat) : ∀ A : List Ar, mu A N X ≤ A.length * N
  | [] => by simp [mu]
  | a :: A => by
    have := mu_le N X A
    unfold mu at this ⊢
    rw [List.map_cons, List.sum_cons, List.length_cons, Nat.add_mul]
    omega
/-- Nothing is left: the labels are the least ones. -/
theorem DJ.least (h : DJ A src N M [] D H [] X c) : Least A src N (g D) (g H) :=
  h.real.least fun v x y p => fix_min h.src0 (fun a ha h0 => by
    rcases h.opn a ha h0 with q | q | q
    · exact absurd q (by simp)
    · exact q
    · exact absurd q (by simp)) p
end
/-- The nodes from which the ways lead, one by one. -/
def begStep (S : List Int × List Th) (v : Nat) : List Int × List Th := if g S.1 v = 0 then S else (S.1.set v 0, (0, (v : Int)) :: S.2)
structure BG (N : Nat) (pre : List Nat) (S : List Int × List Th) : Prop where
  lD : S.1.length = N
  val : ∀ v, v < N → (v ∈ pre ∧ g S.1 v = 0 ∧ S.2.count (0, (v : Int)) = 1) ∨ (v ∉ pre ∧ g S.1 v = -1 ∧ S.2.count (0, (v : Int)) = 0)
  ent : ∀ q ∈ S.2, ∃ v, v ∈ pre ∧ q = (0, (v : Int))
theorem BG.start (N : Nat) : BG N [] (List.replicate N (-1), []) where
  lD := by simp
  val v hv := .inr ⟨by simp, by simp [g, hv], by simp⟩
  ent q hq := by simp at hq
theorem BG.step {N : Nat} {pre : List Nat} {S : List Int × List Th} (h : BG N pre S) {v : Nat} (hv : v < N) : BG N (pre ++ [v]) (begStep S v) := by
  unfold begStep
  by_cases e : g S.1 v = 0
  · rw [if_pos e]
    have hvp : v ∈ pre := by
      rcases h.val v hv with ⟨q, _, _⟩ | ⟨_, q, _⟩
      · exact q
      · omega
    refine ⟨h.lD, fun w hw => ?_, fun q hq => ?_⟩
    · rcases h.val w hw with ⟨q1, q2, q3⟩ | ⟨q1, q2, q3⟩
      · exact .inl ⟨List.mem_append_left _ q1, q2, q3⟩
      · refine .inr ⟨fun hm => ?_, q2, q3⟩
        rcases List.mem_append.1 hm with hm | hm
        · exact q1 hm
        · simp at hm; subst hm; exact q1 hvp
    · obtain ⟨w, h1, h2⟩ := h.ent q hq
      exact ⟨w, List.mem_append_left _ h1, h2⟩
  · rw [if_neg e]
    refine ⟨by simpa using h.lD, fun w hw => ?_, fun q hq => ?_⟩
    · dsimp only
      rw [g_set (by rw [h.lD]; exact hv), List.count_cons]
      by_cases ew : v = w
      · subst ew
        rw [upd_same, if_pos (by simp)]
        rcases h.val v hv with ⟨_, q, _⟩ | ⟨_, _, q⟩
        · exact absurd q e
        · exact .inl ⟨by simp, rfl, by omega⟩
      · rw [upd_ne _ _ ew, if_neg (by simp; omega)]
        rcases h.val w hw with ⟨q1, q2, q3⟩ | ⟨q1, q2, q3⟩
        · exact .inl ⟨List.mem_append_left _ q1, q2, q3⟩
        · refine .inr ⟨fun hm => ?_, q2, q3⟩
          rcases List.mem_append.1 hm with hm | hm
          · exact q1 hm
          · simp at hm; exact ew hm.symm
    · rcases List.mem_cons.1 hq with rfl | hq
      · exact ⟨v, by simp, rfl⟩
      · obtain ⟨w, h1, h2⟩ := h.ent q hq
        exact ⟨w, List.mem_append_left _ h1, h2⟩
/-- At the start. -/
theorem BG.dj {A : List Ar} {N : Nat} {M : Int} {from_ : List Nat} {D : List Int} {Q : List Th} (h : BG N from_ (D, Q)) (hn : Net A (· ∈ from_) N M) : DJ A (· ∈ from_) N M [] D (List.replicate N 0) Q (fun _ => 0) 0 := by
  have hH : ∀ v, g (List.replicate N 0) v = 0 := fun v => by unfold g; rw [List.getD_eq_getElem?_getD, List.getElem?_replicate]; split <;> rfl
  have hs : ∀ s, s ∈ from_ → g D s = 0 := fun s hs => by
    rcases h.val s (hn.s s hs) with ⟨_, q, _⟩ | ⟨q, _, _⟩
    · exact q
    · exact absurd hs q
  have hsl : ∀ s, s ∈ from_ → LE (g D) (g (List.replicate N 0)) s 0 0 := fun s q => by unfold LE; rw [hs s q, hH]; omega
  refine ⟨hn, h.lD, by simp, fun v hv => ?_, hsl, fun q hq => ?_, fun q hq => ?_, fun v _ hx => by omega, fun v hv h0 => ?_, fun a ha h0 => ?_⟩
  · rcases h.val v hv with ⟨q1, q2, _⟩ | ⟨_, q2, _⟩
    · refine .inr ⟨by rw [q2]; omega, [v], ?_⟩
      rw [q2, hH]
      exact .nil q1 (hsl v q1)
    · exact .inl ⟨q2, hH v⟩
  · obtain ⟨v, _, rfl⟩ := h.ent q hq; exact Int.le_refl _
  · obtain ⟨v, q1, rfl⟩ := h.ent q hq
    exact ⟨v, rfl, hn.s v q1, by rw [hs v q1]; exact Int.le_refl _, by rw [hs v q1]; exact Int.le_refl _⟩
  · rcases h.val v hv with ⟨_, q2, q3⟩ | ⟨_, q2, _⟩
    · rw [q2, hH]
      dsimp only at q3
      rw [q3]
      omega
    · dsimp only at q2; omega
  · have hu := hn.u a ha
    rcases h.val a.u hu with ⟨_, q2, q3⟩ | ⟨_, q2, _⟩
    · refine .inr (.inr ?_)
      dsimp only at q2 q3
      rw [q2]
      exact List.count_pos_iff.1 (by omega)
    · dsimp only at q2; omega
end Go.PathP
