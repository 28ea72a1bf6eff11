/-
  The best flow, as it is found: a fill. Plain lemmas.
-/
import Derived.Test.YtacbfpgijmpilaaSB
set_option linter.unusedVariables false
set_option linter.unusedSimpArgs false
namespace Go.SolveP
open Go Go.Mem Go.NetP Go.RestP Go.CertP Go.PathP

/-- A solver's numbers. -/
structure St where
  es : List Ed
  fl : List Int
  pot : List Int
  ov : List Int
  steps : Nat
/-- What stays so. -/
structure SI (N : Nat) (S : St) : Prop where
  fits : fitsB N S.es S.fl S.pot = true
  small : ∀ v, v < N → -1073741824 ≤ g S.pot v ∧ g S.pot v ≤ 1073741824
  lov : S.ov.length = N
  ov : ∀ v, v < N → g S.ov v = exc S.es S.fl v
def wayT (N : Nat) (S : St) (B : List Int) (t : Nat) : List (Nat × Nat) := backF S.es B N t
def mostT (N : Nat) (S : St) (B : List Int) (t : Nat) : Int := min (botF S.es S.fl (wayT N S B t) (-(g S.ov t))) (g S.ov (rootF t (wayT N S B t)))
def ovT (N : Nat) (S : St) (B : List Int) (t : Nat) : List Int :=
  (S.ov.set (rootF t (wayT N S B t)) (g S.ov (rootF t (wayT N S B t)) - mostT N S B t)).set t (g (S.ov.set (rootF t (wayT N S B t)) (g S.ov (rootF t (wayT N S B t)) - mostT N S B t)) t + mostT N S B t)
def flT (N : Nat) (S : St) (B : List Int) (t : Nat) : List Int := pushP S.fl (wayT N S B t) (mostT N S B t)
def fillS (N : Nat) (S : St) (D B : List Int) (t : Nat) : St :=
  { es := S.es, fl := flT N S B t, pot := narrowF S.es (flT N S B t) (raiseN S.pot D (g D t) N) N, ov := ovT N S B t, steps := S.steps + 1 }
/-- What is known when a way is to be filled. -/
structure FH (N : Nat) (S : St) (D B : List Int) (t : Nat) : Prop where
  si : SI N S
  src : srcK S.ov N ≠ []
  ws : WS (arcsL S.es S.fl S.pot) (· ∈ fromN (srcK S.ov N)) N maxL D B
  near : nearK S.ov D N = t
def FillR (N : Nat) (S S' : St) : Prop := ∃ D B t, FH N S D B t ∧ S' = fillS N S D B t
theorem FillR.det {N : Nat} {S S' S'' : St} (h : FillR N S S') (h' : FillR N S S'') : S' = S'' := by
  obtain ⟨D, B, t, h1, rfl⟩ := h
  obtain ⟨D', B', t', h2, rfl⟩ := h'
  obtain ⟨rfl, rfl⟩ := h1.ws.eq h2.ws
  have : t = t' := by have := h1.near.symm.trans h2.near; omega
  rw [this]
/-- How much is over. -/
def phi (ov : List Int) : Nat → Nat
  | 0 => 0
  | k + 1 => phi ov k + (g ov k).toNat
theorem phi_zero (ov : List Int) : ∀ k, srcK ov k = [] → ∀ v, v < k → g ov v ≤ 0 := by
  intro k h v hv
  rcases Int.lt_or_le 0 (g ov v) with q | q
  · have : (v : Int) ∈ srcK ov k := srcK_mem.2 ⟨v, hv, q, rfl⟩
    rw [h] at this; simp at this
  · exact q
theorem phi_set {ov : List Int} {s : Nat} {x : Int} (hs : s < ov.length) : ∀ k, phi (ov.set s x) k + (if s < k then (g ov s).toNat else 0) = phi ov k + (if s < k then x.toNat else 0)
  | 0 => by simp [phi]
  | k + 1 => by
    have ih := phi_set (x := x) hs k
    unfold phi
    rw [g_set hs]
    by_cases e : s = k
    · subst e
      rw [upd_same, if_pos (by omega), if_pos (by omega)]
      rw [if_neg (by omega), if_neg (by omega)] at ih
      omega
    · rw [upd_ne _ _ e]
      by_cases q : s < k
      · rw [if_pos (by omega), if_pos (by omega)]
        rw [if_pos q, if_pos q] at ih
        omega
      · rw [if_neg (by omega), if_neg (by omega)]
        rw [if_neg q, if_neg q] at ih
        omega
section
variable {N : Nat} {S : St} {D B : List Int} {t : Nat}
theorem len_flip (es : List Ed) (pot : List Int) (a : Nat) : lenA es pot (Mem.flip a) = -lenA es pot a := by
  unfold lenA; rw [ends_flip]; dsimp only; omega
theorem len_raise {es : List Ed} {pot D : List Int} {dt : Int} (hr : rightB N es = true) (hl : pot.length = N) {k : Nat} (hk : k < 2 * es.length) :
    lenA es (raiseN pot D dt N) k = lenA es pot k + clip D dt (endsE es k).1.toNat - clip D dt (endsE es k).2.1.toNat := by
  obtain ⟨e1, e2, _⟩ := ends_node hr hk
  have h1 := raiseN_at (pot := pot) (D := D) (dt := dt) (k := N) (v := (endsE es k).1.toNat) (by omega)
  have h2 := raiseN_at (pot := pot) (D := D) (dt := dt) (k := N) (v := (endsE es k).2.1.toNat) (by omega)
  rw [if_pos (by omega)] at h1 h2
  show (endsE es k).2.2 + g (raiseN pot D dt N) (endsE es k).1.toNat - g (raiseN pot D dt N) (endsE es k).2.1.toNat = (endsE es k).2.2 + g pot (endsE es k).1.toNat - g pot (endsE es k).2.1.toNat + _ - _
  omega
theorem g_mem {Y : List Int} {v : Nat} (h : v < Y.length) : g Y v ∈ Y := by
  unfold g
  rw [List.getD_eq_getElem?_getD, List.getElem?_eq_getElem h]
  exact List.getElem_mem _
/-- What the walk is told of a fill. -/
structure FF (N : Nat) (S : St) (D B : List Int) (t : Nat) : Prop where
  tN : t < N
  ovt : g S.ov t < 0
  dt0 : 0 ≤ g D t
  dt1 : g D t ≤ 83751901272
  way : ∀ p ∈ wayT N S B t, p.1 < 2 * S.es.length ∧ p.2 < N ∧ 0 < roomE S.es S.fl p.1 ∧ (endsE S.es p.1).1 = p.2
  wlen : (wayT N S B t).length ≤ N
  root : rootF t (wayT N S B t) < N
  ovr : 0 < g S.ov (rootF t (wayT N S B t))
  m0 : 0 < mostT N S B t
  m1 : mostT N S B t ≤ 900719925474099200
  si : SI N (fillS N S D B t)
  less : phi (fillS N S D B t).ov N < phi S.ov N
  raised : ∀ k v, k ≤ N → v < N → -1073741824 ≤ g (raiseN S.pot D (g D t) k) v ∧ g (raiseN S.pot D (g D t) k) v ≤ 84825643096
  tight : tightB S.es (flT N S B t) (raiseN S.pot D (g D t) N) = true
  within : withinB N S.es (flT N S B t) = true
theorem back_len (es : List Ed) (B : List Int) : ∀ k v, (backF es B k v).length ≤ k
  | 0, _ => Nat.le_refl _
  | k + 1, v => by
    unfold backF
    split
    · simp
    · rw [List.length_cons]; have := back_len es B k (endsE es (g B v).toNat).1.toNat; omega
theorem FH.ff (h : FH N S D B t) : FF N S D B t := by
  obtain ⟨hsi, hsrc, hws, hnear⟩ := h
  obtain ⟨hw, hr, hp, ht⟩ := fits_parts hsi.fits
  obtain ⟨hn1, hn40, hes, _, _⟩ := right_cap hr
  have hpl : S.pot.length = N := by have := (pot_cap hp).1; omega
  obtain ⟨H, hh⟩ := hws.wh (by omega)
  have hn := hws.net
  obtain ⟨t', ht', htN, hovt, hDt⟩ := reach hw hsi.ov hsrc hh
  obtain rfl : t = t' := by have := hnear.symm.trans ht'; omega
  have hbw : BW (arcsL S.es S.fl S.pot) D H B t (wayT N S B t) := back_bw hh hn N t htN (by have := (hh.hop t htN).2; omega)
  obtain ⟨r1, r2, r3⟩ := hbw.root hn htN hDt
  have rsrc : 0 < g S.ov (rootF t (wayT N S B t)) := (src_from.1 (WS.root hws r1 r2 r3)).2
  have hA : ∀ a ∈ arcsL S.es S.fl S.pot, ∃ k, k < 2 * S.es.length ∧ a = PathP.arcAt S.es S.pot k := fun a ha => by
    obtain ⟨k, h1, _, h3⟩ := arcs_mem.1 ha; exact ⟨k, h1, h3⟩
  have hway : ∀ p ∈ wayT N S B t, p.1 < 2 * S.es.length ∧ p.2 < N ∧ 0 < roomE S.es S.fl p.1 ∧ (endsE S.es p.1).1 = p.2 := fun p hp => by
    obtain ⟨a, ha, e1, e2, _⟩ := hbw.all hn p hp
    obtain ⟨k, k1, k2, rfl⟩ := arcs_mem.1 ha
    have ek : (PathP.arcAt S.es S.pot k).k = k := rfl
    rw [ek] at e1
    subst e1
    have := (ends_arc (pot := S.pot) hr k1).1
    exact ⟨k1, by rw [← e2]; exact hn.u _ ha, k2, by rw [this, e2]⟩
  have hne : wayT N S B t ≠ [] := fun e => by
    rw [e] at rsrc
    unfold rootF at rsrc
    omega
  obtain ⟨b1, b2, b3⟩ := bot_spec S.es S.fl (wayT N S B t) (-(g S.ov t))
  have hm0 : 0 < mostT N S B t := by
    have := b3 (by omega) (fun p hp => (hway p hp).2.2.1)
    unfold mostT; omega
  have hmr : ∀ p ∈ wayT N S B t, mostT N S B t ≤ roomE S.es S.fl p.1 := fun p hp => by have := b2 p hp; unfold mostT; omega
  have hmt : mostT N S B t ≤ -(g S.ov t) := by unfold mostT; omega
  have hmv : mostT N S B t ≤ g S.ov (rootF t (wayT N S B t)) := by unfold mostT; omega
  have hexb : ∀ v, v < N → -900719925474099200 ≤ g S.ov v ∧ g S.ov v ≤ 900719925474099200 := fun v hv => by
    have := over_at_bound hw v hv
    rw [over_get _ _ hv] at this
    rw [hsi.ov v hv]
    exact this
  obtain ⟨p1, p2, p3⟩ := hbw.push hA (Int.le_of_lt hm0) S.fl hw hmr (hbw.apart hn)
  have hlenb : ∀ a ∈ arcsL S.es S.fl S.pot, a.len ≤ 2147484648 := fun a ha => by
    obtain ⟨k, h1, h2, rfl⟩ := arcs_mem.1 ha
    obtain ⟨e1, e2, e3, e4⟩ := ends_node hr h1
    have q1 := hsi.small (endsE S.es k).1.toNat (by omega)
    have q2 := hsi.small (endsE S.es k).2.1.toNat (by omega)
    show lenA S.es S.pot k ≤ _
    unfold lenA
    rw [potAt_g, potAt_g]
    omega
  have hdm : g D t ≤ 83751901272 := by
    have := hh.max t htN 2147484648 hlenb (by omega); omega
  have hrb : ∀ k v, k ≤ N → v < N → -1073741824 ≤ g (raiseN S.pot D (g D t) k) v ∧ g (raiseN S.pot D (g D t) k) v ≤ 84825643096 := fun k v hk hv => by
    rw [raiseN_at (by omega)]
    have h1 := hsi.small v hv
    have h2 := clip_le D hDt v
    split <;> omega
  have hte : tightB S.es (flT N S B t) (raiseN S.pot D (g D t) N) = true := by
    unfold tightB
    refine List.all_eq_true.2 fun k hk => ?_
    have hk := List.mem_range.1 hk
    unfold tightS
    by_cases h0 : 0 < roomE S.es (flT N S B t) k
    · have hl : 0 ≤ lenA S.es (raiseN S.pot D (g D t) N) k := by
        have clipped : ∀ j, j < 2 * S.es.length → 0 < roomE S.es S.fl j → 0 ≤ lenA S.es S.pot j ∧ (0 ≤ g D (endsE S.es j).1.toNat → 0 ≤ g D (endsE S.es j).2.1.toNat ∧ g D (endsE S.es j).2.1.toNat ≤ g D (endsE S.es j).1.toNat + lenA S.es S.pot j) := fun j hj hjr =>
          ⟨tight_at ht hj hjr, fun q => hh.arc _ (arcs_mem.2 ⟨j, hj, hjr, rfl⟩) q⟩
        rcases p3 k h0 with q | ⟨p, hpP, rfl⟩
        · obtain ⟨c1, c2⟩ := clipped k hk q
          rw [len_raise hr hpl hk]
          have u1 := clip_le D hDt (endsE S.es k).1.toNat
          have v1 := clip_le D hDt (endsE S.es k).2.1.toNat
          by_cases q0 : 0 ≤ g D (endsE S.es k).1.toNat
          · obtain ⟨c3, c4⟩ := c2 q0
            have u2 : clip D (g D t) (endsE S.es k).1.toNat = min (g D (endsE S.es k).1.toNat) (g D t) := by unfold clip; split <;> omega
            have v2 : clip D (g D t) (endsE S.es k).2.1.toNat ≤ g D (endsE S.es k).2.1.toNat := by unfold clip; split <;> omega
            omega
          · have u2 : clip D (g D t) (endsE S.es k).1.toNat = g D t := by unfold clip; rw [if_pos (by omega)]
            omega
        · obtain ⟨a, ha, e1, e2, e3, e4, e5, e6, e7⟩ := hbw.all hn p hpP
          obtain ⟨j, j1, j2, rfl⟩ := arcs_mem.1 ha
          have ej : (PathP.arcAt S.es S.pot j).k = j := rfl
          rw [ej] at e1
          rw [← e1, len_flip, len_raise hr hpl j1]
          have e5' : g D (endsE S.es j).2.1.toNat = g D (endsE S.es j).1.toNat + lenA S.es S.pot j := e5
          have e6' : 0 ≤ g D (endsE S.es j).1.toNat := e6
          have e7' : g D (endsE S.es j).2.1.toNat ≤ g D t := e7
          have hl0 := tight_at ht j1 j2
          have u2 : clip D (g D t) (endsE S.es j).1.toNat = g D (endsE S.es j).1.toNat := by unfold clip; rw [if_neg (by omega)]
          have v2 : clip D (g D t) (endsE S.es j).2.1.toNat = g D (endsE S.es j).2.1.toNat := by unfold clip; rw [if_neg (by omega)]
          omega
      rw [decide_eq_false (by omega)]
      rfl
    · rw [decide_eq_false h0, Bool.and_false]
      rfl
  have hrl : (raiseN S.pot D (g D t) N).length = N := by rw [raiseN_len, hpl]
  have hnt : (narrowF S.es (flT N S B t) (raiseN S.pot D (g D t) N) N).length = N ∧ tightB S.es (flT N S B t) (narrowF S.es (flT N S B t) (raiseN S.pot D (g D t) N) N) = true ∧ ∀ v, v < N → -1073741824 ≤ g (narrowF S.es (flT N S B t) (raiseN S.pot D (g D t) N) N) v ∧ g (narrowF S.es (flT N S B t) (raiseN S.pot D (g D t) N) N) v ≤ 1073741824 := by
    unfold narrowF
    by_cases hb : (raiseN S.pot D (g D t) N).any bigB = true
    · rw [if_pos hb]
      obtain ⟨a1, a2, a3⟩ := anew_fit hr hte
      exact ⟨a1, a2, fun v hv => by have := a3 v hv; omega⟩
    · rw [if_neg hb]
      refine ⟨hrl, hte, fun v hv => ?_⟩
      have hnb : bigB (g (raiseN S.pot D (g D t) N) v) = false := by
        rw [Bool.eq_false_iff]; intro q
        exact hb (List.any_eq_true.2 ⟨_, g_mem (by rw [hrl]; exact hv), q⟩)
      unfold bigB at hnb
      simp only [Bool.or_eq_false_iff, decide_eq_false_iff_not] at hnb
      omega
  have hrt : rootF t (wayT N S B t) ≠ t := fun e => by rw [e] at rsrc; omega
  have hov : (ovT N S B t).length = N ∧ ∀ v, v < N → g (ovT N S B t) v = exc S.es (flT N S B t) v := by
    unfold ovT
    refine ⟨by rw [List.length_set, List.length_set]; exact hsi.lov, fun v hv => ?_⟩
    rw [g_set (by rw [List.length_set, hsi.lov]; exact htN), g_set (by rw [hsi.lov]; exact r1), upd_ne _ _ hrt]
    have hx := p2 v
    rw [← hsi.ov v hv] at hx
    unfold flT
    rw [hx]
    unfold upd gain
    by_cases q1 : t = v
    · subst q1
      rw [if_pos rfl, decide_eq_true (show (t : Int) = (t : Int) from rfl), decide_eq_false (show ¬ (rootF t (wayT N S B t) : Int) = (t : Int) by omega)]
      simp
    · rw [if_neg q1, decide_eq_false (show ¬ (t : Int) = v by omega)]
      by_cases q2 : rootF t (wayT N S B t) = v
      · rw [q2, if_pos rfl, decide_eq_true rfl]
        simp
        omega
      · rw [if_neg q2, decide_eq_false (show ¬ (rootF t (wayT N S B t) : Int) = v by omega)]
        simp
  have hphi : phi (ovT N S B t) N < phi S.ov N := by
    unfold ovT
    have h1 := phi_set (ov := S.ov) (s := rootF t (wayT N S B t)) (x := g S.ov (rootF t (wayT N S B t)) - mostT N S B t) (by rw [hsi.lov]; exact r1) N
    have h2 := phi_set (ov := S.ov.set (rootF t (wayT N S B t)) (g S.ov (rootF t (wayT N S B t)) - mostT N S B t)) (s := t) (x := g (S.ov.set (rootF t (wayT N S B t)) (g S.ov (rootF t (wayT N S B t)) - mostT N S B t)) t + mostT N S B t) (by rw [List.length_set, hsi.lov]; exact htN) N
    have e : g (S.ov.set (rootF t (wayT N S B t)) (g S.ov (rootF t (wayT N S B t)) - mostT N S B t)) t = g S.ov t := by rw [g_set (by rw [hsi.lov]; exact r1), upd_ne _ _ hrt]
    rw [if_pos htN, if_pos htN, e] at h2
    rw [if_pos r1, if_pos r1] at h1
    rw [e]
    omega
  refine ⟨htN, hovt, hDt, hdm, hway, back_len _ _ _ _, r1, rsrc, hm0, ?_, ⟨?_, hnt.2.2, hov.1, hov.2⟩, hphi, hrb, hte, p1⟩
  · have := hexb _ r1; omega
  · show fitsB N S.es (flT N S B t) (narrowF S.es (flT N S B t) (raiseN S.pot D (g D t) N) N) = true
    simp only [fitsB, Bool.and_eq_true]
    refine ⟨⟨p1, ?_⟩, hnt.2.1⟩
    simp only [potB, Bool.and_eq_true, decide_eq_true_eq]
    obtain ⟨a1, _, a3⟩ := hnt
    generalize narrowF S.es (flT N S B t) (raiseN S.pot D (g D t) N) N = X at a1 a3
    refine ⟨List.all_eq_true.2 fun x hx => ?_, by rw [a1]⟩
    obtain ⟨i, hi, rfl⟩ := List.getElem_of_mem hx
    have := a3 i (by rw [← a1]; exact hi)
    unfold g at this
    rw [List.getD_eq_getElem?_getD, List.getElem?_eq_getElem hi] at this
    simp only [Option.getD_some] at this
    rw [farB_iff]; omega
end
theorem FillR.si {N : Nat} {S S' : St} (h : FillR N S S') : SI N S' ∧ phi S'.ov N < phi S.ov N ∧ S'.es = S.es ∧ S'.steps = S.steps + 1 := by
  obtain ⟨D, B, t, h1, rfl⟩ := h
  have hf := h1.ff
  exact ⟨hf.si, hf.less, rfl, rfl⟩
/-- Fills, until nothing is over. -/
inductive Fills (N : Nat) : St → St → Prop
  | stop {S : St} : srcK S.ov N = [] → Fills N S S
  | step {S S1 S2 : St} : FillR N S S1 → Fills N S1 S2 → Fills N S S2
theorem FillR.src {N : Nat} {S S' : St} (h : FillR N S S') : srcK S.ov N ≠ [] := by
  obtain ⟨D, B, t, h1, _⟩ := h; exact h1.src
theorem Fills.det {N : Nat} {S S' : St} (h : Fills N S S') : ∀ S'', Fills N S S'' → S' = S'' := by
  induction h with
  | stop h0 =>
    intro S'' h'
    cases h' with
    | stop => rfl
    | step h1 _ => exact absurd h0 h1.src
  | step h1 _ ih =>
    intro S'' h'
    cases h' with
    | stop h0 => exact absurd h0 h1.src
    | step h2 h3 => exact ih _ (by rw [h1.det h2]; exact h3)
theorem Fills.si {N : Nat} {S S' : St} (h : Fills N S S') : SI N S → SI N S' ∧ srcK S'.ov N = [] ∧ S'.es = S.es ∧ S.steps ≤ S'.steps ∧ S'.steps ≤ S.steps + phi S.ov N := by
  induction h with
  | stop h0 => intro hs; exact ⟨hs, h0, rfl, Nat.le_refl _, by omega⟩
  | step h1 _ ih =>
    intro _
    obtain ⟨a1, a2, a3, a4⟩ := h1.si
    obtain ⟨b1, b2, b3, b4, b5⟩ := ih a1
    exact ⟨b1, b2, b3.trans a3, by omega, by omega⟩
end Go.SolveP
