/-
  Shortest ways by rounds; the last arcs; what Ways answers. Plain lemmas.
-/
import Derived.Test.YtfafecgnjjkagaaPPlain2
namespace Go.PathP
open Go Go.Mem Go.NetP Go.RestP Go.CertP

/-- One arc in a round. -/
def relB (S : List Int × List Int) (a : Ar) : List Int × List Int :=
  if decide (0 ≤ g S.1 a.u) && bet (g S.1) (g S.2) a.v (g S.1 a.u + a.len) (g S.2 a.u + 1) then (S.1.set a.v (g S.1 a.u + a.len), S.2.set a.v (g S.2 a.u + 1)) else S
/-- In a round, behind some arcs. -/
structure BF (A : List Ar) (src : Nat → Prop) (N : Nat) (M : Int) (r : Int) (pre : List Ar) (D H : List Int) : Prop where
  net : Net A src N M
  lD : D.length = N
  lH : H.length = N
  real : Real A src N (g D) (g H)
  le : ∀ v x y, Walk A src v x y → y ≤ r → LE (g D) (g H) v x y
  now : ∀ a ∈ pre, ∀ x y, Walk A src a.u x y → y ≤ r → LE (g D) (g H) a.v (x + a.len) (y + 1)
section
variable {A : List Ar} {src : Nat → Prop} {N : Nat} {M : Int} {r : Int} {pre : List Ar} {D H : List Int}
theorem BF.step (h : BF A src N M r pre D H) {a : Ar} (ha : a ∈ A) (S : List Int × List Int) (hS : S = relB (D, H) a) : BF A src N M r (pre ++ [a]) S.1 S.2 := by
  have hv := h.net.v _ ha
  have hl0 := h.net.l0 _ ha
  unfold relB at hS
  dsimp only at hS
  by_cases h0 : 0 ≤ g D a.u
  rotate_left
  · rw [if_neg (by simp [h0])] at hS
    subst hS
    refine ⟨h.net, h.lD, h.lH, h.real, h.le, fun b hb x y hw hy => ?_⟩
    rcases List.mem_append.1 hb with hb | hb
    · exact h.now b hb x y hw hy
    · simp at hb; subst hb
      exact absurd (h.le _ _ _ hw hy).1 h0
  by_cases hb : bet (g D) (g H) a.v (g D a.u + a.len) (g H a.u + 1) = true
  rotate_left
  · rw [if_neg (by simp [hb])] at hS
    subst hS
    refine ⟨h.net, h.lD, h.lH, h.real, h.le, fun b hb' x y hw hy => ?_⟩
    rcases List.mem_append.1 hb' with hb' | hb'
    · exact h.now b hb' x y hw hy
    · simp at hb'; subst hb'
      have h1 := h.le _ _ _ hw hy
      have h2 : LE (g D) (g H) b.v (g D b.u + b.len) (g H b.u + 1) := bet_no (d := g D) (h := g H) (by rcases h.real.pos h.net hv with q | q; exact .inl q.1; exact .inr q.1) (by simpa using hb)
      unfold LE at h1
      exact h2.trans (by omega)
  rw [if_pos (by simp [h0, hb])] at hS
  have hre := h.real.relax h.net ha h0 hb
  have hmo := upd_mono (show 0 ≤ g D a.u + a.len by omega) hb
  have gD : g (D.set a.v (g D a.u + a.len)) = upd (g D) a.v (g D a.u + a.len) := g_set (by rw [h.lD]; exact hv) _
  have gH : g (H.set a.v (g H a.u + 1)) = upd (g H) a.v (g H a.u + 1) := g_set (by rw [h.lH]; exact hv) _
  subst hS
  dsimp only
  refine ⟨h.net, by rw [List.length_set]; exact h.lD, by rw [List.length_set]; exact h.lH, by rw [gD, gH]; exact hre, fun v x y hw hy => by rw [gD, gH]; exact hmo _ _ _ (h.le v x y hw hy), fun b hb' x y hw hy => ?_⟩
  rw [gD, gH]
  rcases List.mem_append.1 hb' with hb' | hb'
  · exact hmo _ _ _ (h.now b hb' x y hw hy)
  · simp at hb'; subst hb'
    have h1 := h.le _ _ _ hw hy
    unfold LE at h1 ⊢
    rw [upd_same, upd_same]
    omega
/-- A round is done. -/
theorem BF.next (h : BF A src N M r pre D H) (hp : ∀ a ∈ A, a ∈ pre) (hr : 0 ≤ r) : BF A src N M (r + 1) [] D H :=
  ⟨h.net, h.lD, h.lH, h.real, fun v x y hw hy => by
    cases hw with
    | nil hs => exact h.le _ _ _ (.nil hs) hr
    | @snoc u x' y' a hw ha hu => subst hu; exact h.now a (hp a ha) _ _ hw (by omega), fun a ha => by simp at ha⟩
theorem walk_y {v : Nat} {x y : Int} (hw : Walk A src v x y) : 0 ≤ y := by
  induction hw with
  | nil _ => exact Int.le_refl _
  | snoc _ _ _ ih => omega
theorem BF.start (hn : Net A src N M) (hD : D.length = N) (hs : ∀ v, v < N → (src v ∧ g D v = 0) ∨ (¬ src v ∧ g D v = -1)) : BF A src N M 0 [] D (List.replicate N 0) := by
  have hH : ∀ v, g (List.replicate N 0) v = 0 := fun v => by
    show (List.replicate N (0 : Int)).getD v 0 = 0
    rw [List.getD_eq_getElem?_getD, List.getElem?_replicate]; split <;> rfl
  have hs0 : ∀ s, src s → g D s = 0 := fun s q => by
    rcases hs s (hn.s s q) with ⟨_, e⟩ | ⟨e, _⟩
    · exact e
    · exact absurd q e
  have hsl : ∀ s, src s → LE (g D) (g (List.replicate N 0)) s 0 0 := fun s q => by unfold LE; rw [hs0 s q, hH]; omega
  refine ⟨hn, hD, by simp, fun v hv => ?_, fun v x y hw hy => ?_, fun a ha => by simp at ha⟩
  · rcases hs v hv with ⟨q1, q2⟩ | ⟨_, q2⟩
    · refine .inr ⟨by rw [q2]; omega, [v], ?_⟩
      rw [q2, hH]
      exact .nil q1 (hsl v q1)
    · exact .inl ⟨q2, hH v⟩
  · cases hw with
    | nil q => exact hsl _ q
    | snoc hw _ _ => have := walk_y hw; omega
end
/-- By which arcs a way may come. -/
def byC (D H : List Int) (v : Nat) (a : Ar) : Bool := decide (a.v = v) && decide (0 ≤ g D a.u) && decide (g H v ≠ 0) && decide (g D a.u + a.len = g D v) && decide (g H a.u + 1 = g H v)
theorem byC_iff {D H : List Int} {v : Nat} {a : Ar} : byC D H v a = true ↔ a.v = v ∧ 0 ≤ g D a.u ∧ g H v ≠ 0 ∧ g D a.u + a.len = g D v ∧ g H a.u + 1 = g H v := by
  simp [byC, and_assoc]
/-- The least one of these. -/
def IsBy (L : List Ar) (D H : List Int) (v : Nat) (b : Int) : Prop := (b = -1 ∧ ∀ a ∈ L, byC D H v a = false) ∨ ∃ a ∈ L, byC D H v a = true ∧ b = a.k ∧ ∀ c ∈ L, byC D H v c = true → a.k ≤ c.k
theorem IsBy.eq {L : List Ar} {D H : List Int} {v : Nat} {b b' : Int} (h : IsBy L D H v b) (h' : IsBy L D H v b') : b = b' := by
  rcases h with ⟨rfl, h⟩ | ⟨a, h1, h2, rfl, h3⟩ <;> rcases h' with ⟨rfl, h'⟩ | ⟨a', h1', h2', rfl, h3'⟩
  · rfl
  · rw [h _ h1'] at h2'; cases h2'
  · rw [h' _ h1] at h2; cases h2
  · have := h3 _ h1' h2'; have := h3' _ h1 h2; omega
theorem IsBy.congr {L : List Ar} {D H D' H' : List Int} {v : Nat} {b : Int} (hL : ∀ a ∈ L, a.u < D.length) (hv : v < D.length) (hD : ∀ w, w < D.length → g D w = g D' w) (hH : ∀ w, w < D.length → g H w = g H' w) (h : IsBy L D H v b) : IsBy L D' H' v b := by
  have e : ∀ a ∈ L, byC D H v a = byC D' H' v a := fun a ha => by
    unfold byC
    rw [hD _ (hL a ha), hD _ hv, hH _ hv, hH _ (hL a ha)]
  rcases h with ⟨rfl, h⟩ | ⟨a, h1, h2, rfl, h3⟩
  · exact .inl ⟨rfl, fun a ha => by rw [← e a ha]; exact h a ha⟩
  · exact .inr ⟨a, h1, by rw [← e a h1]; exact h2, rfl, fun c hc hb => h3 c hc (by rw [e c hc]; exact hb)⟩
theorem IsBy.nil (D H : List Int) (v : Nat) : IsBy [] D H v (-1) := .inl ⟨rfl, fun _ h => by simp at h⟩
/-- One arc more. -/
theorem IsBy.more {L : List Ar} {D H : List Int} {v : Nat} {b : Int} (h : IsBy L D H v b) (a : Ar) : IsBy (L ++ [a]) D H v (if byC D H v a && (decide (b = -1) || decide ((a.k : Int) < b)) then (a.k : Int) else b) := by
  by_cases hc : byC D H v a = true
  · rcases h with ⟨rfl, h⟩ | ⟨c, h1, h2, rfl, h3⟩
    · rw [if_pos (by simp [hc])]
      refine .inr ⟨a, by simp, hc, rfl, fun d hd hd' => ?_⟩
      rcases List.mem_append.1 hd with hd | hd
      · rw [h d hd] at hd'; cases hd'
      · simp at hd; subst hd; exact Nat.le_refl _
    · by_cases hk : a.k < c.k
      · rw [if_pos (by simp [hc]; omega)]
        refine .inr ⟨a, by simp, hc, rfl, fun d hd hd' => ?_⟩
        rcases List.mem_append.1 hd with hd | hd
        · have := h3 d hd hd'; omega
        · simp at hd; subst hd; exact Nat.le_refl _
      · rw [if_neg (by simp; omega)]
        refine .inr ⟨c, by simp [h1], h2, rfl, fun d hd hd' => ?_⟩
        rcases List.mem_append.1 hd with hd | hd
        · exact h3 d hd hd'
        · simp at hd; subst hd; omega
  · rw [if_neg (by simp [hc])]
    have hc' : byC D H v a = false := by simpa using hc
    rcases h with ⟨rfl, h⟩ | ⟨c, h1, h2, rfl, h3⟩
    · refine .inl ⟨rfl, fun d hd => ?_⟩
      rcases List.mem_append.1 hd with hd | hd
      · exact h d hd
      · simp at hd; subst hd; exact hc'
    · refine .inr ⟨c, by simp [h1], h2, rfl, fun d hd hd' => ?_⟩
      rcases List.mem_append.1 hd with hd | hd
      · exact h3 d hd hd'
      · simp at hd; subst hd; rw [hc'] at hd'; cases hd'
theorem IsBy.same {L L' : List Ar} {D H : List Int} {v : Nat} {b : Int} (h : IsBy L D H v b) (hL : ∀ a, a ∈ L ↔ a ∈ L') : IsBy L' D H v b := by
  rcases h with ⟨rfl, h⟩ | ⟨c, h1, h2, rfl, h3⟩
  · exact .inl ⟨rfl, fun a ha => h a ((hL a).2 ha)⟩
  · exact .inr ⟨c, (hL c).1 h1, h2, rfl, fun d hd hd' => h3 d ((hL d).2 hd) hd'⟩
/-- What Ways answers. -/
structure WS (A : List Ar) (src : Nat → Prop) (N : Nat) (M : Int) (D B : List Int) : Prop where
  net : Net A src N M
  lD : D.length = N
  lB : B.length = N
  lab : ∃ H : List Int, H.length = N ∧ Real A src N (g D) (g H) ∧ Least A src N (g D) (g H) ∧ ∀ v, v < N → IsBy A D H v (g B v)
theorem ext_g {a b : List Int} (hl : a.length = b.length) (h : ∀ v, v < a.length → g a v = g b v) : a = b :=
  List.ext_getElem hl fun i h1 h2 => by
    have := h i h1
    unfold g at this
    rw [List.getD_eq_getElem?_getD, List.getD_eq_getElem?_getD] at this
    simpa [h1, h2] using this
theorem WS.eq {A : List Ar} {src : Nat → Prop} {N : Nat} {M : Int} {D B D' B' : List Int} (h : WS A src N M D B) (h' : WS A src N M D' B') : D = D' ∧ B = B' := by
  obtain ⟨H, h1, _, h2, h3⟩ := h.lab
  obtain ⟨H', h1', _, h2', h3'⟩ := h'.lab
  have he := fun v (hv : v < N) => h2.eq h2' hv
  refine ⟨ext_g (by rw [h.lD, h'.lD]) fun v hv => (he v (by rw [← h.lD]; exact hv)).1, ext_g (by rw [h.lB, h'.lB]) fun v hv => ?_⟩
  have hv : v < N := by rw [← h.lB]; exact hv
  refine IsBy.eq ?_ (h3' v hv)
  exact (h3 v hv).congr (fun a ha => by rw [h.lD]; exact h.net.u a ha) (by rw [h.lD]; exact hv) (fun w hw => (he w (by rw [← h.lD]; exact hw)).1) (fun w hw => (he w (by rw [← h.lD]; exact hw)).2)
/-- The arcs of a net that have room. -/
def arcAt (es : List Ed) (pot : List Int) (a : Nat) : Ar := ⟨a, (endsE es a).1.toNat, (endsE es a).2.1.toNat, lenA es pot a⟩
def hasRoom (es : List Ed) (fl : List Int) (a : Nat) : Bool := decide (0 < roomE es fl a)
def arcsN (es : List Ed) (fl pot : List Int) (m : Nat) : List Ar := ((List.range m).filter (hasRoom es fl)).map (arcAt es pot)
def arcsL (es : List Ed) (fl pot : List Int) : List Ar := arcsN es fl pot (2 * es.length)
theorem arcsN_succ (es : List Ed) (fl pot : List Int) (m : Nat) : arcsN es fl pot (m + 1) = arcsN es fl pot m ++ if hasRoom es fl m then [arcAt es pot m] else [] := by
  unfold arcsN
  rw [List.range_succ, List.filter_append, List.map_append, List.filter_cons]
  split <;> simp
theorem arcs_mem {es : List Ed} {fl pot : List Int} {m : Nat} {a : Ar} : a ∈ arcsN es fl pot m ↔ ∃ k, k < m ∧ 0 < roomE es fl k ∧ a = arcAt es pot k := by
  unfold arcsN hasRoom
  simp only [List.mem_map, List.mem_filter, List.mem_range, decide_eq_true_eq]
  constructor
  · rintro ⟨k, ⟨h1, h2⟩, rfl⟩; exact ⟨k, h1, h2, rfl⟩
  · rintro ⟨k, h1, h2, rfl⟩; exact ⟨k, ⟨h1, h2⟩, rfl⟩
/-- The greatest length. -/
def maxL : Int := 2199023256552
theorem len_bound {n : Int} {es : List Ed} {pot : List Int} (hr : rightB n es = true) (hp : potB n pot = true) {a : Nat} (ha : a < 2 * es.length) : -maxL ≤ lenA es pot a ∧ lenA es pot a ≤ maxL := by
  obtain ⟨_, _, h3, h4⟩ := ends_node hr ha
  have h := (pot_cap hp).2
  have h1 := h (endsE es a).1.toNat
  have h2 := h (endsE es a).2.1.toNat
  unfold lenA potAt maxL
  omega
theorem fits_parts {n : Int} {es : List Ed} {fl pot : List Int} (h : fitsB n es fl pot = true) : withinB n es fl = true ∧ rightB n es = true ∧ potB n pot = true ∧ tightB es fl pot = true := by
  simp only [fitsB, Bool.and_eq_true] at h
  exact ⟨h.1.1, (within_cap h.1.1).2.1, h.1.2, h.2⟩
/-- The arcs of what fits. -/
theorem fits_net {n : Nat} {es : List Ed} {fl pot : List Int} (h : fitsB n es fl pot = true) {src : Nat → Prop} (hs : ∀ s, src s → s < n) : Net (arcsL es fl pot) src n maxL := by
  obtain ⟨hw, hr, hp, ht⟩ := fits_parts h
  refine ⟨fun a ha => ?_, fun a ha => ?_, fun a ha => ?_, fun a ha => ?_, hs⟩ <;> (obtain ⟨k, h1, h2, rfl⟩ := arcs_mem.1 ha)
  · have := (ends_node hr h1).1; unfold arcAt; dsimp only; omega
  · have := (ends_node hr h1).2.1; unfold arcAt; dsimp only; omega
  · exact tight_at ht h1 h2
  · exact (len_bound hr hp h1).2
end Go.PathP
