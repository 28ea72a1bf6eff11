/-
  The best flow, as it is found: sources, the nearest, the way back, what is pushed. Plain lemmas.
-/
import Derived.Test.YtacbfpgijmpilaaPB
set_option linter.unusedVariables false
set_option linter.unusedSimpArgs false
namespace Go.SolveP
open Go Go.Mem Go.NetP Go.RestP Go.CertP Go.PathP

/-- The nodes at which there is over, of the first k. -/
def srcK (ov : List Int) (k : Nat) : List Int := ((List.range k).filter fun v => decide (0 < g ov v)).map fun v : Nat => (v : Int)
theorem srcK_succ (ov : List Int) (k : Nat) : srcK ov (k + 1) = srcK ov k ++ if 0 < g ov k then [(k : Int)] else [] := by
  unfold srcK
  rw [List.range_succ, List.filter_append, List.map_append, List.filter_cons]
  by_cases h : 0 < g ov k
  · rw [if_pos h, if_pos (decide_eq_true h)]; rfl
  · rw [if_neg h, if_neg (by simpa using h)]; rfl
theorem srcK_len (ov : List Int) (k : Nat) : (srcK ov k).length ≤ k := by
  unfold srcK
  rw [List.length_map]
  exact Nat.le_trans (List.length_filter_le _ _) (by simp)
theorem srcK_mem {ov : List Int} {k : Nat} {x : Int} : x ∈ srcK ov k ↔ ∃ v : Nat, v < k ∧ 0 < g ov v ∧ x = v := by
  unfold srcK
  simp only [List.mem_map, List.mem_filter, List.mem_range, decide_eq_true_eq]
  constructor
  · rintro ⟨v, ⟨h1, h2⟩, rfl⟩; exact ⟨v, h1, h2, rfl⟩
  · rintro ⟨v, h1, h2, rfl⟩; exact ⟨v, ⟨h1, h2⟩, rfl⟩
theorem src_from {ov : List Int} {k v : Nat} : v ∈ fromN (srcK ov k) ↔ v < k ∧ 0 < g ov v := by
  unfold fromN
  rw [List.mem_map]
  constructor
  · rintro ⟨x, hx, rfl⟩
    obtain ⟨v, h1, h2, rfl⟩ := srcK_mem.1 hx
    rw [Int.toNat_natCast]; exact ⟨h1, h2⟩
  · rintro ⟨h1, h2⟩
    exact ⟨v, srcK_mem.2 ⟨v, h1, h2, rfl⟩, Int.toNat_natCast v⟩
theorem src_fromB {ov : List Int} {n : Nat} (h : srcK ov n ≠ []) : fromB n (srcK ov n) = true := by
  unfold fromB
  rw [Bool.and_eq_true]
  refine ⟨List.all_eq_true.2 fun x hx => ?_, decide_eq_true h⟩
  obtain ⟨v, h1, _, rfl⟩ := srcK_mem.1 hx
  exact nodeI_iff.2 ⟨by omega, by omega⟩
/-- The nearest of the first k nodes that is short. -/
def nearK (ov D : List Int) : Nat → Int
  | 0 => -1
  | k + 1 => if g ov k < 0 ∧ 0 ≤ g D k ∧ (nearK ov D k < 0 ∨ g D k < g D (nearK ov D k).toNat) then (k : Int) else nearK ov D k
theorem near_spec (ov D : List Int) : ∀ k, (nearK ov D k = -1 ∧ ∀ v, v < k → g ov v < 0 → g D v < 0) ∨ ∃ t : Nat, nearK ov D k = t ∧ t < k ∧ g ov t < 0 ∧ 0 ≤ g D t
  | 0 => .inl ⟨rfl, fun v hv => by omega⟩
  | k + 1 => by
    unfold nearK
    by_cases h : g ov k < 0 ∧ 0 ≤ g D k ∧ (nearK ov D k < 0 ∨ g D k < g D (nearK ov D k).toNat)
    · rw [if_pos h]
      exact .inr ⟨k, rfl, by omega, h.1, h.2.1⟩
    · rw [if_neg h]
      rcases near_spec ov D k with ⟨h1, h2⟩ | ⟨t, h1, h2, h3, h4⟩
      · refine .inl ⟨h1, fun v hv hs => ?_⟩
        by_cases e : v = k
        · subst e
          rw [h1] at h
          rcases Int.lt_or_le (g D v) 0 with q | q
          · exact q
          · exact absurd ⟨hs, q, .inl (by omega)⟩ h
        · exact h2 v (by omega) hs
      · exact .inr ⟨t, h1, by omega, h3, h4⟩
/-! ### A node that is short is reached -/
theorem sumN_pos (f : Nat → Int) : ∀ n, (∀ v, v < n → 0 ≤ f v) → 0 ≤ sumN f n
  | 0, _ => Int.le_refl _
  | n + 1, h => by have := sumN_pos f n (fun v hv => h v (by omega)); have := h n (by omega); simp only [sumN]; omega
theorem sumN_gt (f : Nat → Int) : ∀ n s, (∀ v, v < n → 0 ≤ f v) → s < n → f s ≤ sumN f n
  | 0, s, _, hs => by omega
  | n + 1, s, h, hs => by
    simp only [sumN]
    have hn := h n (by omega)
    by_cases e : s = n
    · subst e; have := sumN_pos f s (fun v hv => h v (by omega)); omega
    · have := sumN_gt f n s (fun v hv => h v (by omega)) (by omega); omega
theorem potSum_le (es : List Ed) (fl : List Int) (p : Nat → Int) : ∀ m, (∀ j, j < m → fl.getD j 0 * (p (edAt es j).t.toNat - p (edAt es j).f.toNat) ≤ 0) → potSum es fl p m ≤ 0
  | 0, _ => Int.le_refl _
  | m + 1, h => by
    have h1 := potSum_le es fl p m (fun j hj => h j (by omega))
    have h2 := h m (by omega)
    simp only [potSum]; omega
/-- The excess of each node. -/
def exc (es : List Ed) (fl : List Int) (v : Nat) : Int := overAt es fl v fl.length
theorem reach {N : Nat} {es : List Ed} {fl pot D B H ov : List Int} (hw : withinB N es fl = true) (hov : ∀ v, v < N → g ov v = exc es fl v) (hs : srcK ov N ≠ []) (hh : WH (arcsL es fl pot) (· ∈ fromN (srcK ov N)) N D H B) : ∃ t : Nat, nearK ov D N = t ∧ t < N ∧ g ov t < 0 ∧ 0 ≤ g D t := by
  rcases near_spec ov D N with ⟨_, h2⟩ | h
  rotate_left
  · exact h
  exfalso
  obtain ⟨x, hx⟩ := List.exists_mem_of_ne_nil _ hs
  obtain ⟨s, hs1, hs2, rfl⟩ := srcK_mem.1 hx
  have hsD := (hh.src_ s hs1 (src_from.2 ⟨hs1, hs2⟩)).1
  obtain ⟨p, hp⟩ : ∃ p : Nat → Int, p = fun v => if 0 ≤ g D v then 1 else 0 := ⟨_, rfl⟩
  have e1 := pot_over (n := N) (es := es) (fl := fl) p fl.length (fun j hj => within_ends hw j hj)
  have e2 : potSum es fl p fl.length ≤ 0 := potSum_le es fl p fl.length fun j hj => by
    have hl := (within_cap hw).1
    have hje : j < es.length := by omega
    obtain ⟨x0, x1⟩ := within_at hw hje
    obtain ⟨⟨t0, t1⟩, f0, f1⟩ := within_ends hw j hj
    rw [hp]
    dsimp only
    by_cases q1 : 0 ≤ g D (edAt es j).t.toNat
    · by_cases q2 : 0 ≤ g D (edAt es j).f.toNat
      · rw [if_pos q1, if_pos q2]; simp
      · by_cases q3 : 0 < fl.getD j 0
        · have ha : arcAt es pot (2 * j + 1) ∈ arcsL es fl pot := arcs_mem.2 ⟨2 * j + 1, by omega, by
            unfold roomE; rw [if_pos (by unfold oddB; simp), show (2 * j + 1) / 2 = j by omega]; exact q3, rfl⟩
          have := hh.arc _ ha
          unfold PathP.arcAt at this
          rw [ends_odd2] at this
          have := (this q1).1
          exact absurd this q2
        · have : fl.getD j 0 = 0 := by omega
          rw [this]; simp
    · rw [if_neg q1]
      have : 0 ≤ (if 0 ≤ g D (edAt es j).f.toNat then (1 : Int) else 0) := by split <;> omega
      have h3 : 0 ≤ fl.getD j 0 * (if 0 ≤ g D (edAt es j).f.toNat then (1 : Int) else 0) := Int.mul_nonneg x0 this
      rw [Int.zero_sub, Int.mul_neg]; omega
  have e3 := sumN_gt (fun v => p v * overAt es fl v fl.length) N s (fun v hv => by
    rw [hp]
    dsimp only
    by_cases q : 0 ≤ g D v
    · rw [if_pos q, Int.one_mul]
      have h3 := hov v hv
      unfold exc at h3
      rw [← h3]
      rcases Int.lt_or_le (g ov v) 0 with r | r
      · have := h2 v hv r; omega
      · exact r
    · rw [if_neg q]; simp) hs1
  have h4 := hov s hs1
  unfold exc at h4
  rw [e1] at e3
  rw [hp] at e3
  dsimp only at e3
  rw [if_pos (by omega), Int.one_mul, ← h4] at e3
  rw [hp] at e2
  omega
/-! ### The way back -/
/-- The arcs of the way that comes to a node, from its end on, with where each begins. -/
def backF (es : List Ed) (B : List Int) : Nat → Nat → List (Nat × Nat)
  | 0, _ => []
  | k + 1, v => if g B v < 0 then [] else ((g B v).toNat, (endsE es (g B v).toNat).1.toNat) :: backF es B k (endsE es (g B v).toNat).1.toNat
/-- Where a way that comes to a node begins. -/
def rootF : Nat → List (Nat × Nat) → Nat
  | v, [] => v
  | _, p :: P => rootF p.2 P
/-- A way, back from a node: each arc is the one that is told for where it ends. -/
inductive BW (A : List Ar) (D H B : List Int) : Nat → List (Nat × Nat) → Prop
  | nil {v : Nat} : g B v = -1 → BW A D H B v []
  | cons {v : Nat} {P : List (Nat × Nat)} {a : Ar} : a ∈ A → a.v = v → g B v = a.k → 0 ≤ g D a.u → 0 ≤ g D v → g D v = g D a.u + a.len → g H a.u + 1 = g H v → BW A D H B a.u P → BW A D H B v ((a.k, a.u) :: P)
section
variable {N : Nat} {es : List Ed} {fl pot D H B : List Int} {src : Nat → Prop}
theorem back_bw (hh : WH (arcsL es fl pot) src N D H B) (hn : Net (arcsL es fl pot) src N maxL) : ∀ (k v : Nat), v < N → g H v < k → BW (arcsL es fl pot) D H B v (backF es B k v)
  | 0, v, hv, hk => by have := (hh.hop v hv).1; omega
  | k + 1, v, hv, hk => by
    unfold backF
    by_cases h : g B v < 0
    · rw [if_pos h]
      exact .nil (hh.none_ v hv h).2
    · rw [if_neg h]
      obtain ⟨a, ha, e1, e2, e3, e4, e5, e6⟩ := hh.some_ v hv (by omega)
      obtain ⟨m, hm, hr, rfl⟩ := arcs_mem.1 ha
      have ek : (PathP.arcAt es pot m).k = m := rfl
      have eu : (PathP.arcAt es pot m).u = (endsE es m).1.toNat := rfl
      have e7 : (g B v).toNat = m := by rw [e1, ek]; simp
      rw [e7, ← eu]
      have hu := hn.u _ ha
      have := back_bw hh hn k (PathP.arcAt es pot m).u hu (by omega)
      exact .cons ha e2 e1 e3 e4 e5 e6 this
theorem BW.all {A : List Ar} {M : Int} (hn : Net A src N M) {v : Nat} {P : List (Nat × Nat)} (h : BW A D H B v P) : ∀ p ∈ P, ∃ a ∈ A, a.k = p.1 ∧ a.u = p.2 ∧ g H a.v ≤ g H v ∧ g H a.u + 1 = g H a.v ∧ g D a.v = g D a.u + a.len ∧ 0 ≤ g D a.u ∧ g D a.v ≤ g D v := by
  induction h with
  | nil _ => intro p hp; simp at hp
  | @cons v P a ha hv hb hu hd0 hd hh _ ih =>
    intro p hp
    have hl := hn.l0 a ha
    rcases List.mem_cons.1 hp with rfl | hp
    · exact ⟨a, ha, rfl, rfl, by rw [hv]; omega, by rw [hv]; exact hh, by rw [hv]; exact hd, hu, by rw [hv]; omega⟩
    · obtain ⟨b, q1, q2, q3, q4, q5, q6, q7, q8⟩ := ih p hp
      exact ⟨b, q1, q2, q3, by omega, q5, q6, q7, by omega⟩
theorem BW.root {A : List Ar} {M : Int} (hn : Net A src N M) {v : Nat} {P : List (Nat × Nat)} (h : BW A D H B v P) : v < N → 0 ≤ g D v → rootF v P < N ∧ g B (rootF v P) = -1 ∧ 0 ≤ g D (rootF v P) := by
  induction h with
  | nil hb => intro h1 h2; exact ⟨h1, hb, h2⟩
  | @cons v P a ha hv hb hu hd0 hd hh _ ih => intro h1 h2; exact ih (hn.u a ha) hu
/-- A node to which no arc is told, and that is reached, is one from which the ways lead. -/
theorem WS.root {A : List Ar} {M : Int} (h : WS A src N M D B) {v : Nat} (hv : v < N) (hB : g B v = -1) (h0 : 0 ≤ g D v) : src v := by
  obtain ⟨H, lH, hr, hl, hb⟩ := h.lab
  have hn := h.net
  rcases hb v hv with ⟨_, q⟩ | ⟨a, _, _, e, _⟩
  · rcases hl.real v hv with p | ⟨_, p⟩
    · omega
    · obtain ⟨X, hX⟩ : ∃ X, X = g D v := ⟨_, rfl⟩
      obtain ⟨Y, hY⟩ : ∃ Y, Y = g H v := ⟨_, rfl⟩
      rw [← hX, ← hY] at p
      cases p with
      | nil hs => exact hs
      | @snoc u x y a p ha hu =>
        exfalso
        subst hu
        have h1 := hl.least _ _ _ p
        rcases hl.real a.u (hn.u a ha) with r | ⟨_, r⟩
        · unfold PathP.LE at h1; omega
        · have h2 := hl.least _ _ _ (.snoc r ha rfl)
          have hp := p.pos hn
          unfold PathP.LE at h1 h2
          have : byC D H a.v a = true := byC_iff.2 ⟨rfl, h1.1, by omega, by omega, by omega⟩
          rw [q a ha] at this; cases this
  · omega
theorem half_eq {j k : Nat} (h : j / 2 = k / 2) : j = k ∨ j = Mem.flip k := by
  unfold Mem.flip; split <;> omega
/-- No edge comes twice on a way. -/
theorem BW.apart (hn : Net (arcsL es fl pot) src N maxL) {v : Nat} {P : List (Nat × Nat)} (h : BW (arcsL es fl pot) D H B v P) : (P.map fun p => p.1 / 2).Nodup := by
  induction h with
  | nil _ => simp
  | @cons v P a ha hv hb hu hd0 hd hh ht ih =>
    rw [List.map_cons, List.nodup_cons]
    refine ⟨fun hm => ?_, ih⟩
    obtain ⟨p, hp, e⟩ := List.mem_map.1 hm
    obtain ⟨b, q1, q2, q3, q4, q5, _⟩ := ht.all hn p hp
    obtain ⟨j, j1, _, rfl⟩ := arcs_mem.1 ha
    obtain ⟨k, k1, _, rfl⟩ := arcs_mem.1 q1
    have ej : (PathP.arcAt es pot j).k = j := rfl
    have ek : (PathP.arcAt es pot k).k = k := rfl
    rw [← q2, ej, ek] at e
    rcases half_eq e with r | r
    · subst r
      rw [hv] at q4
      omega
    · subst r
      have f1 : (PathP.arcAt es pot (Mem.flip j)).u = (PathP.arcAt es pot j).v := by unfold PathP.arcAt; rw [ends_flip]
      have f2 : (PathP.arcAt es pot (Mem.flip j)).v = (PathP.arcAt es pot j).u := by unfold PathP.arcAt; rw [ends_flip]
      rw [f1, f2, hv] at q5
      omega
/-! ### What is pushed along a way -/
def pushP (fl : List Int) (P : List (Nat × Nat)) (m : Int) : List Int := P.foldl (fun f p => pushL f p.1 m) fl
theorem room_ne (es : List Ed) (fl : List Int) {a k : Nat} (m : Int) (h : a / 2 ≠ k / 2) : roomE es (pushL fl a m) k = roomE es fl k := by
  have e : (pushL fl a m).getD (k / 2) 0 = fl.getD (k / 2) 0 := by
    unfold pushL
    rw [List.getD_eq_getElem?_getD, List.getElem?_set_ne h, ← List.getD_eq_getElem?_getD]
  unfold roomE
  rw [e]
theorem ends_arc {es : List Ed} {pot : List Int} {n : Nat} (hr : rightB n es = true) {k : Nat} (hk : k < 2 * es.length) : (endsE es k).1 = ((PathP.arcAt es pot k).u : Int) ∧ (endsE es k).2.1 = ((PathP.arcAt es pot k).v : Int) := by
  obtain ⟨h1, h2, _⟩ := ends_node hr hk
  unfold PathP.arcAt
  dsimp only
  omega
theorem BW.push {A : List Ar} {m : Int} (hA : ∀ a ∈ A, ∃ k, k < 2 * es.length ∧ a = PathP.arcAt es pot k) (hm : 0 ≤ m) {v : Nat} {P : List (Nat × Nat)} (h : BW A D H B v P) :
    ∀ f : List Int, withinB N es f = true → (∀ p ∈ P, m ≤ roomE es f p.1) → (P.map fun p => p.1 / 2).Nodup →
      withinB N es (pushP f P m) = true ∧ (∀ x, exc es (pushP f P m) x = exc es f x + (gain (decide ((v : Int) = x)) m - gain (decide ((rootF v P : Int) = x)) m)) ∧ ∀ k, 0 < roomE es (pushP f P m) k → 0 < roomE es f k ∨ ∃ p ∈ P, k = Mem.flip p.1 := by
  induction h with
  | nil _ =>
    intro f hw _ _
    exact ⟨hw, fun x => by unfold pushP rootF; rw [Int.sub_self]; simp, fun k hk => .inl hk⟩
  | @cons v P a ha hv hb hu hd0 hd hh ht ih =>
    intro f hw hr hd'
    obtain ⟨k, hk, rfl⟩ := hA a ha
    have ek : (PathP.arcAt es pot k).k = k := rfl
    rw [List.map_cons, List.nodup_cons] at hd'
    obtain ⟨hd1, hd2⟩ := hd'
    have hl := (within_cap hw).1
    have hrt := (within_cap hw).2.1
    have hh : hasB es.length (k : Int) = true := by rw [hasB_iff]; omega
    have hrk := hr _ List.mem_cons_self
    rw [ek] at hd1 hrk
    have hw1 := push_within hw hh hm hrk
    have hne : ∀ p ∈ P, k / 2 ≠ p.1 / 2 := fun p hp e => hd1 (List.mem_map.2 ⟨p, hp, e.symm⟩)
    obtain ⟨i1, i2, i3⟩ := ih (pushL f k m) hw1 (fun p hp => by rw [room_ne _ _ _ (hne p hp)]; exact hr p (List.mem_cons_of_mem _ hp)) hd2
    have e0 : pushP f (((PathP.arcAt es pot k).k, (PathP.arcAt es pot k).u) :: P) m = pushP (pushL f k m) P m := rfl
    rw [e0]
    have hl1 : (pushL f k m).length = f.length := pushL_length _ _ _
    refine ⟨i1, fun x => ?_, fun j hj => ?_⟩
    · rw [i2 x]
      have ho := over_push (es := es) (fl := f) (a := k) (by omega) m x
      obtain ⟨n1, n2⟩ := ends_arc (pot := pot) hrt hk
      rw [n1, n2, hv] at ho
      unfold exc at *
      rw [hl1, ho]
      show _ = _ + (_ - gain (decide ((rootF (PathP.arcAt es pot k).u P : Int) = x)) m)
      omega
    · rcases i3 j hj with q | ⟨p, hp, q⟩
      · by_cases e : k / 2 = j / 2
        · rcases half_eq e.symm with r | r
          · subst r
            rw [room_push (by omega)] at q
            exact .inl (by omega)
          · exact .inr ⟨_, List.mem_cons_self, r⟩
        · rw [room_ne _ _ _ e] at q
          exact .inl q
      · exact .inr ⟨p, List.mem_cons_of_mem _ hp, q⟩
/-- How much may be pushed. -/
def botF (es : List Ed) (fl : List Int) (P : List (Nat × Nat)) (m : Int) : Int := P.foldl (fun x p => min x (roomE es fl p.1)) m
theorem bot_spec (es : List Ed) (fl : List Int) : ∀ (P : List (Nat × Nat)) (m : Int), botF es fl P m ≤ m ∧ (∀ p ∈ P, botF es fl P m ≤ roomE es fl p.1) ∧ (0 < m → (∀ p ∈ P, 0 < roomE es fl p.1) → 0 < botF es fl P m)
  | [], m => ⟨Int.le_refl _, fun p hp => by simp at hp, fun h _ => h⟩
  | q :: P, m => by
    obtain ⟨h1, h2, h3⟩ := bot_spec es fl P (min m (roomE es fl q.1))
    have e : botF es fl (q :: P) m = botF es fl P (min m (roomE es fl q.1)) := rfl
    rw [e]
    refine ⟨by omega, fun p hp => ?_, fun h0 hp => h3 ?_ (fun p hp' => hp p (List.mem_cons_of_mem _ hp'))⟩
    · rcases List.mem_cons.1 hp with rfl | hp
      · omega
      · exact h2 p hp
    · have := hp q List.mem_cons_self; omega
/-! ### The numbers, raised so that the way has no length -/
def clip (D : List Int) (dt : Int) (v : Nat) : Int := if g D v < 0 ∨ dt < g D v then dt else g D v
def raiseN (pot D : List Int) (dt : Int) (k : Nat) : List Int := (List.range pot.length).map fun v => if v < k then g pot v + clip D dt v else g pot v
theorem raiseN_len (pot D : List Int) (dt : Int) (k : Nat) : (raiseN pot D dt k).length = pot.length := by simp [raiseN]
theorem raiseN_at {pot D : List Int} {dt : Int} {k v : Nat} (hv : v < pot.length) : g (raiseN pot D dt k) v = if v < k then g pot v + clip D dt v else g pot v := by
  unfold raiseN g
  rw [List.getD_eq_getElem?_getD, List.getElem?_map, List.getElem?_range hv]
  rfl
theorem raiseN_zero (pot D : List Int) (dt : Int) : raiseN pot D dt 0 = pot := ext_g (raiseN_len ..) fun v hv => by
  rw [raiseN_len] at hv
  rw [raiseN_at hv, if_neg (by omega)]
theorem raiseN_succ {pot D : List Int} {dt : Int} {k : Nat} (hk : k < pot.length) : (raiseN pot D dt k).set k (g pot k + clip D dt k) = raiseN pot D dt (k + 1) := ext_g (by simp [raiseN_len]) fun v hv => by
  have hv : v < pot.length := by simpa [raiseN_len] using hv
  rw [g_set (by rw [raiseN_len]; exact hk), raiseN_at hv]
  by_cases e : k = v
  · subst e; rw [upd_same, if_pos (by omega)]
  · rw [upd_ne _ _ e, raiseN_at hv]
    by_cases q : v < k
    · rw [if_pos q, if_pos (by omega)]
    · rw [if_neg q, if_neg (by omega)]
theorem clip_le (D : List Int) {dt : Int} (h : 0 ≤ dt) (v : Nat) : 0 ≤ clip D dt v ∧ clip D dt v ≤ dt := by
  unfold clip; split <;> omega
end
end Go.SolveP
