/-
  Package solve: plain.
-/
import Derived.Test.YtjijhpflkkicaaaPB
import Derived.Lib.BitFns
set_option linter.unusedVariables false
set_option linter.unusedSimpArgs false
namespace Go.SolveP
open Go Go.Mem Go.NetP Go.RestP Go.CertP Go.PathP

/-- The nodes at which there is over, of the first k. -/
def srcK (ov : List Int) (k : Nat) : List Int := ((List.range k).filter fun v => decide (0 < g ov v)).map fun v : Nat => (v : Int)
theorem srcK_succ (ov : List Int) (k : Nat) : srcK ov (k + 1) = srcK ov k ++ if 0 < g ov k then [(k : Int)] else [] := by
  unfold srcK
  rw [List.range_succ, List.filter_append, List.map_append, List.filter_cons]
  by_cases h : 0 < g ov k
  · rw [if_pos h, if_pos (decide_eq_true h)]; rfl
  · rw [if_neg h, if_neg (by simpa using h)]; rfl
theorem srcK_len (ov : List Int) (k : Nat) : (srcK ov k).length ≤ k := by
  unfold srcK
  rw [List.length_map]
  exact Nat.le_trans (List.length_filter_le _ _) (by simp)
theorem srcK_mem {ov : List Int} {k : Nat} {x : Int} : x ∈ srcK ov k ↔ ∃ v : Nat, v < k ∧ 0 < g ov v ∧ x = v := by
  unfold srcK
  simp only [List.mem_map, List.mem_filter, List.mem_range, decide_eq_true_eq]
  constructor
  · rintro ⟨v, ⟨h1, h2⟩, rfl⟩; exact ⟨v, h1, h2, rfl⟩
  · rintro ⟨v, h1, h2, rfl⟩; exact ⟨v, ⟨h1, h2⟩, rfl⟩
theorem src_from {ov : List Int} {k v : Nat} : v ∈ fromN (srcK ov k) ↔ v < k ∧ 0 < g ov v := by
  unfold fromN
  rw [List.mem_map]
  constructor
  · rintro ⟨x, hx, rfl⟩
    obtain ⟨v, h1, h2, rfl⟩ := srcK_mem.1 hx
    rw [Int.toNat_natCast]; exact ⟨h1, h2⟩
  · rintro ⟨h1, h2⟩
    exact ⟨v, srcK_mem.2 ⟨v, h1, h2, rfl⟩, Int.toNat_natCast v⟩
theorem src_fromB {ov : List Int} {n : Nat} (h : srcK ov n ≠ []) : fromB n (srcK ov n) = true := by
  unfold fromB
  rw [Bool.and_eq_true]
  refine ⟨List.all_eq_true.2 fun x hx => ?_, decide_eq_true h⟩
  obtain ⟨v, h1, _, rfl⟩ := srcK_mem.1 hx
  exact nodeI_iff.2 ⟨by omega, by omega⟩
/-- The nearest of the first k nodes that is short. -/
def nearK (ov D : List Int) : Nat → Int
  | 0 => -1
  | k + 1 => if g ov k < 0 ∧ 0 ≤ g D k ∧ (nearK ov D k < 0 ∨ g D k < g D (nearK ov D k).toNat) then (k : Int) else nearK ov D k
theorem near_spec (ov D : List Int) : ∀ k, (nearK ov D k = -1 ∧ ∀ v, v < k → g ov v < 0 → g D v < 0) ∨ ∃ t : Nat, nearK ov D k = t ∧ t < k ∧ g ov t < 0 ∧ 0 ≤ g D t
  | 0 => .inl ⟨rfl, fun v hv => by omega⟩
  | k + 1 => by
    unfold nearK
    by_cases h : g ov k < 0 ∧ 0 ≤ g D k ∧ (nearK ov D k < 0 ∨ g D k < g D (nearK ov D k).toNat)
    · rw [if_pos h]
      exact .inr ⟨k, rfl, by omega, h.1, h.2.1⟩
    · rw [if_neg h]
      rcases near_spec ov D k with ⟨h1, h2⟩ | ⟨t, h1, h2, h3, h4⟩
      · refine .inl ⟨h1, fun v hv hs => ?_⟩
        by_cases e : v = k
        · subst e
          rw [h1] at h
          rcases Int.lt_or_le (g D v) 0 with q | q
          · exact q
          · exact absurd ⟨hs, q, .inl (by omega)⟩ h
        · exact h2 v (by omega) hs
      · exact .inr ⟨t, h1, by omega, h3, h4⟩
/-! ### A node that is short is reached -/
theorem sumN_pos (f : Nat → Int) : ∀ n, (∀ v, v < n → 0 ≤ f v) → 0 ≤ sumN f n
  | 0, _ => Int.le_refl _
  | n + 1, h => by have := sumN_pos f n (fun v hv => h v (by omega)); have := h n (by omega); simp only [sumN]; omega
theorem sumN_gt (f : Nat → Int) : ∀ n s, (∀ v, v < n → 0 ≤ f v) → s < n → f s ≤ sumN f n
  | 0, s, _, hs => by omega
  | n + 1, s, h, hs => by
    simp only [sumN]
    have hn := h n (by omega)
    by_cases e : s = n
    · subst e; have := sumN_pos f s (fun v hv => h v (by omega)); omega
    · have := sumN_gt f n s (fun v hv => h v (by omega)) (by omega); omega
theorem potSum_le (es : List Ed) (fl : List Int) (p : Nat → Int) : ∀ m, (∀ j, j < m → fl.getD j 0 * (p (edAt es j).t.toNat - p (edAt es j).f.toNat) ≤ 0) → potSum es fl p m ≤ 0
  | 0, _ => Int.le_refl _
  | m + 1, h => by
    have h1 := potSum_le es fl p m (fun j hj => h j (by omega))
    have h2 := h m (by omega)
    simp only [potSum]; omega
/-- The excess of each node. -/
def exc (es : List Ed) (fl : List Int) (v : Nat) : Int := overAt es fl v fl.length
theorem reach {N : Nat} {es : List Ed} {fl pot D B H ov : List Int} (hw : withinB N es fl = true) (hov : ∀ v, v < N → g ov v = exc es fl v) (hs : srcK ov N ≠ []) (hh : WH (arcsL es fl pot) (· ∈ fromN (srcK ov N)) N D H B) : ∃ t : Nat, nearK ov D N = t ∧ t < N ∧ g ov t < 0 ∧ 0 ≤ g D t := by
  rcases near_spec ov D N with ⟨_, h2⟩ | h
  rotate_left
  · exact h
  exfalso
  obtain ⟨x, hx⟩ := List.exists_mem_of_ne_nil _ hs
  obtain ⟨s, hs1, hs2, rfl⟩ := srcK_mem.1 hx
  have hsD := (hh.src_ s hs1 (src_from.2 ⟨hs1, hs2⟩)).1
  obtain ⟨p, hp⟩ : ∃ p : Nat → Int, p = fun v => if 0 ≤ g D v then 1 else 0 := ⟨_, rfl⟩
  have e1 := pot_over (n := N) (es := es) (fl := fl) p fl.length (fun j hj => within_ends hw j hj)
  have e2 : potSum es fl p fl.length ≤ 0 := potSum_le es fl p fl.length fun j hj => by
    have hl := (within_cap hw).1
    have hje : j < es.length := by omega
    obtain ⟨x0, x1⟩ := within_at hw hje
    obtain ⟨⟨t0, t1⟩, f0, f1⟩ := within_ends hw j hj
    rw [hp]
    dsimp only
    by_cases q1 : 0 ≤ g D (edAt es j).t.toNat
    · by_cases q2 : 0 ≤ g D (edAt es j).f.toNat
      · rw [if_pos q1, if_pos q2]; simp
      · by_cases q3 : 0 < fl.getD j 0
        · have ha : arcAt es pot (2 * j + 1) ∈ arcsL es fl pot := arcs_mem.2 ⟨2 * j + 1, by omega, by
            unfold roomE; rw [if_pos (by unfold oddB; simp), show (2 * j + 1) / 2 = j by omega]; exact q3, rfl⟩
          have := hh.arc _ ha
          unfold PathP.arcAt at this
          rw [ends_odd2] at this
          have := (this q1).1
          exact absurd this q2
        · have : fl.getD j 0 = 0 := by omega
          rw [this]; simp
    · rw [if_neg q1]
      have : 0 ≤ (if 0 ≤ g D (edAt es j).f.toNat then (1 : Int) else 0) := by split <;> omega
      have h3 : 0 ≤ fl.getD j 0 * (if 0 ≤ g D (edAt es j).f.toNat then (1 : Int) else 0) := Int.mul_nonneg x0 this
      rw [Int.zero_sub, Int.mul_neg]; omega
  have e3 := sumN_gt (fun v => p v * overAt es fl v fl.length) N s (fun v hv => by
    rw [hp]
    dsimp only
    by_cases q : 0 ≤ g D v
    · rw [if_pos q, Int.one_mul]
      have h3 := hov v hv
      unfold exc at h3
      rw [← h3]
      rcases Int.lt_or_le (g ov v) 0 with r | r
      · have := h2 v hv r; omega
      · exact r
    · rw [if_neg q]; simp) hs1
  have h4 := hov s hs1
  unfold exc at h4
  rw [e1] at e3
  rw [hp] at e3
  dsimp only at e3
  rw [if_pos (by omega), Int.one_mul, ← h4] at e3
  rw [hp] at e2
  omega
/-! ### The way back -/
/-- The arcs of the way that comes to a node, from its end on, with where each begins. -/
def backF (es : List Ed) (B : List Int) : Nat → Nat → List (Nat × Nat)
  | 0, _ => []
  | k + 1, v => if g B v < 0 then [] else ((g B v).toNat, (endsE es (g B v).toNat).1.toNat) :: backF es B k (endsE es (g B v).toNat).1.toNat
/-- Where a way that comes to a node begins. -/
def rootF : Nat → List (Nat × Nat) → Nat
  | v, [] => v
  | _, p :: P => rootF p.2 P
/-- A way, back from a node: each arc is the one that is told for where it ends. -/
inductive BW (A : List Ar) (D H B : List Int) : Nat → List (Nat × Nat) → Prop
  | nil {v : Nat} : g B v = -1 → BW A D H B v []
  | cons {v : Nat} {P : List (Nat × Nat)} {a : Ar} : a ∈ A → a.v = v → g B v = a.k → 0 ≤ g D a.u → 0 ≤ g D v → g D v = g D a.u + a.len → g H a.u + 1 = g H v → BW A D H B a.u P → BW A D H B v ((a.k, a.u) :: P)
section
variable {N : Nat} {es : List Ed} {fl pot D H B : List Int} {src : Nat → Prop}
theorem back_bw (hh : WH (arcsL es fl pot) src N D H B) (hn : Net (arcsL es fl pot) src N maxL) : ∀ (k v : Nat), v < N → g H v < k → BW (arcsL es fl pot) D H B v (backF es B k v)
  | 0, v, hv, hk => by have := (hh.hop v hv).1; omega
  | k + 1, v, hv, hk => by
    unfold backF
    by_cases h : g B v < 0
    · rw [if_pos h]
      exact .nil (hh.none_ v hv h).2
    · rw [if_neg h]
      obtain ⟨a, ha, e1, e2, e3, e4, e5, e6⟩ := hh.some_ v hv (by omega)
      obtain ⟨m, hm, hr, rfl⟩ := arcs_mem.1 ha
      have ek : (PathP.arcAt es pot m).k = m := rfl
      have eu : (PathP.arcAt es pot m).u = (endsE es m).1.toNat := rfl
      have e7 : (g B v).toNat = m := by rw [e1, ek]; simp
      rw [e7, ← eu]
      have hu := hn.u _ ha
      have := back_bw hh hn k (PathP.arcAt es pot m).u hu (by omega)
      exact .cons ha e2 e1 e3 e4 e5 e6 this
theorem BW.all {A : List Ar} {M : Int} (hn : Net A src N M) {v : Nat} {P : List (Nat × Nat)} (h : BW A D H B v P) : ∀ p ∈ P, ∃ a ∈ A, a.k = p.1 ∧ a.u = p.2 ∧ g H a.v ≤ g H v ∧ g H a.u + 1 = g H a.v ∧ g D a.v = g D a.u + a.len ∧ 0 ≤ g D a.u ∧ g D a.v ≤ g D v := by
  induction h with
  | nil _ => intro p hp; simp at hp
  | @cons v P a ha hv hb hu hd0 hd hh _ ih =>
    intro p hp
    have hl := hn.l0 a ha
    rcases List.mem_cons.1 hp with rfl | hp
    · exact ⟨a, ha, rfl, rfl, by rw [hv]; omega, by rw [hv]; exact hh, by rw [hv]; exact hd, hu, by rw [hv]; omega⟩
    · obtain ⟨b, q1, q2, q3, q4, q5, q6, q7, q8⟩ := ih p hp
      exact ⟨b, q1, q2, q3, by omega, q5, q6, q7, by omega⟩
theorem BW.root {A : List Ar} {M : Int} (hn : Net A src N M) {v : Nat} {P : List (Nat × Nat)} (h : BW A D H B v P) : v < N → 0 ≤ g D v → rootF v P < N ∧ g B (rootF v P) = -1 ∧ 0 ≤ g D (rootF v P) := by
  induction h with
  | nil hb => intro h1 h2; exact ⟨h1, hb, h2⟩
  | @cons v P a ha hv hb hu hd0 hd hh _ ih => intro h1 h2; exact ih (hn.u a ha) hu
/-- A node to which no arc is told, and that is reached, is one from which the ways lead. -/
theorem WS.root {A : List Ar} {M : Int} (h : WS A src N M D B) {v : Nat} (hv : v < N) (hB : g B v = -1) (h0 : 0 ≤ g D v) : src v := by
  obtain ⟨H, lH, hr, hl, hb⟩ := h.lab
  have hn := h.net
  rcases hb v hv with ⟨_, q⟩ | ⟨a, _, _, e, _⟩
  · rcases hl.real v hv with p | ⟨_, p⟩
    · omega
    · obtain ⟨X, hX⟩ : ∃ X, X = g D v := ⟨_, rfl⟩
      obtain ⟨Y, hY⟩ : ∃ Y, Y = g H v := ⟨_, rfl⟩
      rw [← hX, ← hY] at p
      cases p with
      | nil hs => exact hs
      | @snoc u x y a p ha hu =>
        exfalso
        subst hu
        have h1 := hl.least _ _ _ p
        rcases hl.real a.u (hn.u a ha) with r | ⟨_, r⟩
        · unfold PathP.LE at h1; omega
        · have h2 := hl.least _ _ _ (.snoc r ha rfl)
          have hp := p.pos hn
          unfold PathP.LE at h1 h2
          have : byC D H a.v a = true := byC_iff.2 ⟨rfl, h1.1, by omega, by omega, by omega⟩
          rw [q a ha] at this; cases this
  · omega
theorem half_eq {j k : Nat} (h : j / 2 = k / 2) : j = k ∨ j = Mem.flip k := by
  unfold Mem.flip; split <;> omega
/-- No edge comes twice on a way. -/
theorem BW.apart (hn : Net (arcsL es fl pot) src N maxL) {v : Nat} {P : List (Nat × Nat)} (h : BW (arcsL es fl pot) D H B v P) : (P.map fun p => p.1 / 2).Nodup := by
  induction h with
  | nil _ => simp
  | @cons v P a ha hv hb hu hd0 hd hh ht ih =>
    rw [List.map_cons, List.nodup_cons]
    refine ⟨fun hm => ?_, ih⟩
    obtain ⟨p, hp, e⟩ := List.mem_map.1 hm
    obtain ⟨b, q1, q2, q3, q4, q5, _⟩ := ht.all hn p hp
    obtain ⟨j, j1, _, rfl⟩ := arcs_mem.1 ha
    obtain ⟨k, k1, _, rfl⟩ := arcs_mem.1 q1
    have ej : (PathP.arcAt es pot j).k = j := rfl
    have ek : (PathP.arcAt es pot k).k = k := rfl
    rw [← q2, ej, ek] at e
    rcases half_eq e with r | r
    · subst r
      rw [hv] at q4
      omega
    · subst r
      have f1 : (PathP.arcAt es pot (Mem.flip j)).u = (PathP.arcAt es pot j).v := by unfold PathP.arcAt; rw [ends_flip]
      have f2 : (PathP.arcAt es pot (Mem.flip j)).v = (PathP.arcAt es pot j).u := by unfold PathP.arcAt; rw [ends_flip]
      rw [f1, f2, hv] at q5
      omega
/-! ### What is pushed along a way -/
def pushP (fl : List Int) (P : List (Nat × Nat)) (m : Int) : List Int := P.foldl (fun f p => pushL f p.1 m) fl
theorem room_ne (es : List Ed) (fl : List Int) {a k : Nat} (m : Int) (h : a / 2 ≠ k / 2) : roomE es (pushL fl a m) k = roomE es fl k := by
  have e : (pushL fl a m).getD (k / 2) 0 = fl.getD (k / 2) 0 := by
    unfold pushL
    rw [List.getD_eq_getElem?_getD, List.getElem?_set_ne h, ← List.getD_eq_getElem?_getD]
  unfold roomE
  rw [e]
theorem ends_arc {es : List Ed} {pot : List Int} {n : Nat} (hr : rightB n es = true) {k : Nat} (hk : k < 2 * es.length) : (endsE es k).1 = ((PathP.arcAt es pot k).u : Int) ∧ (endsE es k).2.1 = ((PathP.arcAt es pot k).v : Int) := by
  obtain ⟨h1, h2, _⟩ := ends_node hr hk
  unfold PathP.arcAt
  dsimp only
  omega
theorem BW.push {A : List Ar} {m : Int} (hA : ∀ a ∈ A, ∃ k, k < 2 * es.length ∧ a = PathP.arcAt es pot k) (hm : 0 ≤ m) {v : Nat} {P : List (Nat × Nat)} (h : BW A D H B v P) :
    ∀ f : List Int, withinB N es f = true → (∀ p ∈ P, m ≤ roomE es f p.1) → (P.map fun p => p.1 / 2).Nodup →
      withinB N es (pushP f P m) = true ∧ (∀ x, exc es (pushP f P m) x = exc es f x + (gain (decide ((v : Int) = x)) m - gain (decide ((rootF v P : Int) = x)) m)) ∧ ∀ k, 0 < roomE es (pushP f P m) k → 0 < roomE es f k ∨ ∃ p ∈ P, k = Mem.flip p.1 := by
  induction h with
  | nil _ =>
    intro f hw _ _
    exact ⟨hw, fun x => by unfold pushP rootF; rw [Int.sub_self]; simp, fun k hk => .inl hk⟩
  | @cons v P a ha hv hb hu hd0 hd hh ht ih =>
    intro f hw hr hd'
    obtain ⟨k, hk, rfl⟩ := hA a ha
    have ek : (PathP.arcAt es pot k).k = k := rfl
    rw [List.map_cons, List.nodup_cons] at hd'
    obtain ⟨hd1, hd2⟩ := hd'
    have hl := (within_cap hw).1
    have hrt := (within_cap hw).2.1
    have hh : hasB es.length (k : Int) = true := by rw [hasB_iff]; omega
    have hrk := hr _ List.mem_cons_self
    rw [ek] at hd1 hrk
    have hw1 := push_within hw hh hm hrk
    have hne : ∀ p ∈ P, k / 2 ≠ p.1 / 2 := fun p hp e => hd1 (List.mem_map.2 ⟨p, hp, e.symm⟩)
    obtain ⟨i1, i2, i3⟩ := ih (pushL f k m) hw1 (fun p hp => by rw [room_ne _ _ _ (hne p hp)]; exact hr p (List.mem_cons_of_mem _ hp)) hd2
    have e0 : pushP f (((PathP.arcAt es pot k).k, (PathP.arcAt es pot k).u) :: P) m = pushP (pushL f k m) P m := rfl
    rw [e0]
    have hl1 : (pushL f k m).length = f.length := pushL_length _ _ _
    refine ⟨i1, fun x => ?_, fun j hj => ?_⟩
    · rw [i2 x]
      have ho := over_push (es := es) (fl := f) (a := k) (by omega) m x
      obtain ⟨n1, n2⟩ := ends_arc (pot := pot) hrt hk
      rw [n1, n2, hv] at ho
      unfold exc at *
      rw [hl1, ho]
      show _ = _ + (_ - gain (decide ((rootF (PathP.arcAt es pot k).u P : Int) = x)) m)
      omega
    · rcases i3 j hj with q | ⟨p, hp, q⟩
      · by_cases e : k / 2 = j / 2
        · rcases half_eq e.symm with r | r
          · subst r
            rw [room_push (by omega)] at q
            exact .inl (by omega)
          · exact .inr ⟨_, List.mem_cons_self, r⟩
        · rw [room_ne _ _ _ e] at q
          exact .inl q
      · exact .inr ⟨p, List.mem_cons_of_mem _ hp, q⟩
/-- How much may be pushed. -/
def botF (es : List Ed) (fl : List Int) (P : List (Nat × Nat)) (m : Int) : Int := P.foldl (fun x p => min x (roomE es fl p.1)) m
theorem bot_spec (es : List Ed) (fl : List Int) : ∀ (P : List (Nat × Nat)) (m : Int), botF es fl P m ≤ m ∧ (∀ p ∈ P, botF es fl P m ≤ roomE es fl p.1) ∧ (0 < m → (∀ p ∈ P, 0 < roomE es fl p.1) → 0 < botF es fl P m)
  | [], m => ⟨Int.le_refl _, fun p hp => by simp at hp, fun h _ => h⟩
  | q :: P, m => by
    obtain ⟨h1, h2, h3⟩ := bot_spec es fl P (min m (roomE es fl q.1))
    have e : botF es fl (q :: P) m = botF es fl P (min m (roomE es fl q.1)) := rfl
    rw [e]
    refine ⟨by omega, fun p hp => ?_, fun h0 hp => h3 ?_ (fun p hp' => hp p (List.mem_cons_of_mem _ hp'))⟩
    · rcases List.mem_cons.1 hp with rfl | hp
      · omega
      · exact h2 p hp
    · have := hp q List.mem_cons_self; omega
/-! ### The numbers, raised so that the way has no length -/
def clip (D : List Int) (dt : Int) (v : Nat) : Int := if g D v < 0 ∨ dt < g D v then dt else g D v
def raiseN (pot D : List Int) (dt : Int) (k : Nat) : List Int := (List.range pot.length).map fun v => if v < k then g pot v + clip D dt v else g pot v
theorem raiseN_len (pot D : List Int) (dt : Int) (k : Nat) : (raiseN pot D dt k).length = pot.length := by simp [raiseN]
theorem raiseN_at {pot D : List Int} {dt : Int} {k v : Nat} (hv : v < pot.length) : g (raiseN pot D dt k) v = if v < k then g pot v + clip D dt v else g pot v := by
  unfold raiseN g
  rw [List.getD_eq_getElem?_getD, List.getElem?_map, List.getElem?_range hv]
  rfl
theorem raiseN_zero (pot D : List Int) (dt : Int) : raiseN pot D dt 0 = pot := ext_g (raiseN_len ..) fun v hv => by
  rw [raiseN_len] at hv
  rw [raiseN_at hv, if_neg (by omega)]
theorem raiseN_succ {pot D : List Int} {dt : Int} {k : Nat} (hk : k < pot.length) : (raiseN pot D dt k).set k (g pot k + clip D dt k) = raiseN pot D dt (k + 1) := ext_g (by simp [raiseN_len]) fun v hv => by
  have hv : v < pot.length := by simpa [raiseN_len] using hv
  rw [g_set (by rw [raiseN_len]; exact hk), raiseN_at hv]
  by_cases e : k = v
  · subst e; rw [upd_same, if_pos (by omega)]
  · rw [upd_ne _ _ e, raiseN_at hv]
    by_cases q : v < k
    · rw [if_pos q, if_pos (by omega)]
    · rw [if_neg q, if_neg (by omega)]
theorem clip_le (D : List Int) {dt : Int} (h : 0 ≤ dt) (v : Nat) : 0 ≤ clip D dt v ∧ clip D dt v ≤ dt := by
  unfold clip; split <;> omega
end
end Go.SolveP
namespace Go.SolveP
open Go Go.Mem Go.NetP Go.RestP Go.CertP Go.PathP

/-! ### Numbers made anew -/
def relaxA (es : List Ed) (fl : List Int) (pot : List Int) (a : Nat) : List Int :=
  if g pot (endsE es a).1.toNat + (endsE es a).2.2 < g pot (endsE es a).2.1.toNat ∧ 0 < roomE es fl a then pot.set (endsE es a).2.1.toNat (g pot (endsE es a).1.toNat + (endsE es a).2.2) else pot
def roundA (es : List Ed) (fl : List Int) (m : Nat) (pot : List Int) : List Int := (List.range m).foldl (relaxA es fl) pot
def anewK (es : List Ed) (fl : List Int) (N : Nat) : Nat → List Int
  | 0 => List.replicate N 0
  | k + 1 => roundA es fl (2 * es.length) (anewK es fl N k)
theorem roundA_succ (es : List Ed) (fl : List Int) (m : Nat) (pot : List Int) : roundA es fl (m + 1) pot = relaxA es fl (roundA es fl m pot) m := by
  unfold roundA; rw [List.range_succ, List.foldl_append]; rfl
/-- An arc with its cost. -/
structure Ac where
  u : Nat
  v : Nat
  c : Int
def acAt (es : List Ed) (a : Nat) : Ac := ⟨(endsE es a).1.toNat, (endsE es a).2.1.toNat, (endsE es a).2.2⟩
section
variable (A : Ac → Prop)
/-- A way from anywhere: where it ends, what it costs, how many arcs. -/
inductive Wy : Nat → Int → Nat → Prop
  | nil (s : Nat) : Wy s 0 0
  | snoc {u : Nat} {x : Int} {y : Nat} {a : Ac} : Wy u x y → A a → a.u = u → Wy a.v (x + a.c) (y + 1)
/-- A way whose nodes all have numbers that are as low. -/
inductive GY (d : Nat → Int) : Nat → Int → List Nat → Prop
  | nil {s : Nat} : d s ≤ 0 → GY d s 0 [s]
  | snoc {u : Nat} {x : Int} {P : List Nat} {a : Ac} : GY d u x P → A a → a.u = u → a.v ∉ P → d a.v ≤ x + a.c → GY d a.v (x + a.c) (a.v :: P)
end
section
variable {A : Ac → Prop} {N : Nat} {p d d' : Nat → Int}
theorem GY.mono (hm : ∀ v, d' v ≤ d v) {v : Nat} {x : Int} {P : List Nat} (h : GY A d v x P) : GY A d' v x P := by
  induction h with
  | nil hs => exact .nil (Int.le_trans (hm _) hs)
  | snoc _ ha hu hn hl ih => exact .snoc ih ha hu hn (Int.le_trans (hm _) hl)
theorem GY.wy {v : Nat} {x : Int} {P : List Nat} (h : GY A d v x P) : Wy A v x (P.length - 1) := by
  induction h with
  | nil _ => exact .nil _
  | @snoc u x P a hg ha hu _ _ ih =>
    have : 0 < P.length := by cases hg <;> simp
    have := ih.snoc ha hu
    rw [List.length_cons, show P.length + 1 - 1 = P.length - 1 + 1 by omega]
    exact this
theorem GY.ne {v : Nat} {x : Int} {P : List Nat} (h : GY A d v x P) : 0 < P.length := by cases h <;> simp
theorem GY.nodup {v : Nat} {x : Int} {P : List Nat} (h : GY A d v x P) : P.Nodup := by
  induction h with
  | nil _ => simp
  | snoc _ _ _ hn _ ih => exact List.nodup_cons.2 ⟨hn, ih⟩
theorem GY.nodes (hA : ∀ a, A a → a.u < N ∧ a.v < N) {v : Nat} {x : Int} {P : List Nat} (h : GY A d v x P) (hv : v < N) : ∀ w ∈ P, w < N := by
  induction h with
  | nil _ => intro w hw; simp at hw; subst hw; exact hv
  | snoc _ ha hu _ _ ih =>
    intro w hw
    rcases List.mem_cons.1 hw with rfl | hw
    · exact hv
    · exact ih (by rw [← hu]; exact (hA _ ha).1) w hw
/-- Its nodes' numbers, less those of numbers that fit, are no greater than its end's. -/
theorem GY.mem (hp : ∀ a, A a → 0 ≤ a.c + p a.u - p a.v) {v : Nat} {x : Int} {P : List Nat} (h : GY A d v x P) : ∀ w ∈ P, d w - p w ≤ x - p v := by
  induction h with
  | nil hs => intro w hw; simp at hw; subst hw; omega
  | @snoc u x P a _ ha hu hn hl ih =>
    intro w hw
    have h1 := hp _ ha
    rcases List.mem_cons.1 hw with rfl | hw
    · omega
    · have h2 := ih w hw
      rw [hu] at h1
      omega
/-- Each number is that of a way. -/
def RealY (A : Ac → Prop) (N : Nat) (d : Nat → Int) : Prop := ∀ v, v < N → ∃ P, GY A d v (d v) P
theorem RealY.relax (hA : ∀ a, A a → a.u < N ∧ a.v < N) (hp : ∀ a, A a → 0 ≤ a.c + p a.u - p a.v) (h : RealY A N d) {a : Ac} (ha : A a) (hb : d a.u + a.c < d a.v) : RealY A N (upd d a.v (d a.u + a.c)) := by
  have hm : ∀ w, upd d a.v (d a.u + a.c) w ≤ d w := fun w => by
    unfold upd; split
    · rename_i e; subst e; omega
    · omega
  obtain ⟨P, hP⟩ := h a.u (hA a ha).1
  have hn : a.v ∉ P := fun hmem => by
    have h1 := hP.mem hp _ hmem
    have h2 := hp a ha
    omega
  intro v hv
  by_cases e : a.v = v
  · subst e
    rw [upd_same]
    exact ⟨a.v :: P, .snoc (hP.mono hm) ha rfl hn (by rw [upd_same]; omega)⟩
  · rw [upd_ne _ _ e]
    obtain ⟨Q, hQ⟩ := h v hv
    exact ⟨Q, hQ.mono hm⟩
theorem RealY.len (hA : ∀ a, A a → a.u < N ∧ a.v < N) (h : RealY A N d) {v : Nat} (hv : v < N) : ∃ y, y + 1 ≤ N ∧ Wy A v (d v) y := by
  obtain ⟨P, hP⟩ := h v hv
  have h1 := nodup_le N P hP.nodup (hP.nodes hA hv)
  have h2 := hP.ne
  exact ⟨P.length - 1, by omega, hP.wy⟩
theorem Wy.cost (hc : ∀ a, A a → -1000 ≤ a.c) {v : Nat} {x : Int} {y : Nat} (h : Wy A v x y) : -(1000 * (y : Int)) ≤ x := by
  induction h with
  | nil => omega
  | snoc _ ha _ ih => have := hc _ ha; omega
end
/-- In a round, behind some arcs. -/
structure AN (A : Nat → Prop) (es : List Ed) (N : Nat) (r m : Nat) (d : List Int) : Prop where
  len : d.length = N
  real : RealY (fun a => ∃ k, A k ∧ a = acAt es k) N (g d)
  low : ∀ v, v < N → g d v ≤ 0
  le : ∀ v x y, Wy (fun a => ∃ k, A k ∧ a = acAt es k) v x y → v < N → y ≤ r → g d v ≤ x
  now : ∀ k, k < m → A k → ∀ x y, Wy (fun a => ∃ k, A k ∧ a = acAt es k) (acAt es k).u x y → y ≤ r → g d (acAt es k).v ≤ x + (acAt es k).c
section
variable {es : List Ed} {fl : List Int} {N r m : Nat} {d p : List Int}
def hasA (es : List Ed) (fl : List Int) (k : Nat) : Prop := k < 2 * es.length ∧ 0 < roomE es fl k
theorem hasA_node (hr : rightB N es = true) (a : Ac) (ha : ∃ k, hasA es fl k ∧ a = acAt es k) : (a.u < N ∧ a.v < N) ∧ -1000 ≤ a.c ∧ a.c ≤ 1000 := by
  obtain ⟨k, ⟨h1, h2⟩, rfl⟩ := ha
  obtain ⟨e1, e2, e3, e4⟩ := ends_node hr h1
  unfold acAt
  dsimp only
  omega
theorem hasA_fit (hr : rightB N es = true) (ht : tightB es fl p = true) (a : Ac) (ha : ∃ k, hasA es fl k ∧ a = acAt es k) : 0 ≤ a.c + g p a.u - g p a.v := by
  obtain ⟨k, ⟨h1, h2⟩, rfl⟩ := ha
  exact tight_at ht h1 h2
theorem AN.start : AN (hasA es fl) es N 0 0 (List.replicate N 0) := by
  have hz : ∀ v, v < N → g (List.replicate N 0) v = 0 := fun v hv => by
    unfold g; rw [List.getD_eq_getElem?_getD, List.getElem?_replicate, if_pos hv]; rfl
  refine ⟨by simp, fun v hv => ?_, fun v hv => by rw [hz v hv]; omega, fun v x y h hv hy => ?_, fun k hk => by omega⟩
  · rw [hz v hv]
    exact ⟨[v], .nil (by rw [hz v hv]; omega)⟩
  · cases h with
    | nil => rw [hz v hv]; omega
    | snoc => omega
theorem AN.step (hr : rightB N es = true) (ht : tightB es fl p = true) (h : AN (hasA es fl) es N r m d) (hm : m < 2 * es.length) : AN (hasA es fl) es N r (m + 1) (relaxA es fl d m) := by
  obtain ⟨e1, e2, e3, e4⟩ := ends_node hr hm
  have hv : (acAt es m).v < N := by unfold acAt; dsimp only; omega
  unfold relaxA
  by_cases hc : g d (endsE es m).1.toNat + (endsE es m).2.2 < g d (endsE es m).2.1.toNat ∧ 0 < roomE es fl m
  · rw [if_pos hc]
    have ha : ∃ k, hasA es fl k ∧ acAt es m = acAt es k := ⟨m, ⟨hm, hc.2⟩, rfl⟩
    have hre := h.real.relax (p := g p) (fun a ha => (hasA_node hr a ha).1) (fun a ha => hasA_fit hr ht a ha) ha hc.1
    have hg : g (d.set (endsE es m).2.1.toNat (g d (endsE es m).1.toNat + (endsE es m).2.2)) = upd (g d) (acAt es m).v (g d (acAt es m).u + (acAt es m).c) := g_set (by rw [h.len]; exact hv) _
    have hmo : ∀ w, upd (g d) (acAt es m).v (g d (acAt es m).u + (acAt es m).c) w ≤ g d w := fun w => by
      unfold upd; split
      · rename_i e; subst e; exact Int.le_of_lt hc.1
      · omega
    refine ⟨by rw [List.length_set]; exact h.len, by rw [hg]; exact hre, fun v hv' => by rw [hg]; exact Int.le_trans (hmo v) (h.low v hv'), fun v x y hw hv' hy => by rw [hg]; exact Int.le_trans (hmo v) (h.le v x y hw hv' hy), fun k hk hA x y hw hy => ?_⟩
    rw [hg]
    by_cases e : k = m
    · subst e
      rw [upd_same]
      have hu : (acAt es k).u < N := by unfold acAt; dsimp only; omega
      have := h.le _ x y hw hu hy
      omega
    · exact Int.le_trans (hmo _) (h.now k (by omega) hA x y hw hy)
  · rw [if_neg hc]
    refine ⟨h.len, h.real, h.low, h.le, fun k hk hA x y hw hy => ?_⟩
    by_cases e : k = m
    · subst e
      have hu : (acAt es k).u < N := by unfold acAt; dsimp only; omega
      have h1 := h.le _ x y hw hu hy
      have h2 : ¬ g d (acAt es k).u + (acAt es k).c < g d (acAt es k).v := fun q => hc ⟨q, hA.2⟩
      omega
    · exact h.now k (by omega) hA x y hw hy
theorem AN.next (hr : rightB N es = true) (h : AN (hasA es fl) es N r (2 * es.length) d) : AN (hasA es fl) es N (r + 1) 0 d := by
  refine ⟨h.len, h.real, h.low, fun v x y hw hv hy => ?_, fun k hk => by omega⟩
  cases hw with
  | nil => exact h.low v hv
  | @snoc u x y a hw ha hu =>
    subst hu
    obtain ⟨k, hk, rfl⟩ := ha
    exact h.now k hk.1 hk x y hw (by omega)
theorem AN.all (hr : rightB N es = true) (ht : tightB es fl p = true) : ∀ k, AN (hasA es fl) es N k 0 (anewK es fl N k)
  | 0 => AN.start
  | k + 1 => by
    have h0 := AN.all hr ht k
    have : ∀ m, m ≤ 2 * es.length → AN (hasA es fl) es N k m (roundA es fl m (anewK es fl N k)) := by
      intro m
      induction m with
      | zero => intro _; exact h0
      | succ m ih => intro hm; rw [roundA_succ]; exact (ih (by omega)).step hr ht (by omega)
    exact (this _ (Nat.le_refl _)).next hr
/-- Numbers that are made anew fit. -/
theorem anew_fit (hr : rightB N es = true) (ht : tightB es fl p = true) : (anewK es fl N N).length = N ∧ tightB es fl (anewK es fl N N) = true ∧ ∀ v, v < N → -40000 ≤ g (anewK es fl N N) v ∧ g (anewK es fl N N) v ≤ 0 := by
  have h := AN.all (fl := fl) hr ht N
  obtain ⟨hn1, hn40, _⟩ := right_cap hr
  refine ⟨h.len, ?_, fun v hv => ?_⟩
  · unfold tightB
    refine List.all_eq_true.2 fun k hk => ?_
    have hk := List.mem_range.1 hk
    unfold tightS
    by_cases h0 : 0 < roomE es fl k
    · obtain ⟨e1, e2, e3, e4⟩ := ends_node hr hk
      have ha : ∃ j, hasA es fl j ∧ acAt es k = acAt es j := ⟨k, ⟨hk, h0⟩, rfl⟩
      have hu : (acAt es k).u < N := by unfold acAt; dsimp only; omega
      have hv : (acAt es k).v < N := by unfold acAt; dsimp only; omega
      obtain ⟨y, hy, hw⟩ := h.real.len (fun a ha => (hasA_node hr a ha).1) hu
      have := h.le _ _ _ (hw.snoc ha rfl) hv (by omega)
      have h2 : 0 ≤ lenA es (anewK es fl N N) k := by
        show 0 ≤ (acAt es k).c + g (anewK es fl N N) (acAt es k).u - g (anewK es fl N N) (acAt es k).v
        omega
      rw [decide_eq_false (by omega)]
      rfl
    · rw [decide_eq_false h0, Bool.and_false]
      rfl
  · obtain ⟨y, hy, hw⟩ := h.real.len (fun a ha => (hasA_node hr a ha).1) hv
    have := hw.cost (fun a ha => (hasA_node hr a ha).2.1)
    have := h.low v hv
    omega
/-- In the midst of the making: what numbers may be. -/
theorem anew_mid (hr : rightB N es = true) (ht : tightB es fl p = true) (k m : Nat) (hm : m ≤ 2 * es.length) : (roundA es fl m (anewK es fl N k)).length = N ∧ ∀ v, v < N → -40000 ≤ g (roundA es fl m (anewK es fl N k)) v ∧ g (roundA es fl m (anewK es fl N k)) v ≤ 0 := by
  obtain ⟨hn1, hn40, _⟩ := right_cap hr
  have h0 := AN.all (fl := fl) hr ht k
  have : ∀ m, m ≤ 2 * es.length → AN (hasA es fl) es N k m (roundA es fl m (anewK es fl N k)) := by
    intro m
    induction m with
    | zero => intro _; exact h0
    | succ m ih => intro hm; rw [roundA_succ]; exact (ih (by omega)).step hr ht (by omega)
  have h := this m hm
  refine ⟨h.len, fun v hv => ?_⟩
  obtain ⟨y, hy, hw⟩ := h.real.len (fun a ha => (hasA_node hr a ha).1) hv
  have := hw.cost (fun a ha => (hasA_node hr a ha).2.1)
  have := h.low v hv
  omega
end
def bigB (x : Int) : Bool := decide (x < -1073741824) || decide (1073741824 < x)
/-- .. if one got too great. -/
def narrowF (es : List Ed) (fl pot : List Int) (N : Nat) : List Int := if pot.any bigB then anewK es fl N N else pot
end Go.SolveP
namespace Go.SolveP
open Go Go.Mem Go.NetP Go.RestP Go.CertP Go.PathP

/-- A solver's numbers. -/
structure St where
  es : List Ed
  fl : List Int
  pot : List Int
  ov : List Int
  steps : Nat
/-- What stays so. -/
structure SI (N : Nat) (S : St) : Prop where
  fits : fitsB N S.es S.fl S.pot = true
  small : ∀ v, v < N → -1073741824 ≤ g S.pot v ∧ g S.pot v ≤ 1073741824
  lov : S.ov.length = N
  ov : ∀ v, v < N → g S.ov v = exc S.es S.fl v
def wayT (N : Nat) (S : St) (B : List Int) (t : Nat) : List (Nat × Nat) := backF S.es B N t
def mostT (N : Nat) (S : St) (B : List Int) (t : Nat) : Int := min (botF S.es S.fl (wayT N S B t) (-(g S.ov t))) (g S.ov (rootF t (wayT N S B t)))
def ovT (N : Nat) (S : St) (B : List Int) (t : Nat) : List Int :=
  (S.ov.set (rootF t (wayT N S B t)) (g S.ov (rootF t (wayT N S B t)) - mostT N S B t)).set t (g (S.ov.set (rootF t (wayT N S B t)) (g S.ov (rootF t (wayT N S B t)) - mostT N S B t)) t + mostT N S B t)
def flT (N : Nat) (S : St) (B : List Int) (t : Nat) : List Int := pushP S.fl (wayT N S B t) (mostT N S B t)
def fillS (N : Nat) (S : St) (D B : List Int) (t : Nat) : St :=
  { es := S.es, fl := flT N S B t, pot := narrowF S.es (flT N S B t) (raiseN S.pot D (g D t) N) N, ov := ovT N S B t, steps := S.steps + 1 }
/-- What is known when a way is to be filled. -/
structure FH (N : Nat) (S : St) (D B : List Int) (t : Nat) : Prop where
  si : SI N S
  src : srcK S.ov N ≠ []
  ws : WS (arcsL S.es S.fl S.pot) (· ∈ fromN (srcK S.ov N)) N maxL D B
  near : nearK S.ov D N = t
def FillR (N : Nat) (S S' : St) : Prop := ∃ D B t, FH N S D B t ∧ S' = fillS N S D B t
/-- How much is over. -/
def phi (ov : List Int) : Nat → Nat
  | 0 => 0
  | k + 1 => phi ov k + (g ov k).toNat
theorem phi_zero (ov : List Int) : ∀ k, srcK ov k = [] → ∀ v, v < k → g ov v ≤ 0 := by
  intro k h v hv
  rcases Int.lt_or_le 0 (g ov v) with q | q
  · have : (v : Int) ∈ srcK ov k := srcK_mem.2 ⟨v, hv, q, rfl⟩
    rw [h] at this; simp at this
  · exact q
theorem phi_set {ov : List Int} {s : Nat} {x : Int} (hs : s < ov.length) : ∀ k, phi (ov.set s x) k + (if s < k then (g ov s).toNat else 0) = phi ov k + (if s < k then x.toNat else 0)
  | 0 => by simp [phi]
  | k + 1 => by
    have ih := phi_set (x := x) hs k
    unfold phi
    rw [g_set hs]
    by_cases e : s = k
    · subst e
      rw [upd_same, if_pos (by omega), if_pos (by omega)]
      rw [if_neg (by omega), if_neg (by omega)] at ih
      omega
    · rw [upd_ne _ _ e]
      by_cases q : s < k
      · rw [if_pos (by omega), if_pos (by omega)]
        rw [if_pos q, if_pos q] at ih
        omega
      · rw [if_neg (by omega), if_neg (by omega)]
        rw [if_neg q, if_neg q] at ih
        omega
section
variable {N : Nat} {S : St} {D B : List Int} {t : Nat}
theorem len_flip (es : List Ed) (pot : List Int) (a : Nat) : lenA es pot (Mem.flip a) = -lenA es pot a := by
  unfold lenA; rw [ends_flip]; dsimp only; omega
theorem len_raise {es : List Ed} {pot D : List Int} {dt : Int} (hr : rightB N es = true) (hl : pot.length = N) {k : Nat} (hk : k < 2 * es.length) :
    lenA es (raiseN pot D dt N) k = lenA es pot k + clip D dt (endsE es k).1.toNat - clip D dt (endsE es k).2.1.toNat := by
  obtain ⟨e1, e2, _⟩ := ends_node hr hk
  have h1 := raiseN_at (pot := pot) (D := D) (dt := dt) (k := N) (v := (endsE es k).1.toNat) (by omega)
  have h2 := raiseN_at (pot := pot) (D := D) (dt := dt) (k := N) (v := (endsE es k).2.1.toNat) (by omega)
  rw [if_pos (by omega)] at h1 h2
  show (endsE es k).2.2 + g (raiseN pot D dt N) (endsE es k).1.toNat - g (raiseN pot D dt N) (endsE es k).2.1.toNat = (endsE es k).2.2 + g pot (endsE es k).1.toNat - g pot (endsE es k).2.1.toNat + _ - _
  omega
theorem g_mem {Y : List Int} {v : Nat} (h : v < Y.length) : g Y v ∈ Y := by
  unfold g
  rw [List.getD_eq_getElem?_getD, List.getElem?_eq_getElem h]
  exact List.getElem_mem _
/-- What the walk is told of a fill. -/
structure FF (N : Nat) (S : St) (D B : List Int) (t : Nat) : Prop where
  tN : t < N
  ovt : g S.ov t < 0
  dt0 : 0 ≤ g D t
  dt1 : g D t ≤ 83751901272
  way : ∀ p ∈ wayT N S B t, p.1 < 2 * S.es.length ∧ p.2 < N ∧ 0 < roomE S.es S.fl p.1 ∧ (endsE S.es p.1).1 = p.2
  wlen : (wayT N S B t).length ≤ N
  root : rootF t (wayT N S B t) < N
  ovr : 0 < g S.ov (rootF t (wayT N S B t))
  m0 : 0 < mostT N S B t
  m1 : mostT N S B t ≤ 900719925474099200
  si : SI N (fillS N S D B t)
  less : phi (fillS N S D B t).ov N < phi S.ov N
  raised : ∀ k v, k ≤ N → v < N → -1073741824 ≤ g (raiseN S.pot D (g D t) k) v ∧ g (raiseN S.pot D (g D t) k) v ≤ 84825643096
  tight : tightB S.es (flT N S B t) (raiseN S.pot D (g D t) N) = true
  within : withinB N S.es (flT N S B t) = true
theorem back_len (es : List Ed) (B : List Int) : ∀ k v, (backF es B k v).length ≤ k
  | 0, _ => Nat.le_refl _
  | k + 1, v => by
    unfold backF
    split
    · simp
    · rw [List.length_cons]; have := back_len es B k (endsE es (g B v).toNat).1.toNat; omega
theorem FH.ff (h : FH N S D B t) : FF N S D B t := by
  obtain ⟨hsi, hsrc, hws, hnear⟩ := h
  obtain ⟨hw, hr, hp, ht⟩ := fits_parts hsi.fits
  obtain ⟨hn1, hn40, hes, _, _⟩ := right_cap hr
  have hpl : S.pot.length = N := by have := (pot_cap hp).1; omega
  obtain ⟨H, hh⟩ := hws.wh (by omega)
  have hn := hws.net
  obtain ⟨t', ht', htN, hovt, hDt⟩ := reach hw hsi.ov hsrc hh
  obtain rfl : t = t' := by have := hnear.symm.trans ht'; omega
  have hbw : BW (arcsL S.es S.fl S.pot) D H B t (wayT N S B t) := back_bw hh hn N t htN (by have := (hh.hop t htN).2; omega)
  obtain ⟨r1, r2, r3⟩ := hbw.root hn htN hDt
  have rsrc : 0 < g S.ov (rootF t (wayT N S B t)) := (src_from.1 (WS.root hws r1 r2 r3)).2
  have hA : ∀ a ∈ arcsL S.es S.fl S.pot, ∃ k, k < 2 * S.es.length ∧ a = PathP.arcAt S.es S.pot k := fun a ha => by
    obtain ⟨k, h1, _, h3⟩ := arcs_mem.1 ha; exact ⟨k, h1, h3⟩
  have hway : ∀ p ∈ wayT N S B t, p.1 < 2 * S.es.length ∧ p.2 < N ∧ 0 < roomE S.es S.fl p.1 ∧ (endsE S.es p.1).1 = p.2 := fun p hp => by
    obtain ⟨a, ha, e1, e2, _⟩ := hbw.all hn p hp
    obtain ⟨k, k1, k2, rfl⟩ := arcs_mem.1 ha
    have ek : (PathP.arcAt S.es S.pot k).k = k := rfl
    rw [ek] at e1
    subst e1
    have := (ends_arc (pot := S.pot) hr k1).1
    exact ⟨k1, by rw [← e2]; exact hn.u _ ha, k2, by rw [this, e2]⟩
  have hne : wayT N S B t ≠ [] := fun e => by
    rw [e] at rsrc
    unfold rootF at rsrc
    omega
  obtain ⟨b1, b2, b3⟩ := bot_spec S.es S.fl (wayT N S B t) (-(g S.ov t))
  have hm0 : 0 < mostT N S B t := by
    have := b3 (by omega) (fun p hp => (hway p hp).2.2.1)
    unfold mostT; omega
  have hmr : ∀ p ∈ wayT N S B t, mostT N S B t ≤ roomE S.es S.fl p.1 := fun p hp => by have := b2 p hp; unfold mostT; omega
  have hmt : mostT N S B t ≤ -(g S.ov t) := by unfold mostT; omega
  have hmv : mostT N S B t ≤ g S.ov (rootF t (wayT N S B t)) := by unfold mostT; omega
  have hexb : ∀ v, v < N → -900719925474099200 ≤ g S.ov v ∧ g S.ov v ≤ 900719925474099200 := fun v hv => by
    have := over_at_bound hw v hv
    rw [over_get _ _ hv] at this
    rw [hsi.ov v hv]
    exact this
  obtain ⟨p1, p2, p3⟩ := hbw.push hA (Int.le_of_lt hm0) S.fl hw hmr (hbw.apart hn)
  have hlenb : ∀ a ∈ arcsL S.es S.fl S.pot, a.len ≤ 2147484648 := fun a ha => by
    obtain ⟨k, h1, h2, rfl⟩ := arcs_mem.1 ha
    obtain ⟨e1, e2, e3, e4⟩ := ends_node hr h1
    have q1 := hsi.small (endsE S.es k).1.toNat (by omega)
    have q2 := hsi.small (endsE S.es k).2.1.toNat (by omega)
    show lenA S.es S.pot k ≤ _
    unfold lenA
    rw [potAt_g, potAt_g]
    omega
  have hdm : g D t ≤ 83751901272 := by
    have := hh.max t htN 2147484648 hlenb (by omega); omega
  have hrb : ∀ k v, k ≤ N → v < N → -1073741824 ≤ g (raiseN S.pot D (g D t) k) v ∧ g (raiseN S.pot D (g D t) k) v ≤ 84825643096 := fun k v hk hv => by
    rw [raiseN_at (by omega)]
    have h1 := hsi.small v hv
    have h2 := clip_le D hDt v
    split <;> omega
  have hte : tightB S.es (flT N S B t) (raiseN S.pot D (g D t) N) = true := by
    unfold tightB
    refine List.all_eq_true.2 fun k hk => ?_
    have hk := List.mem_range.1 hk
    unfold tightS
    by_cases h0 : 0 < roomE S.es (flT N S B t) k
    · have hl : 0 ≤ lenA S.es (raiseN S.pot D (g D t) N) k := by
        have clipped : ∀ j, j < 2 * S.es.length → 0 < roomE S.es S.fl j → 0 ≤ lenA S.es S.pot j ∧ (0 ≤ g D (endsE S.es j).1.toNat → 0 ≤ g D (endsE S.es j).2.1.toNat ∧ g D (endsE S.es j).2.1.toNat ≤ g D (endsE S.es j).1.toNat + lenA S.es S.pot j) := fun j hj hjr =>
          ⟨tight_at ht hj hjr, fun q => hh.arc _ (arcs_mem.2 ⟨j, hj, hjr, rfl⟩) q⟩
        rcases p3 k h0 with q | ⟨p, hpP, rfl⟩
        · obtain ⟨c1, c2⟩ := clipped k hk q
          rw [len_raise hr hpl hk]
          have u1 := clip_le D hDt (endsE S.es k).1.toNat
          have v1 := clip_le D hDt (endsE S.es k).2.1.toNat
          by_cases q0 : 0 ≤ g D (endsE S.es k).1.toNat
          · obtain ⟨c3, c4⟩ := c2 q0
            have u2 : clip D (g D t) (endsE S.es k).1.toNat = min (g D (endsE S.es k).1.toNat) (g D t) := by unfold clip; split <;> omega
            have v2 : clip D (g D t) (endsE S.es k).2.1.toNat ≤ g D (endsE S.es k).2.1.toNat := by unfold clip; split <;> omega
            omega
          · have u2 : clip D (g D t) (endsE S.es k).1.toNat = g D t := by unfold clip; rw [if_pos (by omega)]
            omega
        · obtain ⟨a, ha, e1, e2, e3, e4, e5, e6, e7⟩ := hbw.all hn p hpP
          obtain ⟨j, j1, j2, rfl⟩ := arcs_mem.1 ha
          have ej : (PathP.arcAt S.es S.pot j).k = j := rfl
          rw [ej] at e1
          rw [← e1, len_flip, len_raise hr hpl j1]
          have e5' : g D (endsE S.es j).2.1.toNat = g D (endsE S.es j).1.toNat + lenA S.es S.pot j := e5
          have e6' : 0 ≤ g D (endsE S.es j).1.toNat := e6
          have e7' : g D (endsE S.es j).2.1.toNat ≤ g D t := e7
          have hl0 := tight_at ht j1 j2
          have u2 : clip D (g D t) (endsE S.es j).1.toNat = g D (endsE S.es j).1.toNat := by unfold clip; rw [if_neg (by omega)]
          have v2 : clip D (g D t) (endsE S.es j).2.1.toNat = g D (endsE S.es j).2.1.toNat := by unfold clip; rw [if_neg (by omega)]
          omega
      rw [decide_eq_false (by omega)]
      rfl
    · rw [decide_eq_false h0, Bool.and_false]
      rfl
  have hrl : (raiseN S.pot D (g D t) N).length = N := by rw [raiseN_len, hpl]
  have hnt : (narrowF S.es (flT N S B t) (raiseN S.pot D (g D t) N) N).length = N ∧ tightB S.es (flT N S B t) (narrowF S.es (flT N S B t) (raiseN S.pot D (g D t) N) N) = true ∧ ∀ v, v < N → -1073741824 ≤ g (narrowF S.es (flT N S B t) (raiseN S.pot D (g D t) N) N) v ∧ g (narrowF S.es (flT N S B t) (raiseN S.pot D (g D t) N) N) v ≤ 1073741824 := by
    unfold narrowF
    by_cases hb : (raiseN S.pot D (g D t) N).any bigB = true
    · rw [if_pos hb]
      obtain ⟨a1, a2, a3⟩ := anew_fit hr hte
      exact ⟨a1, a2, fun v hv => by have := a3 v hv; omega⟩
    · rw [if_neg hb]
      refine ⟨hrl, hte, fun v hv => ?_⟩
      have hnb : bigB (g (raiseN S.pot D (g D t) N) v) = false := by
        rw [Bool.eq_false_iff]; intro q
        exact hb (List.any_eq_true.2 ⟨_, g_mem (by rw [hrl]; exact hv), q⟩)
      unfold bigB at hnb
      simp only [Bool.or_eq_false_iff, decide_eq_false_iff_not] at hnb
      omega
  have hrt : rootF t (wayT N S B t) ≠ t := fun e => by rw [e] at rsrc; omega
  have hov : (ovT N S B t).length = N ∧ ∀ v, v < N → g (ovT N S B t) v = exc S.es (flT N S B t) v := by
    unfold ovT
    refine ⟨by rw [List.length_set, List.length_set]; exact hsi.lov, fun v hv => ?_⟩
    rw [g_set (by rw [List.length_set, hsi.lov]; exact htN), g_set (by rw [hsi.lov]; exact r1), upd_ne _ _ hrt]
    have hx := p2 v
    rw [← hsi.ov v hv] at hx
    unfold flT
    rw [hx]
    unfold upd gain
    by_cases q1 : t = v
    · subst q1
      rw [if_pos rfl, decide_eq_true (show (t : Int) = (t : Int) from rfl), decide_eq_false (show ¬ (rootF t (wayT N S B t) : Int) = (t : Int) by omega)]
      simp
    · rw [if_neg q1, decide_eq_false (show ¬ (t : Int) = v by omega)]
      by_cases q2 : rootF t (wayT N S B t) = v
      · rw [q2, if_pos rfl, decide_eq_true rfl]
        simp
        omega
      · rw [if_neg q2, decide_eq_false (show ¬ (rootF t (wayT N S B t) : Int) = v by omega)]
        simp
  have hphi : phi (ovT N S B t) N < phi S.ov N := by
    unfold ovT
    have h1 := phi_set (ov := S.ov) (s := rootF t (wayT N S B t)) (x := g S.ov (rootF t (wayT N S B t)) - mostT N S B t) (by rw [hsi.lov]; exact r1) N
    have h2 := phi_set (ov := S.ov.set (rootF t (wayT N S B t)) (g S.ov (rootF t (wayT N S B t)) - mostT N S B t)) (s := t) (x := g (S.ov.set (rootF t (wayT N S B t)) (g S.ov (rootF t (wayT N S B t)) - mostT N S B t)) t + mostT N S B t) (by rw [List.length_set, hsi.lov]; exact htN) N
    have e : g (S.ov.set (rootF t (wayT N S B t)) (g S.ov (rootF t (wayT N S B t)) - mostT N S B t)) t = g S.ov t := by rw [g_set (by rw [hsi.lov]; exact r1), upd_ne _ _ hrt]
    rw [if_pos htN, if_pos htN, e] at h2
    rw [if_pos r1, if_pos r1] at h1
    rw [e]
    omega
  refine ⟨htN, hovt, hDt, hdm, hway, back_len _ _ _ _, r1, rsrc, hm0, ?_, ⟨?_, hnt.2.2, hov.1, hov.2⟩, hphi, hrb, hte, p1⟩
  · have := hexb _ r1; omega
  · show fitsB N S.es (flT N S B t) (narrowF S.es (flT N S B t) (raiseN S.pot D (g D t) N) N) = true
    simp only [fitsB, Bool.and_eq_true]
    refine ⟨⟨p1, ?_⟩, hnt.2.1⟩
    simp only [potB, Bool.and_eq_true, decide_eq_true_eq]
    obtain ⟨a1, _, a3⟩ := hnt
    generalize narrowF S.es (flT N S B t) (raiseN S.pot D (g D t) N) N = X at a1 a3
    refine ⟨List.all_eq_true.2 fun x hx => ?_, by rw [a1]⟩
    obtain ⟨i, hi, rfl⟩ := List.getElem_of_mem hx
    have := a3 i (by rw [← a1]; exact hi)
    unfold g at this
    rw [List.getD_eq_getElem?_getD, List.getElem?_eq_getElem hi] at this
    simp only [Option.getD_some] at this
    rw [farB_iff]; omega
end
theorem FillR.si {N : Nat} {S S' : St} (h : FillR N S S') : SI N S' ∧ phi S'.ov N < phi S.ov N ∧ S'.es = S.es ∧ S'.steps = S.steps + 1 := by
  obtain ⟨D, B, t, h1, rfl⟩ := h
  have hf := h1.ff
  exact ⟨hf.si, hf.less, rfl, rfl⟩
/-- Fills, until nothing is over. -/
inductive Fills (N : Nat) : St → St → Prop
  | stop {S : St} : srcK S.ov N = [] → Fills N S S
  | step {S S1 S2 : St} : FillR N S S1 → Fills N S1 S2 → Fills N S S2
theorem FillR.src {N : Nat} {S S' : St} (h : FillR N S S') : srcK S.ov N ≠ [] := by
  obtain ⟨D, B, t, h1, _⟩ := h; exact h1.src
theorem Fills.si {N : Nat} {S S' : St} (h : Fills N S S') : SI N S → SI N S' ∧ srcK S'.ov N = [] ∧ S'.es = S.es ∧ S.steps ≤ S'.steps ∧ S'.steps ≤ S.steps + phi S.ov N := by
  induction h with
  | stop h0 => intro hs; exact ⟨hs, h0, rfl, Nat.le_refl _, by omega⟩
  | step h1 _ ih =>
    intro _
    obtain ⟨a1, a2, a3, a4⟩ := h1.si
    obtain ⟨b1, b2, b3, b4, b5⟩ := ih a1
    exact ⟨b1, b2, b3.trans a3, by omega, by omega⟩
end Go.SolveP
namespace Go.SolveP
open Go Go.Mem Go.NetP Go.RestP Go.CertP Go.PathP

/-- The net of a phase. -/
def capE (k : Nat) (e : Ed) : Ed := ⟨e.f, e.t, e.c / 2 ^ k, e.k⟩
def capL (es : List Ed) (k : Nat) : List Ed := es.map (capE k)
theorem capL_len (es : List Ed) (k : Nat) : (capL es k).length = es.length := by simp [capL]
theorem capL_at {es : List Ed} {k j : Nat} (h : j < es.length) : edAt (capL es k) j = capE k (edAt es j) := by
  unfold edAt capL
  rw [List.getD_eq_getElem?_getD, List.getElem?_map, List.getElem?_eq_getElem h, List.getD_eq_getElem?_getD, List.getElem?_eq_getElem h]
  rfl
theorem capE_zero (e : Ed) : capE 0 e = e := by unfold capE; simp
theorem capL_zero (es : List Ed) : capL es 0 = es := by
  unfold capL
  rw [show capE 0 = id from funext capE_zero, List.map_id]
theorem pow_pos2 (k : Nat) : (0 : Int) < 2 ^ k := Int.pow_pos (by decide)
theorem cap_le {c : Int} (h : 0 ≤ c) (k : Nat) : 0 ≤ c / 2 ^ k ∧ c / 2 ^ k ≤ c := by
  have hp := pow_pos2 k
  refine ⟨Int.ediv_nonneg h (Int.le_of_lt hp), ?_⟩
  refine Int.ediv_le_self _ h
theorem cap_bit {c : Int} (k : Nat) : c / 2 ^ k = 2 * (c / 2 ^ (k + 1)) ∨ c / 2 ^ k = 2 * (c / 2 ^ (k + 1)) + 1 := by
  have : c / 2 ^ (k + 1) = c / 2 ^ k / 2 := by rw [Int.pow_succ, Int.ediv_ediv_of_nonneg (Int.le_of_lt (pow_pos2 k))]
  omega
section
variable {N : Nat} {es : List Ed}
theorem cap_costs (k : Nat) : ∀ es : List Ed, (∀ e ∈ es, 0 ≤ e.c) → costs (capL es k) ≤ costs es
  | [], _ => Nat.le_refl _
  | e :: es, h => by
    have ih := cap_costs k es (fun e he => h e (List.mem_cons_of_mem _ he))
    have h0 := cap_le (h e List.mem_cons_self) k
    unfold costs capL at ih ⊢
    simp only [List.map_cons, List.sum_cons]
    have : costE (capE k e) ≤ costE e := by
      show (e.c / 2 ^ k).toNat * absI e.k ≤ e.c.toNat * absI e.k
      exact Nat.mul_le_mul (by omega) (Nat.le_refl _)
    omega
theorem cap_right (hr : rightB N es = true) (k : Nat) : rightB N (capL es k) = true := by
  obtain ⟨h1, h2, h3, h4, h5⟩ := right_cap hr
  refine right_ok h1 h2 (by rw [capL_len]; exact h3) ?_ (Nat.le_trans (cap_costs k es (fun e he => ((edgeB_iff _ _).1 (h5 e he)).2.2.1)) h4)
  refine List.all_eq_true.2 fun e he => ?_
  obtain ⟨e', he', rfl⟩ := List.mem_map.1 he
  have := (edgeB_iff _ _).1 (h5 e' he')
  have hc := cap_le this.2.2.1 k
  rw [edgeB_iff]
  unfold capE
  dsimp only
  omega
/-- An edge's number in the next phase: doubled, and filled where that gains. -/
def gains (es : List Ed) (pot : List Int) (j : Nat) : Bool := decide (lenA es pot (2 * j) < 0)
def fineX (es : List Ed) (k : Nat) (fl pot : List Int) (j : Nat) : Int :=
  if 2 * g fl j < (edAt es j).c / 2 ^ k ∧ gains es pot j = true then (edAt es j).c / 2 ^ k else 2 * g fl j
def fineF (es : List Ed) (k : Nat) (fl pot : List Int) (i : Nat) : List Int := (List.range fl.length).map fun j => if j < i then fineX es k fl pot j else g fl j
def byF (es : List Ed) (k : Nat) (fl pot : List Int) : List Int := (List.range fl.length).map fun j => fineX es k fl pot j - 2 * g fl j
def fineE (es : List Ed) (k i : Nat) : List Ed := (List.range es.length).map fun j => if j < i then capE k (edAt es j) else capE (k + 1) (edAt es j)
def fineO (N : Nat) (es : List Ed) (k : Nat) (fl pot : List Int) (i : Nat) : List Int := (List.range N).map fun v : Nat => overAt es (byF es k fl pot) v i
def finerS (N : Nat) (es : List Ed) (k : Nat) (S : St) : St :=
  { es := capL es k, fl := fineF es k S.fl S.pot S.fl.length, pot := S.pot, ov := fineO N es k S.fl S.pot S.fl.length, steps := S.steps }
theorem fine_len (es : List Ed) (k : Nat) (fl pot : List Int) (i : Nat) : (fineF es k fl pot i).length = fl.length := by simp [fineF]
theorem fine_at {k : Nat} {fl pot : List Int} {i j : Nat} (h : j < fl.length) : g (fineF es k fl pot i) j = if j < i then fineX es k fl pot j else g fl j := by
  unfold fineF g
  rw [List.getD_eq_getElem?_getD, List.getElem?_map, List.getElem?_range h]; rfl
theorem by_at {k : Nat} {fl pot : List Int} {j : Nat} (h : j < fl.length) : g (byF es k fl pot) j = fineX es k fl pot j - 2 * g fl j := by
  show (byF es k fl pot).getD j 0 = _
  unfold byF
  rw [List.getD_eq_getElem?_getD, List.getElem?_map, List.getElem?_range h]; rfl
theorem by_len (es : List Ed) (k : Nat) (fl pot : List Int) : (byF es k fl pot).length = fl.length := by simp [byF]
theorem fineO_at {k : Nat} {fl pot : List Int} {i v : Nat} (h : v < N) : g (fineO N es k fl pot i) v = overAt es (byF es k fl pot) v i := by
  show (fineO N es k fl pot i).getD v 0 = _
  unfold fineO
  rw [List.getD_eq_getElem?_getD, List.getElem?_map, List.getElem?_range h]; rfl
theorem fineE_end (es : List Ed) (k : Nat) : fineE es k es.length = capL es k := by
  unfold fineE capL
  apply List.ext_getElem
  · simp
  · intro j h1 h2
    have hj : j < es.length := by simpa using h1
    simp [hj, edAt_of hj]
theorem fineE_zero (es : List Ed) (k : Nat) : fineE es k 0 = capL es (k + 1) := by
  unfold fineE capL
  apply List.ext_getElem
  · simp
  · intro j h1 h2
    have hj : j < es.length := by simpa using h1
    simp [edAt_of hj]
theorem overAt_cap (k : Nat) (fl : List Int) (v : Nat) : ∀ m, m ≤ es.length → overAt (capL es k) fl v m = overAt es fl v m
  | 0, _ => by simp [overAt]
  | m + 1, hm => by
    rw [overAt_succ, overAt_succ, overAt_cap k fl v m (by omega), capL_at (by omega)]
    rfl
theorem len_cap (k : Nat) (pot : List Int) {a : Nat} (ha : a / 2 < es.length) : lenA (capL es k) pot a = lenA es pot a ∧ endsE (capL es k) a = endsE es a := by
  have e : endsE (capL es k) a = endsE es a := by
    unfold endsE
    rw [capL_at ha]
    unfold capE
    cases oddB a <;> rfl
  refine ⟨?_, e⟩
  unfold lenA
  rw [e]
/-- Ahead of a phase: what flows is as good as goes, and nothing is over. -/
structure PI (N : Nat) (es : List Ed) (k : Nat) (S : St) : Prop where
  si : SI N S
  es : S.es = capL es k
  zero : ∀ v, v < N → g S.ov v = 0
theorem over_two (es : List Ed) (a b c : List Int) (v : Nat) : ∀ m, (∀ j, j < m → c.getD j 0 = 2 * a.getD j 0 + b.getD j 0) → overAt es c v m = 2 * overAt es a v m + overAt es b v m
  | 0, _ => by simp [overAt]
  | m + 1, h => by
    rw [overAt_succ, overAt_succ, overAt_succ, over_two es a b c v m (fun j hj => h j (by omega)), h m (by omega), gain_add, gain_add]
    have : ∀ (p : Bool) (x : Int), gain p (2 * x) = 2 * gain p x := fun p x => by unfold gain; split <;> omega
    rw [this, this]
    omega
/-- What an edge's number turns to. -/
theorem PI.edge {k : Nat} {S : St} (h : PI N es (k + 1) S) (hr : rightB N es = true) {j : Nat} (hj : j < es.length) :
    0 ≤ g S.fl j ∧ g S.fl j ≤ (edAt es j).c / 2 ^ (k + 1) ∧ (lenA es S.pot (2 * j) < 0 → g S.fl j = (edAt es j).c / 2 ^ (k + 1)) ∧ (0 < lenA es S.pot (2 * j) → g S.fl j = 0) ∧ 0 ≤ (edAt es j).c ∧ (edAt es j).c ≤ 4503599627370496 := by
  obtain ⟨hw, hr', hp, ht⟩ := fits_parts h.si.fits
  rw [h.es] at hw ht
  have hjl : j < (capL es (k + 1)).length := by rw [capL_len]; exact hj
  obtain ⟨w0, w1⟩ := within_at hw hjl
  have e1 : (capL es (k + 1))[j].c = (edAt es j).c / 2 ^ (k + 1) := by
    rw [← edAt_of hjl, capL_at hj]; rfl
  rw [e1] at w1
  obtain ⟨_, _, _, _, h5⟩ := right_cap hr
  have he := (edgeB_iff _ _).1 (h5 _ (List.getElem_mem hj))
  rw [← edAt_of hj] at he
  refine ⟨w0, w1, fun hl => ?_, fun hl => ?_, he.2.2.1, he.2.2.2.1⟩
  · rcases Int.lt_or_le (g S.fl j) ((edAt es j).c / 2 ^ (k + 1)) with q | q
    · exfalso
      have hro : 0 < roomE (capL es (k + 1)) S.fl (2 * j) := by
        rw [room_even, capL_at hj]
        show 0 < (edAt es j).c / 2 ^ (k + 1) - S.fl.getD j 0
        unfold g at q; omega
      have := tight_at ht (by rw [capL_len]; omega) hro
      rw [(len_cap _ _ (by omega)).1] at this
      omega
    · have w1' : g S.fl j ≤ (edAt es j).c / 2 ^ (k + 1) := w1
      omega
  · rcases Int.lt_or_le 0 (g S.fl j) with q | q
    · exfalso
      have hro : 0 < roomE (capL es (k + 1)) S.fl (2 * j + 1) := by
        rw [room_odd]; exact q
      have := tight_at ht (by rw [capL_len]; omega) hro
      rw [(len_cap _ _ (by omega)).1, len_odd] at this
      omega
    · have w0' : 0 ≤ g S.fl j := w0
      omega
theorem PI.fine {k : Nat} {S : St} (h : PI N es (k + 1) S) (hr : rightB N es = true) {j : Nat} (hj : j < es.length) :
    0 ≤ fineX es k S.fl S.pot j ∧ fineX es k S.fl S.pot j ≤ (edAt es j).c / 2 ^ k ∧ (lenA es S.pot (2 * j) < 0 → fineX es k S.fl S.pot j = (edAt es j).c / 2 ^ k) ∧ (0 < lenA es S.pot (2 * j) → fineX es k S.fl S.pot j = 0) ∧ 2 * g S.fl j ≤ fineX es k S.fl S.pot j ∧ fineX es k S.fl S.pot j ≤ 2 * g S.fl j + 1 := by
  obtain ⟨e0, e1, e2, e3, e4, e5⟩ := h.edge hr hj
  have hb := cap_bit (c := (edAt es j).c) k
  have hc := cap_le e4 k
  unfold fineX gains
  by_cases hg : lenA es S.pot (2 * j) < 0
  · have := e2 hg
    by_cases hx : 2 * g S.fl j < (edAt es j).c / 2 ^ k
    · rw [if_pos ⟨hx, decide_eq_true hg⟩]
      exact ⟨hc.1, Int.le_refl _, fun _ => rfl, fun q => by omega, by omega, by omega⟩
    · rw [if_neg (fun q => hx q.1)]
      exact ⟨by omega, by omega, fun _ => by omega, fun q => by omega, by omega, by omega⟩
  · rw [if_neg (fun q => hg (of_decide_eq_true q.2))]
    exact ⟨by omega, by omega, fun q => absurd q hg, fun q => by have := e3 q; omega, by omega, by omega⟩
/-- How much comes to all nodes. -/
theorem phi_by (es : List Ed) (b : List Int) (hb : ∀ j, 0 ≤ b.getD j 0 ∧ b.getD j 0 ≤ 1) (N : Nat) : ∀ m, (∀ j, j < m → (0 ≤ (edAt es j).t ∧ (edAt es j).t < N)) → ∀ ov : List Int, (∀ v, v < N → g ov v = overAt es b v m) → phi ov N ≤ m := by
  intro m hN ov hov
  -- each node's part, in numbers
  have key : ∀ m, (∀ j, j < m → (0 ≤ (edAt es j).t ∧ (edAt es j).t < N)) → sumN (fun v => ((overAt es b v m).toNat : Int)) N ≤ m := by
    intro m
    induction m with
    | zero =>
      intro _
      rw [sumN_congr N (h := fun _ => 0) (fun v _ => by simp [overAt]), sumN_zero]
      omega
    | succ m ih =>
      intro h
      have h1 := ih (fun j hj => h j (by omega))
      obtain ⟨t0, t1⟩ := h m (by omega)
      obtain ⟨t, ht⟩ : ∃ t : Nat, (edAt es m).t = t := ⟨(edAt es m).t.toNat, by omega⟩
      have h2 : sumN (fun v => ((overAt es b v (m + 1)).toNat : Int)) N ≤ sumN (fun v => ((overAt es b v m).toNat : Int) + 1 * gain (decide ((t : Int) = v)) (b.getD m 0)) N := by
        have : ∀ n, sumN (fun v => ((overAt es b v (m + 1)).toNat : Int)) n ≤ sumN (fun v => ((overAt es b v m).toNat : Int) + 1 * gain (decide ((t : Int) = v)) (b.getD m 0)) n := by
          intro n
          induction n with
          | zero => exact Int.le_refl _
          | succ n ihn =>
            simp only [sumN]
            have hs := overAt_succ es b n m
            rw [ht] at hs
            have g1 := gain_bound (decide ((t : Int) = n)) (b.getD m 0) (hb m).1
            have g2 := gain_bound (decide ((edAt es m).f = n)) (b.getD m 0) (hb m).1
            omega
        exact this N
      rw [sumN_add, sumN_one (fun _ => 1), if_pos (by omega)] at h2
      have := (hb m).2
      omega
  have e : ∀ n, n ≤ N → (phi ov n : Int) = sumN (fun v => ((overAt es b v m).toNat : Int)) n := by
    intro n
    induction n with
    | zero => intro _; rfl
    | succ n ih => intro hn; unfold phi; simp only [sumN]; rw [← ih (by omega), ← hov n (by omega)]; omega
  have h1 := key m hN
  have h2 := e N (Nat.le_refl _)
  omega
/-- Behind the doubling: as good as goes, but that there may be over at some nodes. -/
theorem PI.finer {k : Nat} {S : St} (h : PI N es (k + 1) S) (hr : rightB N es = true) : SI N (finerS N es k S) ∧ phi (finerS N es k S).ov N ≤ es.length := by
  obtain ⟨hw, hr', hp, ht⟩ := fits_parts h.si.fits
  have hfl : S.fl.length = es.length := by have := (within_cap hw).1; rw [h.es, capL_len] at this; exact this
  obtain ⟨_, _, _, _, h5⟩ := right_cap hr
  have hcr := cap_right hr k
  have hw' : withinB N (capL es k) (fineF es k S.fl S.pot S.fl.length) = true := by
    refine within_ok (by rw [fine_len, capL_len, hfl]) hcr fun j hj => ?_
    rw [fine_len] at hj
    have hje : j < es.length := by omega
    obtain ⟨f0, f1, _⟩ := h.fine hr hje
    have hjl : j < (capL es k).length := by rw [capL_len]; exact hje
    rw [capB_at hjl]
    have e1 : (capL es k)[j].c = (edAt es j).c / 2 ^ k := by rw [← edAt_of hjl, capL_at hje]; rfl
    have e2 := fine_at (es := es) (k := k) (pot := S.pot) (i := S.fl.length) hj
    rw [if_pos hj] at e2
    unfold g at e2
    rw [e1, e2, Bool.and_eq_true]
    exact ⟨decide_eq_true f0, decide_eq_true f1⟩
  have hte : tightB (capL es k) (fineF es k S.fl S.pot S.fl.length) S.pot = true := by
    unfold tightB
    refine List.all_eq_true.2 fun a ha => ?_
    have ha := List.mem_range.1 ha
    rw [capL_len] at ha
    have hje : a / 2 < es.length := by omega
    obtain ⟨f0, f1, f2, f3, _⟩ := h.fine hr hje
    have e2 := fine_at (es := es) (k := k) (fl := S.fl) (pot := S.pot) (i := S.fl.length) (j := a / 2) (by omega)
    rw [if_pos (by omega)] at e2
    unfold tightS
    rw [(len_cap k S.pot hje).1]
    by_cases h0 : 0 < roomE (capL es k) (fineF es k S.fl S.pot S.fl.length) a
    · have : 0 ≤ lenA es S.pot a := by
        unfold g at e2
        rcases Nat.mod_two_eq_zero_or_one a with q | q
        · obtain ⟨b, rfl⟩ : ∃ b, a = 2 * b := ⟨a / 2, by omega⟩
          rw [show 2 * b / 2 = b by omega] at *
          rw [room_even, capL_at hje, e2] at h0
          rcases Int.lt_or_le (lenA es S.pot (2 * b)) 0 with r | r
          · have := f2 r
            have h0' : 0 < (edAt es b).c / 2 ^ k - fineX es k S.fl S.pot b := h0
            omega
          · exact r
        · obtain ⟨b, rfl⟩ : ∃ b, a = 2 * b + 1 := ⟨a / 2, by omega⟩
          rw [show (2 * b + 1) / 2 = b by omega] at *
          rw [room_odd, e2] at h0
          rw [len_odd]
          rcases Int.lt_or_le 0 (lenA es S.pot (2 * b)) with r | r
          · have := f3 r; omega
          · omega
      rw [decide_eq_false (by omega)]
      rfl
    · rw [decide_eq_false h0, Bool.and_false]
      rfl
  have hby : ∀ j, 0 ≤ (byF es k S.fl S.pot).getD j 0 ∧ (byF es k S.fl S.pot).getD j 0 ≤ 1 := fun j => by
    by_cases hj : j < S.fl.length
    · obtain ⟨_, _, _, _, f4, f5⟩ := h.fine hr (j := j) (by omega)
      have := by_at (es := es) (k := k) (pot := S.pot) hj
      unfold g at this f4 f5
      omega
    · rw [List.getD_eq_getElem?_getD, List.getElem?_eq_none (by rw [by_len]; omega)]
      simp
  have hov : ∀ v, v < N → g (fineO N es k S.fl S.pot S.fl.length) v = exc (capL es k) (fineF es k S.fl S.pot S.fl.length) v := fun v hv => by
    rw [fineO_at hv]
    have hz := h.zero v hv
    rw [h.si.ov v hv] at hz
    unfold exc at hz ⊢
    rw [h.es, overAt_cap _ _ _ _ (by omega)] at hz
    rw [fine_len, overAt_cap _ _ _ _ (by omega), over_two es S.fl (byF es k S.fl S.pot) (fineF es k S.fl S.pot S.fl.length) v S.fl.length (fun j hj => ?_), hz]
    · omega
    · have e1 := fine_at (es := es) (k := k) (pot := S.pot) (i := S.fl.length) hj
      rw [if_pos hj] at e1
      have e2 := by_at (es := es) (k := k) (pot := S.pot) hj
      unfold g at e1 e2
      omega
  refine ⟨⟨?_, h.si.small, by simp [finerS, fineO], hov⟩, ?_⟩
  · show fitsB N (capL es k) (fineF es k S.fl S.pot S.fl.length) S.pot = true
    simp only [fitsB, Bool.and_eq_true]
    exact ⟨⟨hw', hp⟩, hte⟩
  · have := phi_by es (byF es k S.fl S.pot) hby N S.fl.length (fun j hj => by
      have := (edgeB_iff _ _).1 (h5 _ (List.getElem_mem (show j < es.length by omega)))
      rw [← edAt_of (by omega)] at this
      exact this.2.1) (fineO N es k S.fl S.pot S.fl.length) (fun v hv => fineO_at hv)
    show phi (fineO N es k S.fl S.pot S.fl.length) N ≤ _
    omega
/-- Nothing is over, where nowhere is more than nothing. -/
theorem none_over {S : St} (h : SI N S) (hs : srcK S.ov N = []) : ∀ v, v < N → g S.ov v = 0 := by
  have hle := phi_zero S.ov N hs
  obtain ⟨hw, _⟩ := fits_parts h.fits
  have e1 := pot_over (n := N) (es := S.es) (fl := S.fl) (fun _ => 1) S.fl.length (fun j hj => within_ends hw j hj)
  have e2 : potSum S.es S.fl (fun _ => 1) S.fl.length = 0 := by
    have : ∀ m, potSum S.es S.fl (fun _ => 1) m = 0 := by
      intro m
      induction m with
      | zero => rfl
      | succ m ih => simp only [potSum]; rw [ih]; omega
    exact this _
  rw [e2] at e1
  intro v hv
  rcases Int.lt_or_le (g S.ov v) 0 with q | q
  · exfalso
    have := sumN_gt (fun v => -(1 * overAt S.es S.fl v S.fl.length)) N v (fun u hu => by
      have h1 := hle u hu
      have h2 := h.ov u hu
      unfold exc at h2
      omega) hv
    have e3 : sumN (fun v => -(1 * overAt S.es S.fl v S.fl.length)) N = -sumN (fun v => 1 * overAt S.es S.fl v S.fl.length) N := by
      have h0 := sumN_sub (fun _ => 0) (fun v => 1 * overAt S.es S.fl v S.fl.length) N
      rw [sumN_zero] at h0
      have : sumN (fun v => -(1 * overAt S.es S.fl v S.fl.length)) N = sumN (fun v => 0 - 1 * overAt S.es S.fl v S.fl.length) N := sumN_congr N (fun v _ => by omega)
      omega
    have h2 := h.ov v hv
    unfold exc at h2
    omega
  · have := hle v hv; omega
/-- The phases, down to one. -/
def S0 (N : Nat) (es : List Ed) (m : Nat) : St := ⟨capL es m, List.replicate es.length 0, List.replicate N 0, List.replicate N 0, 0⟩
inductive Ph (N : Nat) (es : List Ed) (m : Nat) : Nat → St → Prop
  | start : Ph N es m m (S0 N es m)
  | next {k : Nat} {S S' : St} : Ph N es m (k + 1) S → Fills N (finerS N es k S) S' → Ph N es m k S'
theorem Ph.le {m k : Nat} {S : St} (h : Ph N es m k S) : k ≤ m := by
  induction h with
  | start => exact Nat.le_refl _
  | next _ _ ih => omega
theorem rep_g (n : Nat) (v : Nat) : g (List.replicate n (0 : Int)) v = 0 := by
  unfold g; rw [List.getD_eq_getElem?_getD, List.getElem?_replicate]; split <;> rfl
theorem Ph.pi {m : Nat} (hr : rightB N es = true) (hm : ∀ e ∈ es, e.c / 2 ^ m = 0) {k : Nat} {S : St} (h : Ph N es m k S) : PI N es k S ∧ S.steps ≤ (m - k) * es.length := by
  obtain ⟨hn1, hn40, _, _, h5⟩ := right_cap hr
  induction h with
  | start =>
    have hcr := cap_right hr m
    have hov : ∀ v n, overAt (capL es m) (List.replicate es.length 0) v n = 0 := by
      intro v n
      induction n with
      | zero => simp [overAt]
      | succ n ih =>
        have := rep_g es.length n
        unfold g at this
        rw [overAt_succ, ih, this]; unfold gain; simp
    have hro : ∀ a, a < 2 * es.length → roomE (capL es m) (List.replicate es.length 0) a = 0 := fun a ha => by
      have hj : a / 2 < es.length := by omega
      have h0 := rep_g es.length (a / 2)
      unfold g at h0
      unfold roomE
      rw [h0, capL_at hj]
      have := hm _ (List.getElem_mem hj)
      rw [← edAt_of hj] at this
      unfold capE
      dsimp only
      rw [this]
      split <;> rfl
    refine ⟨⟨⟨?_, fun v _ => by show -1073741824 ≤ g (List.replicate N 0) v ∧ g (List.replicate N 0) v ≤ 1073741824; rw [rep_g]; omega, by simp [S0], fun v _ => ?_⟩, rfl, fun v _ => rep_g _ _⟩, by simp [S0]⟩
    · show fitsB N (capL es m) (List.replicate es.length 0) (List.replicate N 0) = true
      simp only [fitsB, Bool.and_eq_true]
      refine ⟨⟨within_ok (by rw [List.length_replicate, capL_len]) hcr fun j hj => ?_, ?_⟩, ?_⟩
      · rw [List.length_replicate] at hj
        have hjl : j < (capL es m).length := by rw [capL_len]; exact hj
        have h0 := rep_g es.length j
        unfold g at h0
        rw [capB_at hjl, h0, Bool.and_eq_true]
        have e1 : (capL es m)[j].c = (edAt es j).c / 2 ^ m := by rw [← edAt_of hjl, capL_at hj]; rfl
        have := (edgeB_iff _ _).1 (h5 _ (List.getElem_mem hj))
        rw [← edAt_of hj] at this
        have hc := cap_le this.2.2.1 m
        exact ⟨decide_eq_true (Int.le_refl _), decide_eq_true (by rw [e1]; exact hc.1)⟩
      · simp only [potB, Bool.and_eq_true, decide_eq_true_eq]
        refine ⟨List.all_eq_true.2 fun x hx => ?_, by simp⟩
        have := (List.mem_replicate.1 hx).2
        subst this; rfl
      · unfold tightB
        refine List.all_eq_true.2 fun a ha => ?_
        have ha := List.mem_range.1 ha
        rw [capL_len] at ha
        unfold tightS
        rw [hro a ha]
        simp
    · show g (List.replicate N 0) v = exc (capL es m) (List.replicate es.length 0) v
      rw [rep_g]
      unfold exc
      rw [hov]
  | @next k S S1 h1 h2 ih =>
    obtain ⟨p1, p2⟩ := ih
    obtain ⟨f1, f2⟩ := p1.finer hr
    obtain ⟨q1, q2, q3, q4, q5⟩ := h2.si f1
    refine ⟨⟨q1, q3, none_over q1 q2⟩, ?_⟩
    have hk := h1.le
    have : (m - k) * es.length = (m - (k + 1)) * es.length + es.length := by
      rw [show m - k = (m - (k + 1)) + 1 by omega, Nat.add_mul]; omega
    have e : (finerS N es k S).steps = S.steps := rfl
    omega
/-- **What is found is accepted.** -/
theorem Ph.check {m : Nat} (hr : rightB N es = true) (hm : ∀ e ∈ es, e.c / 2 ^ m = 0) {S : St} (h : Ph N es m 0 S) : checkB N es S.fl S.pot = true ∧ S.steps ≤ m * es.length ∧ S.fl.length = es.length ∧ S.pot.length = N := by
  obtain ⟨p, hs⟩ := h.pi hr hm
  obtain ⟨hw, hr', hp, ht⟩ := fits_parts p.si.fits
  have e := p.es
  rw [capL_zero] at e
  rw [e] at hw ht
  refine ⟨?_, by simpa using hs, (within_cap hw).1, by have := (pot_cap hp).1; omega⟩
  simp only [checkB, Bool.and_eq_true]
  refine ⟨⟨⟨hr, ?_⟩, hp⟩, ht⟩
  simp only [flowsB, Bool.and_eq_true]
  refine ⟨hw, ?_⟩
  unfold overV
  rw [if_pos hw, Int.toNat_natCast]
  refine zero_all fun i hi => ?_
  rw [over_len] at hi
  rw [over_get _ _ hi]
  have := p.zero i hi
  rw [p.si.ov i hi, e] at this
  exact this
end
end Go.SolveP
namespace Go.SolveP
open Go Go.Mem Go.NetP Go.RestP Go.CertP Go.PathP
theorem bitAux_lt : ∀ (f x : Nat), x < 2 ^ f → x < 2 ^ Lib.bitLenAux f x
  | 0, x, h => by simpa [Lib.bitLenAux] using h
  | f + 1, x, h => by
    unfold Lib.bitLenAux
    by_cases e : x = 0
    · rw [if_pos e, e]; decide
    · rw [if_neg e]
      have := bitAux_lt f (x / 2) (by rw [Nat.pow_succ] at h; omega)
      rw [Nat.pow_add, Nat.pow_one]
      omega
theorem bitAux_le : ∀ (f x k : Nat), x < 2 ^ k → Lib.bitLenAux f x ≤ k
  | 0, x, k, h => Nat.zero_le _
  | f + 1, x, k, h => by
    unfold Lib.bitLenAux
    by_cases e : x = 0
    · rw [if_pos e]; omega
    · rw [if_neg e]
      cases k with
      | zero => simp at h; omega
      | succ k =>
        have := bitAux_le f (x / 2) k (by rw [Nat.pow_succ] at h; omega)
        omega
/-- How many bits the greatest Cap has. -/
def mostF (es : List Ed) : Nat → Nat
  | 0 => 0
  | i + 1 => max (mostF es i) (Lib.bitLen (edAt es i).c.toNat)
theorem mostF_le (es : List Ed) (h : ∀ j, (edAt es j).c.toNat < 2 ^ 53) : ∀ i, mostF es i ≤ 53
  | 0 => by unfold mostF; omega
  | i + 1 => by
    have h1 := mostF_le es h i
    have h2 := bitAux_le 64 (edAt es i).c.toNat 53 (h i)
    unfold mostF Lib.bitLen
    omega
theorem mostF_lt (es : List Ed) (h : ∀ j, (edAt es j).c.toNat < 2 ^ 53) : ∀ i j, j < i → (edAt es j).c.toNat < 2 ^ mostF es i
  | 0, j, hj => by omega
  | i + 1, j, hj => by
    have h2 := bitAux_lt 64 (edAt es j).c.toNat (Nat.lt_of_lt_of_le (h j) (Nat.pow_le_pow_right (by decide) (by decide)))
    unfold mostF
    rcases Nat.lt_or_ge j i with q | q
    · exact Nat.lt_of_lt_of_le (mostF_lt es h i j q) (Nat.pow_le_pow_right (by decide) (by omega))
    · obtain rfl : j = i := by omega
      exact Nat.lt_of_lt_of_le h2 (Nat.pow_le_pow_right (by decide) (by unfold Lib.bitLen; omega))
theorem cap53 {N : Nat} {es : List Ed} (hr : rightB N es = true) (j : Nat) : 0 ≤ (edAt es j).c ∧ (edAt es j).c.toNat < 2 ^ 53 := by
  by_cases h : j < es.length
  · have := (edgeB_iff _ _).1 ((right_cap hr).2.2.2.2 _ (List.getElem_mem h))
    rw [edAt_of h]
    have e : (2 : Nat) ^ 53 = 9007199254740992 := by decide
    rw [e]; omega
  · have : edAt es j = ⟨0, 0, 0, 0⟩ := by unfold edAt; rw [List.getD_eq_getElem?_getD, List.getElem?_eq_none (by omega)]; rfl
    rw [this]; decide
theorem most_none {N : Nat} {es : List Ed} (hr : rightB N es = true) : ∀ e ∈ es, e.c / 2 ^ mostF es es.length = 0 := by
  intro e he
  obtain ⟨j, hj, rfl⟩ := List.getElem_of_mem he
  have h1 := mostF_lt es (fun j => (cap53 hr j).2) es.length j hj
  have h0 := (cap53 hr j).1
  rw [edAt_of hj] at h1 h0
  have h2 : es[j].c < (2 : Int) ^ mostF es es.length := by
    have : ((es[j].c.toNat : Nat) : Int) < ((2 ^ mostF es es.length : Nat) : Int) := by exact_mod_cast h1
    rw [Int.toNat_of_nonneg h0] at this
    simpa using this
  exact Int.ediv_eq_zero_of_lt h0 h2
def zeroE (es : List Ed) (i : Nat) : List Ed := (List.range es.length).map fun j => if j < i then ⟨(edAt es j).f, (edAt es j).t, 0, (edAt es j).k⟩ else edAt es j
theorem zeroE_len (es : List Ed) (i : Nat) : (zeroE es i).length = es.length := by simp [zeroE]
theorem zeroE_at {es : List Ed} {i j : Nat} (h : j < es.length) : (zeroE es i)[j]'(by rw [zeroE_len]; exact h) = if j < i then ⟨(edAt es j).f, (edAt es j).t, 0, (edAt es j).k⟩ else edAt es j := by
  simp [zeroE]
theorem zeroE_zero (es : List Ed) : zeroE es 0 = es := by
  refine List.ext_getElem (zeroE_len ..) fun j h1 h2 => ?_
  rw [zeroE_at h2, if_neg (by omega), edAt_of h2]
theorem zeroE_succ {es : List Ed} {i : Nat} (h : i < es.length) : (zeroE es i).set i ⟨(edAt es i).f, (edAt es i).t, 0, (edAt es i).k⟩ = zeroE es (i + 1) := by
  refine List.ext_getElem (by simp [zeroE_len]) fun j h1 h2 => ?_
  have hj : j < es.length := by rw [zeroE_len] at h2; exact h2
  rw [List.getElem_set, zeroE_at hj, zeroE_at hj]
  by_cases e : i = j
  · subst e; rw [if_pos rfl, if_pos (by omega)]
  · rw [if_neg e]
    by_cases q : j < i
    · rw [if_pos q, if_pos (by omega)]
    · rw [if_neg q, if_neg (by omega)]
theorem zeroE_end {es : List Ed} {m : Nat} (hm : ∀ e ∈ es, e.c / 2 ^ m = 0) : zeroE es es.length = capL es m := by
  unfold zeroE capL
  refine List.ext_getElem (by simp) fun j h1 h2 => ?_
  have hj : j < es.length := by simpa using h1
  simp [hj, edAt_of hj, capE, hm _ (List.getElem_mem hj)]
end Go.SolveP
