/-
  Rounds come to the least labels; the last arcs, told downwards. Plain lemmas.
-/
import Derived.Test.YtfafecgnjjkagaaPPlain3
namespace Go.PathP
open Go Go.Mem Go.NetP Go.RestP Go.CertP

section
variable {A : List Ar} {src : Nat → Prop} {N : Nat} {M : Int} {r : Int} {pre : List Ar} {D H : List Int}
/-- As many rounds as there are nodes. -/
theorem BF.least (h : BF A src N M r [] D H) (hr : (N : Int) ≤ r) : Least A src N (g D) (g H) :=
  h.real.least fun v x y p => fix_min (fun s q => h.le s 0 0 (.nil q) (by omega)) (fun a ha h0 => by
    rcases h.real a.u (h.net.u a ha) with q | ⟨_, P, q⟩
    · omega
    · have hb := q.bound h.net
      exact h.le _ _ _ (.snoc q.walk ha rfl) (by omega)) p
end
/-- The arcs that have room, from one on. -/
def arcsD (es : List Ed) (fl pot : List Int) (j : Nat) : List Ar := (arcsL es fl pot).filter fun a => decide (j ≤ a.k)
theorem arcsD_mem {es : List Ed} {fl pot : List Int} {j : Nat} {a : Ar} : a ∈ arcsD es fl pot j ↔ ∃ k, j ≤ k ∧ k < 2 * es.length ∧ 0 < roomE es fl k ∧ a = arcAt es pot k := by
  unfold arcsD arcsL
  rw [List.mem_filter, arcs_mem]
  constructor
  · rintro ⟨⟨k, h1, h2, rfl⟩, h3⟩
    exact ⟨k, of_decide_eq_true h3, h1, h2, rfl⟩
  · rintro ⟨k, h0, h1, h2, rfl⟩
    exact ⟨⟨k, h1, h2, rfl⟩, decide_eq_true h0⟩
section
variable {es : List Ed} {fl pot D H : List Int} {v j : Nat} {b : Int}
theorem byD_start : IsBy (arcsD es fl pot (2 * es.length)) D H v (-1) := .inl ⟨rfl, fun a ha => by
  obtain ⟨k, h1, h2, _⟩ := arcsD_mem.1 ha
  omega⟩
theorem byD_no (h : IsBy (arcsD es fl pot (j + 1)) D H v b) (hn : roomE es fl j ≤ 0 ∨ byC D H v (arcAt es pot j) = false) : IsBy (arcsD es fl pot j) D H v b := by
  rcases h with ⟨rfl, h⟩ | ⟨c, h1, h2, rfl, h3⟩
  · refine .inl ⟨rfl, fun a ha => ?_⟩
    obtain ⟨k, q1, q2, q3, rfl⟩ := arcsD_mem.1 ha
    by_cases e : k = j
    · subst e
      rcases hn with hn | hn
      · omega
      · exact hn
    · exact h _ (arcsD_mem.2 ⟨k, by omega, q2, q3, rfl⟩)
  · obtain ⟨k, q1, q2, q3, rfl⟩ := arcsD_mem.1 h1
    refine .inr ⟨_, arcsD_mem.2 ⟨k, by omega, q2, q3, rfl⟩, h2, rfl, fun d hd hc => ?_⟩
    obtain ⟨k', p1, p2, p3, rfl⟩ := arcsD_mem.1 hd
    by_cases e : k' = j
    · subst e
      rcases hn with hn | hn
      · omega
      · rw [hn] at hc; cases hc
    · exact h3 _ (arcsD_mem.2 ⟨k', by omega, p2, p3, rfl⟩) hc
theorem byD_yes (hj : j < 2 * es.length) (hr : 0 < roomE es fl j) (hc : byC D H v (arcAt es pot j) = true) : IsBy (arcsD es fl pot j) D H v j := by
  refine .inr ⟨_, arcsD_mem.2 ⟨j, Nat.le_refl _, hj, hr, rfl⟩, hc, rfl, fun d hd _ => ?_⟩
  obtain ⟨k', p1, p2, p3, rfl⟩ := arcsD_mem.1 hd
  exact p1
theorem byD_end (h : IsBy (arcsD es fl pot 0) D H v b) : IsBy (arcsL es fl pot) D H v b := h.same fun a => by
  unfold arcsD
  rw [List.mem_filter]
  exact ⟨fun q => q.1, fun q => ⟨q, by simp⟩⟩
theorem by_zero {L : List Ar} (hH : g H v = 0) : IsBy L D H v (-1) := .inl ⟨rfl, fun a _ => by
  rw [Bool.eq_false_iff]; intro q
  have := byC_iff.1 q
  omega⟩
end
/-- Behind some of the nodes from which the ways lead, by definition. -/
structure RS (n : Nat) (zs : List Int) (k : Nat) (D : List Int) : Prop where
  len : D.length = n
  all_ : ∀ z ∈ zs.take k, 0 ≤ z ∧ z < n
  at_ : ∀ v, v < n → (v ∈ (zs.take k).map Int.toNat ∧ g D v = 0) ∨ (v ∉ (zs.take k).map Int.toNat ∧ g D v = -1)
theorem RS.step {n : Nat} {zs : List Int} {k : Nat} {D : List Int} (h : RS n zs k D) (hk : k < zs.length) {u : Nat} (hu : zs.getD k 0 = u) (hun : u < n) : RS n zs (k + 1) (D.set u 0) := by
  have e : zs.take (k + 1) = zs.take k ++ [(u : Int)] := by
    rw [List.take_succ_eq_append_getElem hk]
    rw [List.getD_eq_getElem?_getD, List.getElem?_eq_getElem hk] at hu
    simp only [Option.getD_some] at hu
    rw [hu]
  refine ⟨by rw [List.length_set]; exact h.len, fun z hz => ?_, fun v hv => ?_⟩
  · rw [e] at hz
    rcases List.mem_append.1 hz with hz | hz
    · exact h.all_ z hz
    · simp at hz; subst hz; omega
  · rw [e, List.map_append, g_set (by rw [h.len]; exact hun)]
    by_cases q : u = v
    · subst q
      rw [upd_same]
      exact .inl ⟨by simp, rfl⟩
    · rw [upd_ne _ _ q]
      rcases h.at_ v hv with ⟨h1, h2⟩ | ⟨h1, h2⟩
      · exact .inl ⟨by simp only [List.mem_append]; exact .inl h1, h2⟩
      · refine .inr ⟨fun hm => ?_, h2⟩
        rcases List.mem_append.1 hm with hm | hm
        · exact h1 hm
        · simp at hm; omega
/-- The last arcs of the first nodes. -/
structure BO (es : List Ed) (fl pot D H : List Int) (n q : Nat) (B : List Int) : Prop where
  len : B.length = n
  done : ∀ w, w < q → IsBy (arcsL es fl pot) D H w (g B w)
  rest : ∀ w, q ≤ w → w < n → g B w = -1
/-- The same, and at a node behind some arcs. -/
structure BD (es : List Ed) (fl pot D H : List Int) (n q j : Nat) (B : List Int) : Prop where
  len : B.length = n
  done : ∀ w, w < q → IsBy (arcsL es fl pot) D H w (g B w)
  now : IsBy (arcsD es fl pot j) D H q (g B q)
  rest : ∀ w, q < w → w < n → g B w = -1
section
variable {es : List Ed} {fl pot D H B : List Int} {n q j : Nat}
theorem BO.in_ (h : BO es fl pot D H n q B) (hq : q < n) : BD es fl pot D H n q (2 * es.length) B :=
  ⟨h.len, h.done, by rw [h.rest q (Nat.le_refl _) hq]; exact byD_start, fun w h1 h2 => h.rest w (by omega) h2⟩
theorem BO.zero (h : BO es fl pot D H n q B) (hq : q < n) (hH : g H q = 0) : BO es fl pot D H n (q + 1) B :=
  ⟨h.len, fun w hw => by
    by_cases e : w = q
    · subst e; rw [h.rest w (Nat.le_refl _) hq]; exact by_zero hH
    · exact h.done w (by omega), fun w h1 h2 => h.rest w (by omega) h2⟩
theorem BD.out (h : BD es fl pot D H n q 0 B) : BO es fl pot D H n (q + 1) B :=
  ⟨h.len, fun w hw => by
    by_cases e : w = q
    · subst e; exact byD_end h.now
    · exact h.done w (by omega), fun w h1 h2 => h.rest w (by omega) h2⟩
theorem BD.no (h : BD es fl pot D H n q (j + 1) B) (hn : roomE es fl j ≤ 0 ∨ byC D H q (arcAt es pot j) = false) : BD es fl pot D H n q j B :=
  ⟨h.len, h.done, byD_no h.now hn, h.rest⟩
theorem BD.yes (h : BD es fl pot D H n q (j + 1) B) (hq : q < n) (hj : j < 2 * es.length) (hr : 0 < roomE es fl j) (hc : byC D H q (arcAt es pot j) = true) : BD es fl pot D H n q j (B.set q j) := by
  have e : g (B.set q (j : Int)) = upd (g B) q j := g_set (by rw [h.len]; exact hq) _
  refine ⟨by rw [List.length_set]; exact h.len, fun w hw => ?_, ?_, fun w h1 h2 => ?_⟩
  · rw [e, upd_ne _ _ (by omega)]; exact h.done w hw
  · rw [e, upd_same]; exact byD_yes hj hr hc
  · rw [e, upd_ne _ _ (by omega)]; exact h.rest w h1 h2
end
/-- By the parts. -/
theorem byC_parts {D H : List Int} {v u t : Nat} {k : Nat} {l : Int} (hH : 0 < g H v) : byC D H v ⟨k, u, t, l⟩ = (decide (t = v) && decide (0 ≤ g D u) && decide (g D u + l = g D v) && decide (g H u + 1 = g H v)) := by
  unfold byC
  dsimp only
  rw [show decide (g H v ≠ 0) = true from decide_eq_true (by omega), Bool.and_true]
/-- One arc in a round, by the parts. -/
theorem relB_eq {D H : List Int} {k u v : Nat} {l : Int} (h0 : 0 ≤ g D u) : relB (D, H) ⟨k, u, v, l⟩ = if bet (g D) (g H) v (g D u + l) (g H u + 1) then (D.set v (g D u + l), H.set v (g H u + 1)) else (D, H) := by
  unfold relB
  dsimp only
  rw [show decide (0 ≤ g D u) = true from decide_eq_true h0, Bool.true_and]
theorem relB_no {D H : List Int} {k u v : Nat} {l : Int} (h0 : g D u < 0) : relB (D, H) ⟨k, u, v, l⟩ = (D, H) := by
  unfold relB
  dsimp only
  rw [show decide (0 ≤ g D u) = false from decide_eq_false (by omega), Bool.false_and]
  rfl
section
variable {es : List Ed} {fl pot : List Int} {src : Nat → Prop} {N : Nat} {M r : Int} {m : Nat} {D H : List Int}
theorem BF.skip (h : BF (arcsL es fl pot) src N M r (arcsN es fl pot m) D H) (hr : roomE es fl m ≤ 0) : BF (arcsL es fl pot) src N M r (arcsN es fl pot (m + 1)) D H := by
  rw [arcsN_succ]
  unfold hasRoom
  rw [if_neg (by simp; omega), List.append_nil]
  exact h
theorem BF.arc (h : BF (arcsL es fl pot) src N M r (arcsN es fl pot m) D H) (hm : m < 2 * es.length) (hr : 0 < roomE es fl m) (S : List Int × List Int) (hS : S = relB (D, H) (arcAt es pot m)) : BF (arcsL es fl pot) src N M r (arcsN es fl pot (m + 1)) S.1 S.2 := by
  rw [arcsN_succ]
  unfold hasRoom
  rw [if_pos (by simp; exact hr)]
  exact h.step (arcs_mem.2 ⟨m, hm, hr, rfl⟩) S hS
end
end Go.PathP
