/-
  A device whose loose blocks are gone through, one by one: plain.
-/
import Derived.Test.YtpjbafpbgacnkaaDvT
set_option linter.unusedVariables false
set_option linter.unusedSimpArgs false
namespace Go.DevP
open Go Go.Mem
/-- What becomes sure, entry by entry; f: of the entry that comes as number r. -/
def putS (S : List (Sl × List Int)) (k : Nat) : Option (Sl × List Int) → List (Sl × List Int)
  | some p => S.set k p
  | none => S
def stepS (f : Nat → Ent → Option (Sl × List Int)) : List Ent → Nat → List (Sl × List Int) → List (Sl × List Int)
  | [], _, S => S
  | e :: P, r, S => stepS f P (r + 1) (putS S e.k (f r e))
theorem putS_len (S : List (Sl × List Int)) (k : Nat) (o : Option (Sl × List Int)) : (putS S k o).length = S.length := by
  cases o <;> simp [putS]
theorem stepS_snoc (f : Nat → Ent → Option (Sl × List Int)) (x : Ent) : ∀ (P : List Ent) (r : Nat) (S : List (Sl × List Int)), stepS f (P ++ [x]) r S = putS (stepS f P r S) x.k (f (r + P.length) x)
  | [], r, S => rfl
  | e :: P, r, S => by
    show stepS f (P ++ [x]) (r + 1) _ = _
    rw [stepS_snoc f x P, List.length_cons, show r + 1 + P.length = r + (P.length + 1) by omega]
    rfl
theorem stepS_len (f : Nat → Ent → Option (Sl × List Int)) : ∀ (P : List Ent) (r : Nat) (S : List (Sl × List Int)), (stepS f P r S).length = S.length
  | [], _, _ => rfl
  | e :: P, r, S => by
    show (stepS f P (r + 1) _).length = _
    rw [stepS_len f P, putS_len]
theorem putS_ne {S : List (Sl × List Int)} {k j : Nat} (o : Option (Sl × List Int)) (h : k ≠ j) : (putS S k o)[j]? = S[j]? := by
  cases o
  · rfl
  · unfold putS; rw [List.getElem?_set_ne h]
theorem stepS_no (f : Nat → Ent → Option (Sl × List Int)) {k : Nat} : ∀ (P : List Ent) (r : Nat) (S : List (Sl × List Int)), (∀ e ∈ P, e.k ≠ k) → (stepS f P r S)[k]? = S[k]?
  | [], _, _, _ => rfl
  | e :: P, r, S, h => by
    show (stepS f P (r + 1) _)[k]? = _
    rw [stepS_no f P _ _ fun x hx => h x (List.mem_cons_of_mem _ hx), putS_ne _ (h e List.mem_cons_self)]
theorem stepS_at (f : Nat → Ent → Option (Sl × List Int)) : ∀ (P : List Ent) (r : Nat) (S : List (Sl × List Int)), (P.map (·.k)).Nodup → (∀ e ∈ P, e.k < S.length) → ∀ j (hj : j < P.length), (stepS f P r S)[P[j].k]? = some ((f (r + j) P[j]).getD (S.getD P[j].k (⟨none, 0, 0⟩, [])))
  | [], _, _, _, _, j, hj => absurd hj (Nat.not_lt_zero _)
  | e :: P, r, S, hnd, hl, j, hj => by
    rw [List.map_cons, List.nodup_cons] at hnd
    show (stepS f P (r + 1) _)[_]? = _
    match j, hj with
    | 0, hj =>
      rw [List.getElem_cons_zero, stepS_no f P _ _ fun x hx q => hnd.1 (List.mem_map.2 ⟨x, hx, q⟩), Nat.add_zero]
      have hk := hl e List.mem_cons_self
      cases hf : f r e
      · unfold putS
        rw [Option.getD_none, List.getD_eq_getElem?_getD, List.getElem?_eq_getElem hk]; rfl
      · unfold putS
        rw [Option.getD_some, List.getElem?_set_self hk]
    | j + 1, hj =>
      have hj' : j < P.length := by simpa using hj
      rw [List.getElem_cons_succ, stepS_at f P (r + 1) _ hnd.2 (fun x hx => by rw [putS_len]; exact hl x (List.mem_cons_of_mem _ hx)) j hj', show r + 1 + j = r + (j + 1) by omega]
      have hne : e.k ≠ P[j].k := fun q => hnd.1 (List.mem_map.2 ⟨P[j], List.getElem_mem hj', q.symm⟩)
      rw [List.getD_eq_getElem?_getD, List.getD_eq_getElem?_getD, putS_ne _ hne]
/-- All that was loose is gone; some of it is sure. -/
theorem Ok.stepped {l : Lay} {d : Dv} (ok : Ok l d) {PL : List Ent} (hPL : PL.Perm l.es) (f : Nat → Ent → Option (Sl × List Int)) (hf : ∀ r e p, e ∈ l.es → f r e = some p → p ∈ l.M) {B' : List Blk} {left : Int} {off : Bool} (hlen : B'.length = d.B.length)
    (h0 : ∀ k, k < d.B.length → (B'.getD k default).loose = [])
    (h1 : ∀ k, k < d.B.length → (∀ e ∈ l.es, e.k ≠ k) → (B'.getD k default).sure = (d.B.getD k default).sure)
    (h2 : ∀ r (hr : r < PL.length), (B'.getD (PL[r]).k default).sure = ((f r PL[r]).map (·.2)).getD (d.B.getD (PL[r]).k default).sure) :
    Ok { l with S := stepS f PL 0 l.S, es := [] } ⟨B', left, off⟩ := by
  have hnd : (PL.map (·.k)).Nodup := (hPL.map (·.k)).nodup_iff.2 ok.nd
  have hkl : ∀ e ∈ PL, e.k < l.S.length := fun e he => by rw [ok.len]; exact (ok.es e (hPL.mem_iff.1 he)).1
  refine ⟨?_, fun k h => ?_, fun e he => absurd he (by simp), by simp, fun k hk _ => h0 k (by rw [← hlen]; exact hk), ok.m512⟩
  · show (stepS f PL 0 l.S).length = B'.length
    rw [stepS_len, ok.len, hlen]
  · dsimp only at h ⊢
    have hkS : k < l.S.length := by rwa [stepS_len] at h
    have hkB : k < d.B.length := by rw [← ok.len]; exact hkS
    obtain ⟨s1, s2⟩ := ok.sure k hkS
    by_cases hex : ∃ e ∈ PL, e.k = k
    · obtain ⟨e, he, rfl⟩ := hex
      obtain ⟨r, hr, rfl⟩ := List.getElem_of_mem he
      have ha := stepS_at f PL 0 l.S hnd hkl r hr
      rw [List.getElem?_eq_getElem h, Nat.zero_add, List.getD_eq_getElem?_getD, List.getElem?_eq_getElem hkS, Option.getD_some] at ha
      have ha := Option.some.inj ha
      rw [ha, h2 r hr]
      cases hfr : f r PL[r] with
      | none => exact ⟨s1, s2⟩
      | some p => exact ⟨rfl, .inr (hf r _ p (hPL.mem_iff.1 he) hfr)⟩
    · have ha := stepS_no f PL 0 l.S (k := k) fun e he q => hex ⟨e, he, q⟩
      rw [List.getElem?_eq_getElem h, List.getElem?_eq_getElem hkS] at ha
      have ha := Option.some.inj ha
      rw [ha, h1 k hkB fun e he q => hex ⟨e, hPL.mem_iff.2 he, q⟩]
      exact ⟨s1, s2⟩
/-- The entries, rising. -/
def sortE (es : List Ent) : List Ent := es.mergeSort (fun a b => decide (a.k ≤ b.k))
theorem sortE_perm (es : List Ent) : (sortE es).Perm es := List.mergeSort_perm es _
theorem sortE_pw (es : List Ent) : (sortE es).Pairwise (fun a b => a.k ≤ b.k) := by
  have := List.pairwise_mergeSort (le := fun a b : Ent => decide (a.k ≤ b.k)) (fun a b c h1 h2 => by simp at *; omega) (fun a b => by simp; omega) es
  exact this.imp fun {a b} h => by simpa using h
theorem sortE_keys (es : List Ent) : (es.map Ent.key).mergeSort (fun x y => decide (x ≤ y)) = (sortE es).map Ent.key := by
  refine List.Perm.eq_of_pairwise (le := fun a b : Int => a ≤ b) (fun a b _ _ h1 h2 => Int.le_antisymm h1 h2) ?_ ?_ ?_
  · have := List.pairwise_mergeSort (le := fun a b : Int => decide (a ≤ b)) (fun a b c h1 h2 => by simp at *; omega) (fun a b => by simp; omega) (es.map Ent.key)
    exact this.imp fun {a b} h => by simpa using h
  · rw [List.pairwise_map]
    exact (sortE_pw es).imp fun {a b} h => by unfold Ent.key; omega
  · exact (List.mergeSort_perm _ _).trans ((sortE_perm es).map _).symm
def lastE (_ : Nat) (e : Ent) : Option (Sl × List Int) := e.c.getLast?
theorem flush_ok {l : Lay} {d : Dv} (ok : Ok l d) (left : Int) (off : Bool) : Ok { l with S := stepS lastE (sortE l.es) 0 l.S, es := [] } ⟨d.B.map Blk.flush, left, off⟩ := by
  have hat : ∀ k, k < d.B.length → (d.B.map Blk.flush).getD k default = ((d.B.getD k default)).flush := fun k hk => by
    rw [List.getD_eq_getElem?_getD, List.getElem?_map, List.getD_eq_getElem?_getD, List.getElem?_eq_getElem hk]; rfl
  refine ok.stepped (sortE_perm _) lastE (fun r e p he hp => (ok.es e he).2.2.2 p (List.mem_of_getLast? hp)) (by simp) (fun k hk => by rw [hat k hk]; rfl) (fun k hk hn => ?_) (fun r hr => ?_)
  · rw [hat k hk]
    show (d.B.getD k default).stands = _
    unfold Blk.stands
    rw [ok.no k hk hn]; rfl
  · obtain ⟨g1, g2, g3, g4⟩ := ok.es _ ((sortE_perm _).mem_iff.1 (List.getElem_mem hr))
    rw [hat _ g1]
    show (d.B.getD _ default).stands = _
    unfold Blk.stands lastE
    rw [g2, List.getLastD_eq_getLast?, List.getLast?_map]
end Go.DevP
