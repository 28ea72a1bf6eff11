/-
  What is left behind pays, due by due; pays in two parts: plain.
-/
import Derived.Test.YtjijhpflkkicaaaOPlain9
set_option linter.unusedVariables false
set_option linter.unusedSimpArgs false
namespace Go.OffP
open Go Go.Mem Go.MoneyP Go.BuildP
theorem snocInd {α : Type} {P : List α → Prop} (h0 : P []) (h1 : ∀ l d, P l → P (l ++ [d])) (l : List α) : P l := by
  have : ∀ n, ∀ l : List α, l.length = n → P l := by
    intro n
    induction n with
    | zero => intro l hl; rw [List.length_eq_zero_iff] at hl; subst hl; exact h0
    | succ n ih =>
      intro l hl
      have hn : l ≠ [] := fun e => by subst e; simp at hl
      rw [← List.dropLast_concat_getLast hn]
      exact h1 _ _ (ih _ (by rw [List.length_dropLast]; omega))
  exact this _ l rfl
theorem open_snoc (l : List Du) (d : Du) : openL (l ++ [d]) = openL l ++ if d.h = true then [] else [d] := by
  unfold openL
  rw [List.filter_append]
  cases h : d.h <;> simp [h]
theorem open_app (a b : List Du) : openL (a ++ b) = openL a ++ openL b := by
  unfold openL
  rw [List.filter_append]
theorem getD_snoc (l : List Du) (d : Du) {k : Nat} (h : k < l.length) : (l ++ [d]).getD k default = l.getD k default := by
  rw [List.getD_eq_getElem?_getD, List.getD_eq_getElem?_getD, List.getElem?_append_left h]
theorem getD_last (l : List Du) (d : Du) : (l ++ [d]).getD l.length default = d := by
  simp [List.getD_eq_getElem?_getD]
theorem posO_snoc (l : List Du) (d : Du) {k : Nat} (h : k ≤ l.length) : posO (l ++ [d]) k = posO l k := by
  unfold posO
  rw [List.take_append_of_le_length h]
theorem posO_end (l : List Du) : posO l l.length = (openL l).length := by
  unfold posO; rw [List.take_length]
theorem leftO_snoc (l : List Du) (d : Du) (ps : List Int) : ∀ k, k ≤ l.length → leftO (l ++ [d]) ps k = leftO l ps k
  | 0, _ => rfl
  | k + 1, h => by
    rw [leftO_succ, leftO_succ, leftO_snoc l d ps k (by omega), getD_snoc l d (by omega), posO_snoc l d (by omega)]
theorem leftL_nil (ps : List Int) : leftL [] ps = [] := rfl
theorem leftL_snoc (l : List Du) (d : Du) (ps : List Int) : leftL (l ++ [d]) ps = leftL l ps ++ leftD d (ps.getD (openL l).length 0) := by
  unfold leftL
  rw [List.length_append, List.length_singleton, leftO_succ, leftO_snoc l d ps _ (Nat.le_refl _), getD_last, posO_snoc l d (Nat.le_refl _), posO_end]
theorem okO_snoc (l : List Du) (d : Du) (ps : List Int) : ∀ k, k ≤ l.length → okO (l ++ [d]) ps k = okO l ps k
  | 0, _ => rfl
  | k + 1, h => by
    rw [okO_succ, okO_succ, okO_snoc l d ps k (by omega), getD_snoc l d (by omega), posO_snoc l d (by omega)]
def okL (l : List Du) (ps : List Int) : Bool := okO l ps l.length
theorem okL_snoc (l : List Du) (d : Du) (ps : List Int) : okL (l ++ [d]) ps = (okL l ps && okD d (ps.getD (openL l).length 0)) := by
  unfold okL
  rw [List.length_append, List.length_singleton, okO_succ, okO_snoc l d ps _ (Nat.le_refl _), getD_last, posO_snoc l d (Nat.le_refl _), posO_end]
theorem okL_of {ps : List Int} (l : List Du) : (∀ k, k < (openL l).length → ps.getD k 0 ≤ ((openL l).getD k default).x) → okL l ps = true := by
  refine snocInd (P := fun l => (∀ k, k < (openL l).length → ps.getD k 0 ≤ ((openL l).getD k default).x) → okL l ps = true) (fun _ => rfl) (fun l d ih h => ?_) l
  rw [okL_snoc, ih fun k hk => ?_, Bool.true_and]
  · cases hd : d.h
    · rw [open_snoc, hd] at h
      have := h (openL l).length (by simp)
      rw [if_neg (by decide), getD_last] at this
      unfold okD
      rw [hd]
      exact decide_eq_true this
    · unfold okD; rw [hd]; rfl
  · rw [open_snoc] at h
    have := h k (by rw [List.length_append]; omega)
    cases hd : d.h
    · rw [hd, if_neg (by decide), getD_snoc _ _ hk] at this
      exact this
    · rw [hd, if_pos rfl, List.append_nil] at this
      exact this
/-- Pays that may be paid. -/
structure PayOk (O : List Du) (ps : List Int) : Prop where
  len : ps.length = O.length
  lo : ∀ k, k < O.length → 0 ≤ ps.getD k 0
  hi : ∀ k, k < O.length → ps.getD k 0 ≤ (O.getD k default).x
theorem PayOk.leftE {l : List Du} {ps : List Int} (h : PayOk (openL l) ps) : leftE l ps = 0 := by
  unfold OffP.leftE
  rw [if_neg (by rw [h.len]; simp), if_neg, if_pos (show okO l ps l.length = true from okL_of l h.hi)]
  rw [List.any_eq_true]
  rintro ⟨p, hp, h2⟩
  obtain ⟨k, hk, rfl⟩ := List.mem_iff_getElem.1 hp
  have := h.lo k (by rw [← h.len]; exact hk)
  rw [getI hk] at this
  exact absurd (of_decide_eq_true h2) (by omega)
theorem cutD_h (d : Du) (p : Int) : (cutD d p).h = d.h := rfl
theorem leftS_nil (ps : List Int) : leftS [] ps = [] := rfl
theorem leftS_snoc (O : List Du) (d : Du) (ps : List Int) : leftS (O ++ [d]) ps = leftS O ps ++ if 0 < d.x - ps.getD O.length 0 then [cutD d (ps.getD O.length 0)] else [] := by
  have h1 : ∀ m, m < O.length → restD (O ++ [d]) ps m = restD O ps m := fun m hm => by
    unfold restD; rw [getD_snoc _ _ hm]
  have h2 : restD (O ++ [d]) ps O.length = cutD d (ps.getD O.length 0) := by
    unfold restD; rw [getD_last]; rfl
  have h3 : (List.range O.length).filter (posP (O ++ [d]) ps) = leftP O ps := by
    unfold leftP
    refine List.filter_congr fun m hm => ?_
    unfold posP
    rw [h1 m (List.mem_range.1 hm)]
  unfold leftS
  have h4 : leftP (O ++ [d]) ps = leftP O ps ++ [O.length].filter (posP (O ++ [d]) ps) := by
    rw [← h3]
    unfold leftP
    rw [List.length_append, List.length_singleton, List.range_succ, List.filter_append]
  rw [h4, List.map_append]
  congr 1
  · exact List.map_congr_left fun m hm => h1 m (leftP_lt hm)
  · by_cases e : 0 < d.x - ps.getD O.length 0
    · have hp : posP (O ++ [d]) ps O.length = true := by
        unfold posP; rw [h2]; exact decide_eq_true e
      rw [if_pos e, List.filter_cons_of_pos hp, List.filter_nil, List.map_singleton, h2]
    · have hp : posP (O ++ [d]) ps O.length = false := by
        unfold posP; rw [h2]; exact decide_eq_false e
      rw [if_neg e, List.filter_cons_of_neg (by rw [hp]; decide), List.filter_nil, List.map_nil]
/-- The open ones that are left. -/
theorem open_left (ps : List Int) (l : List Du) : openL (leftL l ps) = leftS (openL l) ps := by
  refine snocInd (P := fun l => openL (leftL l ps) = leftS (openL l) ps) rfl (fun l d ih => ?_) l
  rw [leftL_snoc, open_app, ih, open_snoc]
  cases hd : d.h
  · rw [if_neg (by decide), leftS_snoc]
    congr 1
    unfold leftD
    rw [if_neg (by rw [hd]; decide)]
    split
    · unfold openL; simp [cutD_h, hd]
    · rfl
  · rw [if_pos rfl, List.append_nil]
    unfold leftD
    rw [if_pos hd]
    unfold openL
    simp [hd]
theorem leftL_len (l : List Du) (ps : List Int) : (leftL l ps).length ≤ l.length := leftO_len l ps _
theorem leftL_mem (ps : List Int) (l : List Du) : ∀ d ∈ leftL l ps, (d ∈ l ∧ d.h = true) ∨ (d ∈ leftS (openL l) ps) := by
  intro d hd
  rw [← open_left]
  cases h : d.h
  · right
    unfold openL
    rw [List.mem_filter]
    exact ⟨hd, by rw [h]; rfl⟩
  · left
    revert hd
    refine snocInd (P := fun l => d ∈ leftL l ps → d ∈ l ∧ true = true) (fun h => by simp [leftL_nil] at h) (fun l e ih he => ?_) l
    rw [leftL_snoc, List.mem_append] at he
    rcases he with he | he
    · exact ⟨List.mem_append_left _ (ih he).1, rfl⟩
    · unfold leftD at he
      split at he
      · exact ⟨List.mem_append_right _ he, rfl⟩
      next hh =>
        split at he
        · rw [List.mem_singleton] at he
          subst he
          rw [cutD_h] at h
          exact absurd h hh
        · cases he
theorem sumX_app (a b : List Du) : sumX (a ++ b) = sumX a + sumX b := by
  unfold sumX; rw [List.map_append, List.sum_append]
theorem leftL_sum {ps : List Int} (l : List Du) : (∀ d ∈ l, 1 ≤ d.x) → (∀ k, k < (openL l).length → 0 ≤ ps.getD k 0) → sumX (leftL l ps) ≤ sumX l := by
  refine snocInd (P := fun l => (∀ d ∈ l, 1 ≤ d.x) → (∀ k, k < (openL l).length → 0 ≤ ps.getD k 0) → sumX (leftL l ps) ≤ sumX l) (fun _ _ => Int.le_refl _) (fun l d ih h0 h1 => ?_) l
  rw [open_snoc, List.length_append] at h1
  have ih := ih (fun e he => h0 e (List.mem_append_left _ he)) (fun k hk => h1 k (by omega))
  have hd := h0 d (by simp)
  rw [leftL_snoc, sumX_app, sumX_app]
  have : sumX (leftD d (ps.getD (openL l).length 0)) ≤ sumX [d] := by
    unfold leftD
    cases hh : d.h
    · rw [hh] at h1
      have := h1 (openL l).length (by simp)
      rw [if_neg (by decide)]
      split
      · show ([cutD d (ps.getD (openL l).length 0)].map (·.x)).sum ≤ ([d].map (·.x)).sum
        simp only [List.map_cons, List.map_nil, List.sum_cons, List.sum_nil, cutD]; omega
      · unfold sumX; simp; omega
    · rw [if_pos rfl]; exact Int.le_refl _
  omega
theorem leftL_good {n : Nat} {l : List Du} {ps : List Int} (h : GoodN n l) (hp : PayOk (openL l) ps) : GoodN n (leftL l ps) := by
  have hO : ∀ d ∈ openL l, MayD d := fun d hd => h.may d (open_mem hd)
  have hm := leftS_may hO hp.len hp.lo
  refine ⟨h.n16, Nat.le_trans (leftL_len l ps) h.len, fun d hd => ?_, fun d hd => ?_, Int.le_trans (leftL_sum l (fun d hd => (h.may d hd).x0) hp.lo) h.sum⟩
  · rcases leftL_mem ps l d hd with ⟨h1, _⟩ | h1
    · exact h.may d h1
    · exact hm d h1
  · rcases leftL_mem ps l d hd with ⟨h1, _⟩ | h1
    · exact h.inn d h1
    · unfold leftS at h1
      obtain ⟨m, hm, rfl⟩ := List.mem_map.1 h1
      have hml := leftP_lt hm
      have := h.inn _ (open_mem (List.getElem_mem hml))
      unfold restD payD
      rw [getDu hml]
      exact this
/-- Pays in two parts, of which the first leaves something of each. -/
theorem left_twice {ps fs ss : List Int} (l : List Du) : (∀ k, k < (openL l).length → fs.getD k 0 < ((openL l).getD k default).x ∧ fs.getD k 0 + ss.getD k 0 = ps.getD k 0) →
    leftL (leftL l fs) ss = leftL l ps ∧ (openL (leftL l fs)).length = (openL l).length ∧ ∀ k, k < (openL l).length → ((openL (leftL l fs)).getD k default).x = ((openL l).getD k default).x - fs.getD k 0 := by
  refine snocInd (P := fun l => (∀ k, k < (openL l).length → fs.getD k 0 < ((openL l).getD k default).x ∧ fs.getD k 0 + ss.getD k 0 = ps.getD k 0) →
    leftL (leftL l fs) ss = leftL l ps ∧ (openL (leftL l fs)).length = (openL l).length ∧ ∀ k, k < (openL l).length → ((openL (leftL l fs)).getD k default).x = ((openL l).getD k default).x - fs.getD k 0) (fun _ => ⟨rfl, rfl, fun k hk => by simp [openL] at hk⟩) (fun l d ih h => ?_) l
  obtain ⟨i1, i2, i3⟩ := ih fun k hk => by
    rw [open_snoc] at h
    have := h k (by rw [List.length_append]; omega)
    rwa [show ((openL l ++ if d.h = true then [] else [d]).getD k default) = (openL l).getD k default by
      rw [List.getD_eq_getElem?_getD, List.getD_eq_getElem?_getD, List.getElem?_append_left hk]] at this
  rw [leftL_snoc, leftL_snoc, open_app]
  cases hd : d.h
  · have hl : leftD d (fs.getD (openL l).length 0) = [cutD d (fs.getD (openL l).length 0)] := by
      have := (h (openL l).length (by rw [open_snoc, hd]; simp)).1
      rw [open_snoc, hd, if_neg (by decide), getD_last] at this
      unfold leftD
      rw [if_neg (by rw [hd]; decide), if_pos (by omega)]
    have hsum := (h (openL l).length (by rw [open_snoc, hd]; simp)).2
    rw [hl, leftL_snoc, i1, i2]
    have ho : openL [cutD d (fs.getD (openL l).length 0)] = [cutD d (fs.getD (openL l).length 0)] := by
      unfold openL; simp [cutD_h, hd]
    rw [ho, open_snoc, hd, if_neg (by decide)]
    refine ⟨?_, by simp [i2], fun k hk => ?_⟩
    · congr 1
      unfold leftD
      have e1 : ¬ (cutD d (fs.getD (openL l).length 0)).h = true := by rw [cutD_h, hd]; decide
      have e2 : ¬ d.h = true := by rw [hd]; decide
      have e3 : cutD (cutD d (fs.getD (openL l).length 0)) (ss.getD (openL l).length 0) = cutD d (ps.getD (openL l).length 0) := by
        unfold cutD
        rw [← hsum, Int.sub_sub]
      have e4 : (cutD d (fs.getD (openL l).length 0)).x - ss.getD (openL l).length 0 = d.x - ps.getD (openL l).length 0 := by
        rw [← hsum, ← Int.sub_sub]
        rfl
      rw [if_neg e1, if_neg e2, e3, e4]
    · rw [List.length_append, List.length_singleton] at hk
      by_cases e : k < (openL l).length
      · rw [getD_snoc _ _ e, getD_snoc _ _ (by rw [i2]; exact e)]
        exact i3 k e
      · obtain rfl : k = (openL l).length := by omega
        rw [getD_last, show (openL l).length = (openL (leftL l fs)).length from i2.symm, getD_last, i2]
        rfl
  · have hl : ∀ p, leftD d p = [d] := fun p => by unfold leftD; rw [if_pos hd]
    rw [hl, leftL_snoc, i1, hl, hl]
    have ho : openL [d] = [] := by unfold openL; simp [hd]
    rw [ho, open_snoc, hd, if_pos rfl, List.append_nil, List.append_nil]
    exact ⟨rfl, i2, i3⟩
end Go.OffP
