/-
  What best flows cost: nets twice, side by side, loops. Plain lemmas.
-/
import Derived.Test.YtacbfpgijmpilaaSG
set_option linter.unusedVariables false
set_option linter.unusedSimpArgs false
namespace Go.SolveP
open Go Go.Mem Go.NetP Go.RestP Go.CertP
/-! ### What may be -/
theorem costs_le {B : Nat} : ∀ es : List Ed, (∀ e ∈ es, costE e ≤ B) → costs es ≤ es.length * B
  | [], _ => by simp [costs]
  | e :: es, h => by
    have h1 := costs_le es fun x hx => h x (List.mem_cons_of_mem _ hx)
    have h2 := h e List.mem_cons_self
    have : costs (e :: es) = costE e + costs es := by simp [costs]
    rw [this, List.length_cons, Nat.add_mul]; omega
theorem right_small {n : Int} {es : List Ed} (h1 : 1 ≤ n) (h2 : n ≤ 40) (h3 : es.length ≤ 200) (h4 : ∀ e ∈ es, edgeB n e = true ∧ e.c ≤ 4294967296) : rightB n es = true := by
  refine right_ok h1 h2 h3 (List.all_eq_true.2 fun e he => (h4 e he).1) ?_
  have := costs_le (B := 4294967296000) es fun e he => by
    obtain ⟨a, b⟩ := h4 e he
    have := (edgeB_iff _ _).1 a
    unfold costE absI
    exact Nat.mul_le_mul (show e.c.toNat ≤ 4294967296 by omega) (show e.k.natAbs ≤ 1000 by omega)
  have h5 : es.length * 4294967296000 ≤ 200 * 4294967296000 := Nat.mul_le_mul_right _ h3
  omega
theorem caps_right {n : Int} {es : List Ed} (h : rightB n es = true) (hc : ∀ e ∈ es, e.c ≤ 1073741824) : rightB n (capsL es) = true := by
  obtain ⟨h1, h2, h3, h4, h5⟩ := right_cap h
  refine right_small h1 h2 (by rw [capsL_len]; exact h3) fun e he => ?_
  unfold capsL at he
  obtain ⟨x, hx, rfl⟩ := List.mem_map.1 he
  have := (edgeB_iff _ _).1 (h5 x hx)
  have := hc x hx
  exact ⟨by rw [edgeB_iff]; dsimp only; omega, by dsimp only; omega⟩
theorem twice_right {n : Int} {es : List Ed} (h : rightB n es = true) (hc : ∀ e ∈ es, e.c ≤ 1073741824) (hk : ∀ e ∈ es, -500 ≤ e.k ∧ e.k ≤ 500) : rightB n (twiceL es) = true := by
  obtain ⟨h1, h2, h3, h4, h5⟩ := right_cap h
  refine right_small h1 h2 (by rw [twiceL_len]; exact h3) fun e he => ?_
  unfold twiceL at he
  obtain ⟨x, hx, rfl⟩ := List.mem_map.1 he
  have := (edgeB_iff _ _).1 (h5 x hx)
  have := hc x hx
  have := hk x hx
  exact ⟨by rw [edgeB_iff]; dsimp only; omega, by dsimp only; omega⟩
/-! ### Each edge twice -/
def dupL (es : List Ed) : List Ed := es.flatMap fun e => [e, e]
def dupF (fl : List Int) : List Int := fl.flatMap fun x => [x, x]
theorem dup_get {α : Type} (d : α) : ∀ (l : List α) (j : Nat), (l.flatMap fun x => [x, x]).getD j d = l.getD (j / 2) d
  | [], j => by simp
  | x :: l, 0 => by simp
  | x :: l, 1 => by simp
  | x :: l, j + 2 => by
    have ih := dup_get d l j
    have e : (j + 2) / 2 = j / 2 + 1 := by omega
    rw [e]
    simpa using ih
theorem dup_len {α : Type} : ∀ l : List α, (l.flatMap fun x => [x, x]).length = 2 * l.length
  | [] => rfl
  | x :: l => by have := dup_len l; simp only [List.flatMap_cons, List.length_append, List.length_cons, List.length_nil]; omega
theorem dupL_at (es : List Ed) (j : Nat) : edAt (dupL es) j = edAt es (j / 2) := dup_get _ es j
theorem dupF_at (fl : List Int) (j : Nat) : (dupF fl).getD j 0 = fl.getD (j / 2) 0 := dup_get _ fl j
theorem over_dup (es : List Ed) (fl : List Int) (v : Nat) : ∀ m, overAt (dupL es) (dupF fl) v (2 * m) = 2 * overAt es fl v m
  | 0 => rfl
  | m + 1 => by
    rw [show 2 * (m + 1) = 2 * m + 1 + 1 by omega, overAt_succ, overAt_succ, over_dup es fl v m, overAt_succ, dupL_at, dupL_at, dupF_at, dupF_at, show (2 * m + 1) / 2 = m by omega, show 2 * m / 2 = m by omega]
    omega
theorem cost_dup (es : List Ed) (fl : List Int) : ∀ m, flowCost (dupL es) (dupF fl) (2 * m) = 2 * flowCost es fl m
  | 0 => rfl
  | m + 1 => by
    rw [show 2 * (m + 1) = 2 * m + 1 + 1 by omega, flowCost_succ, flowCost_succ, cost_dup es fl m, flowCost_succ, dupL_at, dupL_at, dupF_at, dupF_at, show (2 * m + 1) / 2 = m by omega, show 2 * m / 2 = m by omega]
    omega
theorem dup_right {n : Int} {es : List Ed} (h : rightB n es = true) (hl : es.length ≤ 100) (hc : ∀ e ∈ es, e.c ≤ 1073741824) : rightB n (dupL es) = true := by
  obtain ⟨h1, h2, h3, h4, h5⟩ := right_cap h
  refine right_small h1 h2 (by unfold dupL; rw [dup_len]; omega) fun e he => ?_
  unfold dupL at he
  obtain ⟨x, hx, he⟩ := List.mem_flatMap.1 he
  have : e = x := by simpa using he
  subst this
  exact ⟨h5 e hx, by have := hc e hx; omega⟩
theorem dup_check {n : Int} {es : List Ed} {fl pot : List Int} (h : checkB n es fl pot = true) (hr : rightB n (dupL es) = true) : checkB n (dupL es) (dupF fl) pot = true ∧ costV n (dupL es) (dupF fl) = 2 * costV n es fl := by
  obtain ⟨h1, h2, h3, h4⟩ := check_iff.1 h
  obtain ⟨hw, ho⟩ := flows_iff.1 h2
  obtain ⟨w1, w2, w3⟩ := within_iff.1 hw
  have lE : (dupL es).length = 2 * es.length := dup_len es
  have lF : (dupF fl).length = 2 * fl.length := dup_len fl
  have hw' : withinB n (dupL es) (dupF fl) = true := within_iff.2 ⟨by omega, hr, fun i hi => by
    rw [dupL_at, dupF_at]; exact w3 (i / 2) (by omega)⟩
  refine ⟨check_iff.2 ⟨hr, flows_iff.2 ⟨hw', fun v hv => by rw [lF, over_dup, ho v hv]; rfl⟩, h3, tight_iff.2 fun j hj => ?_⟩, ?_⟩
  · have e : lenE (dupL es) pot j = lenE es pot (j / 2) := by unfold lenE; rw [dupL_at]
    rw [e, dupF_at, dupL_at]
    exact tight_iff.1 h4 (j / 2) (by omega)
  · rw [costV_of hw', costV_of hw, lE, cost_dup]
/-! ### Loops -/
def loopL (es : List Ed) : List Ed := es.map fun e => ⟨0, 0, e.c, e.k⟩
def loopF (es : List Ed) : List Int := es.map fun e => if e.k < 0 then e.c else 0
/-- What loops gain. -/
def gainS (es : List Ed) : Nat → Int
  | 0 => 0
  | m + 1 => gainS es m + if (edAt es m).k < 0 then (edAt es m).c * (edAt es m).k else 0
theorem gainS_succ (es : List Ed) (m : Nat) : gainS es (m + 1) = gainS es m + if (edAt es m).k < 0 then (edAt es m).c * (edAt es m).k else 0 := rfl
theorem loopL_len (es : List Ed) : (loopL es).length = es.length := by simp [loopL]
theorem loopL_at {es : List Ed} {j : Nat} (h : j < es.length) : edAt (loopL es) j = ⟨0, 0, (edAt es j).c, (edAt es j).k⟩ := by
  rw [edAt_of (by rw [loopL_len]; exact h), edAt_of h]; simp [loopL]
theorem loopF_at {es : List Ed} {j : Nat} (h : j < es.length) : (loopF es).getD j 0 = if (edAt es j).k < 0 then (edAt es j).c else 0 := by
  rw [List.getD_eq_getElem?_getD]
  unfold loopF
  rw [List.getElem?_map, List.getElem?_eq_getElem h, edAt_of h]; rfl
theorem loop_right {n : Int} {es : List Ed} (h : rightB n es = true) : rightB 1 (loopL es) = true := by
  obtain ⟨h1, h2, h3, h4, h5⟩ := right_cap h
  refine right_ok (by decide) (by decide) (by rw [loopL_len]; exact h3) ?_ ?_
  · unfold edges loopL
    rw [List.all_eq_true]
    intro e he
    obtain ⟨x, hx, rfl⟩ := List.mem_map.1 he
    have := (edgeB_iff _ _).1 (h5 x hx)
    rw [edgeB_iff]; dsimp only; omega
  · have : costs (loopL es) = costs es := by
      unfold costs loopL
      rw [List.map_map]; rfl
    omega
theorem loop_check {n : Int} {es : List Ed} (h : rightB n es = true) : checkB 1 (loopL es) (loopF es) [0] = true ∧ costV 1 (loopL es) (loopF es) = gainS es es.length := by
  have hr := loop_right h
  have h5 := (right_cap h).2.2.2.2
  have lF : (loopF es).length = es.length := by simp [loopF]
  have hw' : withinB 1 (loopL es) (loopF es) = true := within_iff.2 ⟨by rw [loopL_len, lF], hr, fun i hi => by
    rw [loopL_len] at hi
    have := (edgeB_iff _ _).1 (h5 _ (List.getElem_mem hi))
    rw [← edAt_of hi] at this
    rw [loopL_at hi, loopF_at hi]; dsimp only; split <;> omega⟩
  have ho : ∀ v m, m ≤ es.length → overAt (loopL es) (loopF es) v m = 0 := fun v m => by
    induction m with
    | zero => intro _; rfl
    | succ m ih => intro hm; rw [overAt_succ, ih (by omega), loopL_at (by omega)]; dsimp only; omega
  refine ⟨check_iff.2 ⟨hr, flows_iff.2 ⟨hw', fun v _ => by rw [lF]; exact ho v _ (Nat.le_refl _)⟩, by decide, tight_iff.2 fun j hj => ?_⟩, ?_⟩
  · rw [loopL_len] at hj
    have e : lenE (loopL es) [0] j = (edAt es j).k := by unfold lenE; rw [loopL_at hj]; dsimp only; omega
    have := (edgeB_iff _ _).1 (h5 _ (List.getElem_mem hj))
    rw [← edAt_of hj] at this
    rw [e, loopL_at hj, loopF_at hj]; dsimp only
    split <;> constructor <;> intro q <;> omega
  · rw [costV_of hw', loopL_len]
    have : ∀ m, m ≤ es.length → flowCost (loopL es) (loopF es) m = gainS es m := fun m => by
      induction m with
      | zero => intro _; rfl
      | succ m ih =>
        intro hm
        rw [flowCost_succ, ih (by omega), loopL_at (by omega), loopF_at (by omega), gainS_succ]
        dsimp only
        by_cases q : (edAt es m).k < 0
        · rw [if_pos q, if_pos q]
        · rw [if_neg q, if_neg q]; omega
    exact this _ (Nat.le_refl _)
/-! ### Side by side -/
def shL (N : Nat) (es : List Ed) : List Ed := es.map fun e => ⟨e.f + N, e.t + N, e.c, e.k⟩
theorem shL_len (N : Nat) (es : List Ed) : (shL N es).length = es.length := by simp [shL]
theorem shL_at {N : Nat} {es : List Ed} {j : Nat} (h : j < es.length) : edAt (shL N es) j = ⟨(edAt es j).f + N, (edAt es j).t + N, (edAt es j).c, (edAt es j).k⟩ := by
  rw [edAt_of (by rw [shL_len]; exact h), edAt_of h]; simp [shL]
theorem app_at {α : Type} (d : α) (a b : List α) (j : Nat) : (a ++ b).getD j d = if j < a.length then a.getD j d else b.getD (j - a.length) d := by
  rw [List.getD_eq_getElem?_getD, List.getElem?_append]
  split <;> rw [List.getD_eq_getElem?_getD]
theorem over_none {es : List Ed} {fl : List Int} {v : Nat} : ∀ m, (∀ j, j < m → (edAt es j).t ≠ v ∧ (edAt es j).f ≠ v) → overAt es fl v m = 0
  | 0, _ => rfl
  | m + 1, h => by
    obtain ⟨h1, h2⟩ := h m (by omega)
    rw [overAt_succ, over_none m fun j hj => h j (by omega)]
    simp [gain, h1, h2]
theorem over_app (a b : List Ed) (x y : List Int) (hl : x.length = a.length) (v : Nat) : ∀ m, overAt (a ++ b) (x ++ y) v (a.length + m) = overAt a x v a.length + overAt b y v m
  | 0 => by
    rw [Nat.add_zero, show overAt b y v 0 = 0 from rfl, Int.add_zero]
    exact over_ends _ fun j hj => by
      have e : edAt (a ++ b) j = edAt a j := by unfold edAt; rw [app_at, if_pos hj]
      rw [e, app_at, hl, if_pos hj]; simp
  | m + 1 => by
    have e : edAt (a ++ b) (a.length + m) = edAt b m := by unfold edAt; rw [app_at, if_neg (by omega), show a.length + m - a.length = m by omega]
    have e2 : (x ++ y).getD (a.length + m) 0 = y.getD m 0 := by rw [app_at, if_neg (by omega), show a.length + m - x.length = m by omega]
    rw [← Nat.add_assoc, overAt_succ, over_app a b x y hl v m, overAt_succ, e, e2]; omega
theorem cost_app (a b : List Ed) (x y : List Int) (hl : x.length = a.length) : ∀ m, flowCost (a ++ b) (x ++ y) (a.length + m) = flowCost a x a.length + flowCost b y m
  | 0 => by
    rw [Nat.add_zero, show flowCost b y 0 = 0 from rfl, Int.add_zero]
    have := cost_mul (es := a) (es' := a ++ b) (fl := x) (fl' := x ++ y) 1 a.length fun j hj => by
      have e : edAt (a ++ b) j = edAt a j := by unfold edAt; rw [app_at, if_pos hj]
      rw [e, app_at, hl, if_pos hj, Int.one_mul]
    rw [this, Int.one_mul]
  | m + 1 => by
    have e : edAt (a ++ b) (a.length + m) = edAt b m := by unfold edAt; rw [app_at, if_neg (by omega), show a.length + m - a.length = m by omega]
    have e2 : (x ++ y).getD (a.length + m) 0 = y.getD m 0 := by rw [app_at, if_neg (by omega), show a.length + m - x.length = m by omega]
    rw [← Nat.add_assoc, flowCost_succ, cost_app a b x y hl m, flowCost_succ, e, e2]; omega
theorem both_check {N M : Nat} {es es' : List Ed} {fl fl' pot pot' : List Int} (h : checkB N es fl pot = true) (h' : checkB M es' fl' pot' = true) (hr : rightB ((N : Int) + M) (es ++ shL N es') = true) :
    checkB ((N : Int) + M) (es ++ shL N es') (fl ++ fl') (pot ++ pot') = true ∧ costV ((N : Int) + M) (es ++ shL N es') (fl ++ fl') = costV N es fl + costV M es' fl' := by
  obtain ⟨h1, h2, h3, h4⟩ := check_iff.1 h
  obtain ⟨h1', h2', h3', h4'⟩ := check_iff.1 h'
  obtain ⟨hw, ho⟩ := flows_iff.1 h2
  obtain ⟨hw', ho'⟩ := flows_iff.1 h2'
  obtain ⟨w1, w2, w3⟩ := within_iff.1 hw
  obtain ⟨w1', w2', w3'⟩ := within_iff.1 hw'
  simp only [potB, Bool.and_eq_true, decide_eq_true_eq] at h3 h3'
  have hE : ∀ j, j < es.length → (0 ≤ (edAt es j).f ∧ (edAt es j).f < N) ∧ (0 ≤ (edAt es j).t ∧ (edAt es j).t < N) := fun j hj => by
    have := (edgeB_iff _ _).1 ((right_cap h1).2.2.2.2 _ (List.getElem_mem hj)); rw [← edAt_of hj] at this; exact ⟨this.1, this.2.1⟩
  have hE' : ∀ j, j < es'.length → (0 ≤ (edAt es' j).f ∧ (edAt es' j).f < M) ∧ (0 ≤ (edAt es' j).t ∧ (edAt es' j).t < M) := fun j hj => by
    have := (edgeB_iff _ _).1 ((right_cap h1').2.2.2.2 _ (List.getElem_mem hj)); rw [← edAt_of hj] at this; exact ⟨this.1, this.2.1⟩
  have hA : ∀ j, j < es.length → edAt (es ++ shL N es') j = edAt es j := fun j hj => by unfold edAt; rw [app_at, if_pos hj]
  have hB : ∀ j, j < es'.length → edAt (es ++ shL N es') (es.length + j) = edAt (shL N es') j := fun j hj => by unfold edAt; rw [app_at, if_neg (by omega), show es.length + j - es.length = j by omega]
  have fA : ∀ j, j < es.length → (fl ++ fl').getD j 0 = fl.getD j 0 := fun j hj => by rw [app_at, if_pos (by omega)]
  have fB : ∀ j, (fl ++ fl').getD (es.length + j) 0 = fl'.getD j 0 := fun j => by rw [app_at, if_neg (by omega), show es.length + j - fl.length = j by omega]
  have lE : (es ++ shL N es').length = es.length + es'.length := by rw [List.length_append, shL_len]
  have split_ : ∀ P : Nat → Prop, (∀ j, j < es.length → P j) → (∀ j, j < es'.length → P (es.length + j)) → ∀ j, j < es.length + es'.length → P j := fun P p q j hj => by
    rcases Nat.lt_or_ge j es.length with r | r
    · exact p j r
    · have := q (j - es.length) (by omega)
      rwa [show es.length + (j - es.length) = j by omega] at this
  have hwB : withinB ((N : Int) + M) (es ++ shL N es') (fl ++ fl') = true := within_iff.2 ⟨by rw [lE, List.length_append]; omega, hr, by
    rw [lE]
    refine split_ _ (fun j hj => ?_) (fun j hj => ?_)
    · rw [hA j hj, fA j hj]; exact w3 j hj
    · rw [hB j hj, fB j, shL_at hj]; exact w3' j hj⟩
  refine ⟨check_iff.2 ⟨hr, flows_iff.2 ⟨hwB, fun v hv => ?_⟩, ?_, tight_iff.2 ?_⟩, ?_⟩
  · rw [List.length_append, w1, w1', over_app _ _ _ _ w1]
    rcases Nat.lt_or_ge v N with q | q
    · have e1 := ho v (by omega)
      rw [w1] at e1
      rw [e1, over_none _ fun j hj => by have := hE' j hj; rw [shL_at hj]; dsimp only; omega]
      rfl
    · have e1 := ho' (v - N) (by omega)
      rw [w1'] at e1
      rw [over_none _ fun j hj => by have := hE j hj; omega, over_ends (es' := es') (fl' := fl') (v' := v - N) es'.length fun j hj => by
        rw [shL_at hj]; dsimp only
        exact ⟨⟨by omega, by omega⟩, rfl⟩, e1]
      rfl
  · simp only [potB, Bool.and_eq_true, decide_eq_true_eq, List.all_append, List.length_append]
    exact ⟨⟨h3.1, h3'.1⟩, by have := h3.2; have := h3'.2; omega⟩
  · rw [lE]
    refine split_ _ (fun j hj => ?_) (fun j hj => ?_)
    · have e : lenE (es ++ shL N es') (pot ++ pot') j = lenE es pot j := by
        unfold lenE potAt
        have := hE j hj
        rw [hA j hj, app_at, app_at, if_pos (by have := h3.2; omega), if_pos (by have := h3.2; omega)]
      rw [e, hA j hj, fA j hj]; exact tight_iff.1 h4 j hj
    · have e : lenE (es ++ shL N es') (pot ++ pot') (es.length + j) = lenE es' pot' j := by
        unfold lenE potAt
        have := hE' j hj
        have hp := h3.2
        rw [hB j hj, shL_at hj]
        dsimp only
        rw [app_at, app_at, if_neg (by omega), if_neg (by omega), show ((edAt es' j).f + (N : Int)).toNat - pot.length = (edAt es' j).f.toNat by omega, show ((edAt es' j).t + (N : Int)).toNat - pot.length = (edAt es' j).t.toNat by omega]
      rw [e, hB j hj, fB j, shL_at hj]; exact tight_iff.1 h4' j hj
  · rw [costV_of hwB, costV_of hw, costV_of hw', lE, cost_app _ _ _ _ w1]
    have := cost_mul (es := es') (es' := shL N es') (fl := fl') (fl' := fl') 1 es'.length fun j hj => by rw [shL_at hj, Int.one_mul]
    rw [this, Int.one_mul]
end Go.SolveP
