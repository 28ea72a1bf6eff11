/-
  What best flows cost: nets that are like one another. Plain lemmas.
-/
import Derived.Test.YtacbfpgijmpilaaNA
set_option linter.unusedVariables false
set_option linter.unusedSimpArgs false
namespace Go.SolveP
open Go Go.Mem Go.NetP Go.RestP Go.CertP
theorem within_iff {n : Int} {es : List Ed} {fl : List Int} : withinB n es fl = true ↔ fl.length = es.length ∧ rightB n es = true ∧ ∀ i, i < es.length → 0 ≤ fl.getD i 0 ∧ fl.getD i 0 ≤ (edAt es i).c := by
  constructor
  · intro h
    obtain ⟨h1, h2, _⟩ := within_cap h
    exact ⟨h1, h2, fun i hi => by rw [edAt_of hi]; exact within_at h hi⟩
  · rintro ⟨h1, h2, h3⟩
    refine within_ok h1 h2 fun j hj => ?_
    have hj' : j < es.length := by omega
    have := h3 j hj'
    rw [edAt_of hj'] at this
    rw [capB_at hj']; simp; exact this
theorem flows_iff {n : Int} {es : List Ed} {fl : List Int} : flowsB n es fl = true ↔ withinB n es fl = true ∧ ∀ v, v < n.toNat → overAt es fl v fl.length = 0 := by
  unfold flowsB
  rw [Bool.and_eq_true]
  constructor
  · rintro ⟨h1, h2⟩
    refine ⟨h1, fun v hv => ?_⟩
    unfold overV at h2
    rw [if_pos h1] at h2
    have := List.all_eq_true.1 h2 (overAt es fl v fl.length) (by unfold overL; exact List.mem_map.2 ⟨v, List.mem_range.2 hv, rfl⟩)
    simpa using this
  · rintro ⟨h1, h2⟩
    refine ⟨h1, ?_⟩
    unfold overV
    rw [if_pos h1]
    refine List.all_eq_true.2 fun x hx => ?_
    unfold overL at hx
    obtain ⟨v, hv, rfl⟩ := List.mem_map.1 hx
    rw [h2 v (List.mem_range.1 hv)]; rfl
theorem over_ends {es es' : List Ed} {fl fl' : List Int} {v v' : Nat} : ∀ m, (∀ j, j < m → (((edAt es j).t = v ↔ (edAt es' j).t = v') ∧ ((edAt es j).f = v ↔ (edAt es' j).f = v')) ∧ fl.getD j 0 = fl'.getD j 0) → overAt es fl v m = overAt es' fl' v' m
  | 0, _ => rfl
  | m + 1, h => by
    have ih := over_ends m fun j hj => h j (by omega)
    obtain ⟨⟨h1, h2⟩, h3⟩ := h m (by omega)
    rw [overAt_succ, overAt_succ, ih, h3]
    simp only [h1, h2]
theorem cost_mul {es es' : List Ed} {fl fl' : List Int} (x : Int) : ∀ m, (∀ j, j < m → fl'.getD j 0 * (edAt es' j).k = x * (fl.getD j 0 * (edAt es j).k)) → flowCost es' fl' m = x * flowCost es fl m
  | 0, _ => by simp [flowCost]
  | m + 1, h => by
    have ih := cost_mul (es := es) (es' := es') (fl := fl) (fl' := fl') x m fun j hj => h j (by omega)
    rw [flowCost_succ, flowCost_succ, ih, h m (by omega), Int.mul_add]
theorem costV_of {n : Int} {es : List Ed} {fl : List Int} (h : withinB n es fl = true) : costV n es fl = flowCost es fl es.length := by
  unfold costV; rw [if_pos h, (within_cap h).1]
theorem check_flows {n : Int} {es : List Ed} {fl p : List Int} (h : checkB n es fl p = true) : flowsB n es fl = true := by
  simp only [checkB, Bool.and_eq_true] at h; exact h.1.1.2
/-! ### More, none below 0, twice -/
theorem zero_flows {n : Int} {es : List Ed} (hr : rightB n es = true) : flowsB n es (List.replicate es.length 0) = true ∧ costV n es (List.replicate es.length 0) = 0 := by
  have hz : ∀ j, (List.replicate es.length (0 : Int)).getD j 0 = 0 := fun j => by rw [List.getD_eq_getElem?_getD, List.getElem?_replicate]; split <;> rfl
  have hw : withinB n es (List.replicate es.length 0) = true := within_iff.2 ⟨by simp, hr, fun i hi => by
    rw [hz]; have := (edgeB_iff _ _).1 ((right_cap hr).2.2.2.2 _ (List.getElem_mem hi)); rw [edAt_of hi]; omega⟩
  have ho : ∀ v m, overAt es (List.replicate es.length 0) v m = 0 := fun v m => by
    induction m with
    | zero => rfl
    | succ m ih => rw [overAt_succ, ih, hz]; simp [gain]
  have hc : ∀ m, flowCost es (List.replicate es.length 0) m = 0 := fun m => by
    induction m with
    | zero => rfl
    | succ m ih => rw [flowCost_succ, ih, hz]; simp
  exact ⟨flows_iff.2 ⟨hw, fun v _ => ho v _⟩, by rw [costV_of hw, hc]⟩
theorem cost_low {n : Int} {es : List Ed} {fl p : List Int} (h : checkB n es fl p = true) (hr : rightB n es = true) : costV n es fl ≤ 0 := by
  obtain ⟨h1, h2⟩ := zero_flows hr
  have := best h1 h; omega
theorem cost_nolow {n : Int} {es : List Ed} {fl : List Int} (h : withinB n es fl = true) (hk : ∀ i, i < es.length → 0 ≤ (edAt es i).k) : 0 ≤ costV n es fl := by
  rw [costV_of h]
  have : ∀ m, m ≤ es.length → 0 ≤ flowCost es fl m := by
    intro m
    induction m with
    | zero => intro _; exact Int.le_refl _
    | succ m ih =>
      intro hm
      have h1 := ih (by omega)
      have h2 := ((within_iff.1 h).2.2 m (by omega)).1
      have h3 := Int.mul_nonneg h2 (hk m (by omega))
      rw [flowCost_succ]; omega
  exact this _ (Nat.le_refl _)
def moreL (es : List Ed) (i : Nat) (b : Int) : List Ed := es.set i ⟨(edAt es i).f, (edAt es i).t, (edAt es i).c + b, (edAt es i).k⟩
theorem moreL_len (es : List Ed) (i : Nat) (b : Int) : (moreL es i b).length = es.length := by simp [moreL]
theorem moreL_at {es : List Ed} {i j : Nat} {b : Int} (h : j < es.length) : edAt (moreL es i b) j = if i = j then ⟨(edAt es i).f, (edAt es i).t, (edAt es i).c + b, (edAt es i).k⟩ else edAt es j := by
  rw [edAt_of (by rw [moreL_len]; exact h)]
  unfold moreL
  rw [List.getElem_set, edAt_of h]
theorem more_less {n : Int} {es : List Ed} {i : Nat} {b : Int} {fl p d q : List Int} (hb : 0 ≤ b) (h : checkB n es fl p = true) (hr : rightB n (moreL es i b) = true) (hd : checkB n (moreL es i b) d q = true) : costV n (moreL es i b) d ≤ costV n es fl := by
  obtain ⟨hw, ho⟩ := flows_iff.1 (check_flows h)
  obtain ⟨w1, w2, w3⟩ := within_iff.1 hw
  have hsame : ∀ j, j < es.length → (edAt (moreL es i b) j).f = (edAt es j).f ∧ (edAt (moreL es i b) j).t = (edAt es j).t ∧ (edAt (moreL es i b) j).k = (edAt es j).k ∧ (edAt es j).c ≤ (edAt (moreL es i b) j).c := by
    intro j hj
    rw [moreL_at hj]
    split
    · rename_i e; subst e; exact ⟨rfl, rfl, rfl, by dsimp only; omega⟩
    · exact ⟨rfl, rfl, rfl, Int.le_refl _⟩
  have hw' : withinB n (moreL es i b) fl = true := within_iff.2 ⟨by rw [moreL_len]; exact w1, hr, fun j hj => by
    rw [moreL_len] at hj
    have := w3 j hj; have := (hsame j hj).2.2.2; omega⟩
  have hf : flowsB n (moreL es i b) fl = true := flows_iff.2 ⟨hw', fun v hv => by
    rw [← ho v hv]
    exact over_ends _ fun j hj => by
      obtain ⟨e1, e2, _, _⟩ := hsame j (by omega)
      rw [e1, e2]; simp⟩
  have h1 := best hf hd
  have h2 : costV n (moreL es i b) fl = costV n es fl := by
    rw [costV_of hw', costV_of hw, moreL_len]
    have := cost_mul (es := es) (es' := moreL es i b) (fl := fl) (fl' := fl) 1 es.length fun j hj => by rw [(hsame j hj).2.2.1, Int.one_mul]
    rw [this, Int.one_mul]
  omega
def twiceL (es : List Ed) : List Ed := es.map fun e => ⟨e.f, e.t, e.c, 2 * e.k⟩
theorem twiceL_len (es : List Ed) : (twiceL es).length = es.length := by simp [twiceL]
theorem twiceL_at {es : List Ed} {j : Nat} (h : j < es.length) : edAt (twiceL es) j = ⟨(edAt es j).f, (edAt es j).t, (edAt es j).c, 2 * (edAt es j).k⟩ := by
  rw [edAt_of (by rw [twiceL_len]; exact h), edAt_of h]; simp [twiceL]
theorem twice_flows {n : Int} {es : List Ed} {fl : List Int} (h1 : rightB n es = true) (h2 : rightB n (twiceL es) = true) : (flowsB n (twiceL es) fl = true ↔ flowsB n es fl = true) ∧ (withinB n es fl = true → costV n (twiceL es) fl = 2 * costV n es fl) := by
  have hw : withinB n (twiceL es) fl = true ↔ withinB n es fl = true := by
    rw [within_iff, within_iff, twiceL_len]
    constructor
    · rintro ⟨a, _, b⟩; exact ⟨a, h1, fun i hi => by have := b i hi; rw [twiceL_at hi] at this; exact this⟩
    · rintro ⟨a, _, b⟩; exact ⟨a, h2, fun i hi => by have := b i hi; rw [twiceL_at hi]; exact this⟩
  constructor
  · rw [flows_iff, flows_iff, hw]
    refine and_congr_right fun hw1 => ?_
    have hl := (within_cap hw1).1
    have ho : ∀ v, overAt (twiceL es) fl v fl.length = overAt es fl v fl.length := fun v => over_ends _ fun j hj => by rw [twiceL_at (by omega)]; simp
    simp only [ho]
  · intro hw1
    rw [costV_of (hw.2 hw1), costV_of hw1, twiceL_len]
    exact cost_mul 2 _ fun j hj => by rw [twiceL_at hj]; dsimp only; rw [← Int.mul_assoc, Int.mul_comm (fl.getD j 0) 2, Int.mul_assoc]
theorem twice_cost {n : Int} {es : List Ed} {fl p d q : List Int} (h : checkB n es fl p = true) (hd : checkB n (twiceL es) d q = true) : costV n (twiceL es) d = 2 * costV n es fl := by
  have hf := check_flows h
  have hg := check_flows hd
  have h1 := (within_cap (flows_iff.1 hf).1).2.1
  have h2 := (within_cap (flows_iff.1 hg).1).2.1
  have a := best ((twice_flows h1 h2).1.2 hf) hd
  rw [(twice_flows h1 h2).2 (flows_iff.1 hf).1] at a
  have hg' := (twice_flows h1 h2).1.1 hg
  have b := best hg' h
  have c := (twice_flows h1 h2).2 (flows_iff.1 hg').1
  omega
end Go.SolveP
