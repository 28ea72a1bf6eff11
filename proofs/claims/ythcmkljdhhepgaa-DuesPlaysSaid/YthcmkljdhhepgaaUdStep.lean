/-
  Steps that come in; what the steps do to the sum of all dues, plainly.
-/
import Derived.Test.YthcmkljdhhepgaaUdNilW
import Derived.Test.YthcmkljdhhepgaaBArgs
set_option linter.unusedVariables false
set_option linter.unusedSimpArgs false
namespace Go.DuesP
open Go Go.Mem Go.BuildP Go.MoneyP
/-- A step. -/
structure St where
  q : Int
  id : Int
  a : Int
  b : Int
  x : Int
  w : Int
  u : Int
instance : Inhabited St := ⟨⟨0, 0, 0, 0, 0, 0, 0⟩⟩
def stR : Rec St where
  m := 7
  cells s := [.int .i64 s.q, .int .u64 s.id, .int .i64 s.a, .int .i64 s.b, .int .i64 s.x, .int .i64 s.w, .int .i64 s.u]
  len _ := rfl
  one p u hu := by
    simp only [List.mem_cons, List.not_mem_nil, or_false] at hu
    rcases hu with rfl | rfl | rfl | rfl | rfl | rfl | rfl <;> rfl
  pos := by decide
structure St.Ok (s : St) : Prop where
  i0 : 0 ≤ s.id
  i1 : s.id ≤ 18446744073709551615
def sumX (xs : List Du) : Int := (xs.map (·.x)).sum
theorem GoodS.s0 {xs : List Du} {nx : Int} (h : GoodS xs nx) : 0 ≤ sumX xs := by
  have := pos_sub (List.nil_sublist xs) (fun d hd => by have := h.x0 d hd; omega)
  simpa [sumX] using this
theorem GoodS.s1 {xs : List Du} {nx : Int} (h : GoodS xs nx) : sumX xs ≤ 4503599627370496 := h.sum
theorem GoodS.gx {xs : List Du} {nx : Int} (h : GoodS xs nx) : DuesP.gross xs = sumX xs := h.gross
theorem GoodS.xb {xs : List Du} {nx : Int} (h : GoodS xs nx) (d : Du) (hd : d ∈ xs) : 1 ≤ d.x ∧ d.x ≤ 4503599627370496 := by
  have := (mayD_iff d).1 (h.ok d hd).1
  exact ⟨this.x0, this.x1⟩
theorem sumX_app (a b : List Du) : sumX (a ++ b) = sumX a + sumX b := by simp [sumX]
theorem sumX_one (d : Du) : sumX [d] = d.x := by simp [sumX]
theorem sumX_take {xs : List Du} {j : Nat} (hj : j < xs.length) : sumX (xs.take (j + 1)) = sumX (xs.take j) + (xs[j]).x := by
  rw [List.take_succ_eq_append_getElem hj, sumX_app, sumX_one]
theorem sumX_take_le {xs : List Du} {nx : Int} (h : GoodS xs nx) (j : Nat) : 0 ≤ sumX (xs.take j) ∧ sumX (xs.take j) ≤ sumX xs := by
  have h1 := (h.sub (List.take_sublist j xs)).s0
  have h2 := (h.sub (List.drop_sublist j xs)).s0
  have h3 : sumX xs = sumX (xs.take j) + sumX (xs.drop j) := by rw [← sumX_app, List.take_append_drop]
  omega
theorem set_x {xs : List Du} {j : Nat} (hj : j < xs.length) (d : Du) : sumX (xs.set j d) = sumX xs - (xs[j]).x + d.x := by
  unfold sumX
  rw [List.map_set, set_sum _ j (by rw [List.length_map]; exact hj), List.getElem_map]
theorem erase_x {xs : List Du} {j : Nat} (hj : j < xs.length) : sumX (xs.eraseIdx j) = sumX xs - (xs[j]).x := by
  rw [List.eraseIdx_eq_take_drop_succ, sumX_app]
  have h3 : sumX xs = sumX (xs.take j) + sumX (xs.drop j) := by rw [← sumX_app, List.take_append_drop]
  have h4 : sumX (xs.drop j) = (xs[j]).x + sumX (xs.drop (j + 1)) := by
    rw [List.drop_eq_getElem_cons hj]; unfold sumX; rw [List.map_cons, List.sum_cons]
  omega
theorem held_sum (is : Bool) (xs : List Du) (nx : Int) (h : GoodS xs nx) (id : Int) : sumX (turnS (heldF is) xs id) = sumX xs := by
  rcases idx_cases xs id with ⟨h1, _⟩ | ⟨j, hj, h1, _, _⟩
  · unfold turnS; rw [h1]
  · unfold turnS
    rw [h1]
    dsimp only
    rw [show xs.getD j default = xs[j] by rw [List.getD_eq_getElem?_getD, List.getElem?_eq_getElem hj]; rfl]
    have hx := (h.xb _ (List.getElem_mem hj)).1
    by_cases hh : (xs[j]).h = is
    · rw [show heldF is xs[j] = (14, xs[j]) by unfold heldF; rw [if_pos hh], if_pos (by simp)]
    · rw [show heldF is xs[j] = (0, { xs[j] with h := is }) by unfold heldF; rw [if_neg hh], if_neg (by simp), if_neg (by dsimp only; omega), set_x hj]
      dsimp only
      omega
theorem cancel_no {xs : List Du} {id : Int} (h : idx xs id = none) : turnE cancelF xs id = 11 ∧ turnS cancelF xs id = xs ∧ getB xs id = false ∧ getV xs id = default := by
  unfold turnE turnS getB getV; rw [h]; exact ⟨rfl, rfl, rfl, rfl⟩
theorem cancel_yes {xs : List Du} {id : Int} {j : Nat} (hj : j < xs.length) (h : idx xs id = some j) : turnE cancelF xs id = 0 ∧ turnS cancelF xs id = xs.eraseIdx j ∧ getB xs id = true ∧ getV xs id = xs[j] := by
  unfold turnE turnS getB getV; rw [h]
  refine ⟨rfl, rfl, rfl, ?_⟩
  dsimp only
  rw [List.getD_eq_getElem?_getD, List.getElem?_eq_getElem hj]; rfl
theorem pay_err {xs : List Du} {id x : Int} (h : turnE (payF x) xs id ≠ 0) : turnS (payF x) xs id = xs := by
  unfold turnE at h
  unfold turnS
  split
  · rfl
  · rename_i j hj
    rw [hj] at h
    dsimp only at h
    rw [if_pos h]
theorem pay_ok {xs : List Du} {nx : Int} (hg : GoodS xs nx) {id x : Int} (h : turnE (payF x) xs id = 0) : sumX (turnS (payF x) xs id) = sumX xs - x ∧ 0 ≤ x ∧ x ≤ 4503599627370496 := by
  rcases idx_cases xs id with ⟨h1, _⟩ | ⟨j, hj, h1, _, _⟩
  · unfold turnE at h; rw [h1] at h; cases h
  · unfold turnE at h
    unfold turnS
    rw [h1] at h ⊢
    dsimp only at h ⊢
    rw [show xs.getD j default = xs[j] by rw [List.getD_eq_getElem?_getD, List.getElem?_eq_getElem hj]; rfl] at h ⊢
    have hb := hg.xb _ (List.getElem_mem hj)
    unfold payF at h ⊢
    split at h
    · cases h
    rename_i h2
    split at h
    · cases h
    rename_i h3
    split at h
    · cases h
    rename_i h4
    simp only [if_neg h2, if_neg h3, if_neg h4]
    refine ⟨?_, by omega, by omega⟩
    rw [if_neg (by simp)]
    split
    · rw [erase_x hj]; rename_i h5; omega
    · rw [set_x hj]; show sumX xs - (xs[j]).x + ((xs[j]).x - x) = sumX xs - x; omega
def expD (xs : List Du) (day : Int) : List Du := xs.filter fun d => decide (d.u < day)
theorem expI_eq (xs : List Du) (day : Int) : expI xs day = (expD xs day).map (·.id) := rfl
theorem exp_sum (xs : List Du) (day : Int) : sumX (expS xs day) = sumX xs - sumX (expD xs day) := by
  induction xs with
  | nil => rfl
  | cons d l ih =>
    unfold expS expD at *
    simp only [List.filter_cons]
    by_cases h : d.u < day
    · simp only [h, decide_true, Bool.not_true, Bool.false_eq_true, if_false, if_true]
      simp only [sumX, List.map_cons, List.sum_cons] at *
      omega
    · simp only [h, decide_false, Bool.not_false, Bool.false_eq_true, if_false, if_true]
      simp only [sumX, List.map_cons, List.sum_cons] at *
      omega
/-- Of those that bear an id there is one. -/
theorem one_id {xs : List Du} (h : xs.Pairwise (fun a b => a.id < b.id)) {d : Du} (hd : d ∈ xs) : sumX (xs.filter fun y => y.id == d.id) = d.x := by
  induction xs with
  | nil => cases hd
  | cons a l ih =>
    obtain ⟨h1, h2⟩ := List.pairwise_cons.1 h
    rcases List.mem_cons.1 hd with rfl | hd
    · rw [List.filter_cons, if_pos (by simp)]
      have : l.filter (fun y => y.id == d.id) = [] := List.filter_eq_nil_iff.2 fun y hy => by have := h1 y hy; simp; omega
      rw [this, sumX_one]
    · rw [List.filter_cons, if_neg (by have := h1 d hd; simp; omega)]
      exact ih h2 hd
def subId (xs : List Du) (id : Int) (j : Nat) : Int := sumX ((xs.take j).filter fun y => y.id == id)
theorem subId_step {xs : List Du} {id : Int} {j : Nat} (hj : j < xs.length) : subId xs id (j + 1) = subId xs id j + if (xs[j]).id = id then (xs[j]).x else 0 := by
  unfold subId
  rw [List.take_succ_eq_append_getElem hj, List.filter_append, sumX_app]
  congr 1
  rw [List.filter_cons]
  by_cases h : (xs[j]).id = id
  · rw [if_pos (by simpa using h), if_pos h, List.filter_nil, sumX_one]
  · rw [if_neg (by simpa using h), if_neg h, List.filter_nil]; rfl
theorem subId_le {xs : List Du} {nx : Int} (h : GoodS xs nx) (id : Int) (j : Nat) : 0 ≤ subId xs id j ∧ subId xs id j ≤ 4503599627370496 := by
  have h1 := h.sub ((List.filter_sublist (p := fun y => y.id == id)).trans (List.take_sublist j xs))
  exact ⟨h1.s0, h1.s1⟩
theorem cancel_facts {xs : List Du} {nx : Int} (hg : GoodS xs nx) (id : Int) : (turnE cancelF xs id = 0 ∧ getB xs id = true ∨ turnE cancelF xs id = 11 ∧ getB xs id = false) ∧ sumX (turnS cancelF xs id) = sumX xs - (getV xs id).x ∧ 0 ≤ (getV xs id).x ∧ (getV xs id).x ≤ 4503599627370496 := by
  rcases idx_cases xs id with ⟨h1, _⟩ | ⟨k, hk, h1, _, _⟩
  · obtain ⟨q1, q2, q3, q4⟩ := cancel_no h1
    rw [q1, q2, q3, q4]
    exact ⟨.inr ⟨rfl, rfl⟩, by show sumX xs = sumX xs - 0; omega, by decide, by decide⟩
  · obtain ⟨q1, q2, q3, q4⟩ := cancel_yes hk h1
    rw [q1, q2, q3, q4, erase_x hk]
    have := hg.xb _ (List.getElem_mem hk)
    exact ⟨.inl ⟨rfl, rfl⟩, rfl, by omega, this.2⟩
theorem GoodS.expG {xs : List Du} {nx : Int} (h : GoodS xs nx) (day : Int) : GoodS (expD xs day) nx := h.sub List.filter_sublist
theorem exp_at {xs : List Du} {day : Int} {k : Nat} (hk : k < (expD xs day).length) : (expI xs day).getD k 0 = ((expD xs day)[k]).id := by
  rw [expI_eq, List.getD_eq_getElem?_getD, List.getElem?_map, List.getElem?_eq_getElem hk]; rfl
theorem exp_one {xs : List Du} {nx : Int} (h : GoodS xs nx) {day : Int} {k : Nat} (hk : k < (expD xs day).length) : subId xs ((expD xs day)[k]).id xs.length = ((expD xs day)[k]).x := by
  unfold subId
  rw [List.take_length]
  have hm : (expD xs day)[k] ∈ expD xs day := List.getElem_mem hk
  exact one_id h.up (List.mem_filter.1 hm).1
theorem sub0 (xs : List Du) (id : Int) : subId xs id 0 = 0 := by simp [subId, sumX]
theorem sumX0 (xs : List Du) : sumX (xs.take 0) = 0 := by simp [sumX]
end Go.DuesP
