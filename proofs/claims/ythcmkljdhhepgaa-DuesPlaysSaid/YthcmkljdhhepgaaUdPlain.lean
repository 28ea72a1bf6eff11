/-
  Package dues: what is done to dues, plainly. No program in sight.
-/
import Derived.Test.YthcmkljdhhepgaaBB
set_option linter.unusedVariables false
set_option linter.unusedSimpArgs false
namespace Go.DuesP
open Go Go.BuildP Go.MoneyP
structure GoodS (xs : List Du) (nx : Int) : Prop where
  up : xs.Pairwise (fun a b => a.id < b.id)
  ok : ∀ d ∈ xs, mayD d = true ∧ 1 ≤ d.id ∧ d.id < nx
  n1 : 1 ≤ nx
  n2 : nx ≤ 4611686018427387904
  len : xs.length ≤ 64
  sum : (xs.map (·.x)).sum ≤ 4503599627370496
/-- The error of an Add. -/
def addE (xs : List Du) (nx : Int) (d : Du) : Int := if mayD d = false then 1 else if 64 ≤ xs.length ∨ 4611686018427387904 ≤ nx then 6 else sumE (xs.map (·.x) ++ [d.x])
def addS (xs : List Du) (nx : Int) (d : Du) : List Du := if addE xs nx d = 0 then xs ++ [d] else xs
def addN (xs : List Du) (nx : Int) (d : Du) : Int := if addE xs nx d = 0 then nx + 1 else nx
def addI (xs : List Du) (nx : Int) (d : Du) : Int := if addE xs nx d = 0 then nx else 0
/-- The place of an id. -/
def idx (xs : List Du) (id : Int) : Option Nat := xs.findIdx? (fun d => d.id == id)
theorem idx_cases (xs : List Du) (id : Int) : (idx xs id = none ∧ ∀ d ∈ xs, d.id ≠ id) ∨ ∃ (j : Nat) (hj : j < xs.length), idx xs id = some j ∧ (xs[j]).id = id ∧ ∀ k (hk : k < j), (xs[k]'(by omega)).id ≠ id := by
  cases h : idx xs id with
  | none =>
    refine .inl ⟨rfl, fun d hd => ?_⟩
    have := List.findIdx?_eq_none_iff.1 h d hd
    simpa using this
  | some j =>
    obtain ⟨hj, h1, h2⟩ := List.findIdx?_eq_some_iff_getElem.1 h
    exact .inr ⟨j, hj, rfl, by simpa using h1, fun k hk => by simpa using h2 k hk⟩
/-- A change of one due: its error; without an amount it is gone. -/
def turnE (f : Du → Int × Du) (xs : List Du) (id : Int) : Int := match idx xs id with
  | none => 11
  | some j => (f (xs.getD j default)).1
def turnS (f : Du → Int × Du) (xs : List Du) (id : Int) : List Du := match idx xs id with
  | none => xs
  | some j => if (f (xs.getD j default)).1 ≠ 0 then xs else if (f (xs.getD j default)).2.x = 0 then xs.eraseIdx j else xs.set j (f (xs.getD j default)).2
def heldF (is : Bool) (d : Du) : Int × Du := if d.h = is then (14, d) else (0, { d with h := is })
def cancelF (d : Du) : Int × Du := (0, { d with x := 0 })
def payF (x : Int) (d : Du) : Int × Du := if x < 0 then (1, d) else if d.h = true then (14, d) else if d.x < x then (12, d) else (0, { d with x := d.x - x })
def expI (xs : List Du) (day : Int) : List Int := (xs.filter fun d => decide (d.u < day)).map (·.id)
def expS (xs : List Du) (day : Int) : List Du := xs.filter fun d => !decide (d.u < day)
def getV (xs : List Du) (id : Int) : Du := match idx xs id with
  | none => default
  | some j => xs.getD j default
def getB (xs : List Du) (id : Int) : Bool := (idx xs id).isSome
def gross (xs : List Du) : Int := sumV (xs.map (·.x))
/-! ### The changes keep what is good. -/
theorem GoodS.nil : GoodS [] 1 := ⟨List.Pairwise.nil, fun d h => (by cases h), by decide, by decide, by decide, by decide⟩
theorem GoodS.mays {xs : List Du} {nx : Int} (h : GoodS xs nx) : mays (xs.map (·.x)) = true := by
  rw [mays_iff]
  intro x hx
  obtain ⟨d, hd, rfl⟩ := List.mem_map.1 hx
  have := (mayD_iff d).1 (h.ok d hd).1
  exact ⟨by have := this.x0; omega, this.x1⟩
theorem GoodS.gross {xs : List Du} {nx : Int} (h : GoodS xs nx) : gross xs = (xs.map (·.x)).sum := (sum_ok h.mays h.sum).1
theorem GoodS.nodup {xs : List Du} {nx : Int} (h : GoodS xs nx) : (xs.map Du.id).Nodup := by
  rw [List.nodup_iff_pairwise_ne, List.pairwise_map]
  exact h.up.imp fun hab => by omega
theorem GoodS.rising {xs : List Du} {nx : Int} (h : GoodS xs nx) : (xs.map Du.id).Pairwise (· < ·) := by
  rw [List.pairwise_map]; exact h.up
theorem pos_sub {xs ys : List Du} (hs : ys.Sublist xs) (h : ∀ d ∈ xs, 0 ≤ d.x) : (ys.map (·.x)).sum ≤ (xs.map (·.x)).sum := by
  induction hs with
  | slnil => exact Int.le_refl _
  | cons a _ ih => have := ih fun d hd => h d (List.mem_cons_of_mem _ hd); have h2 := h a List.mem_cons_self; simp only [List.map_cons, List.sum_cons]; omega
  | cons_cons a _ ih => have := ih fun d hd => h d (List.mem_cons_of_mem _ hd); simp only [List.map_cons, List.sum_cons]; omega
theorem GoodS.x0 {xs : List Du} {nx : Int} (h : GoodS xs nx) (d : Du) (hd : d ∈ xs) : 1 ≤ d.x := ((mayD_iff d).1 (h.ok d hd).1).x0
theorem GoodS.sub {xs ys : List Du} {nx : Int} (h : GoodS xs nx) (hs : ys.Sublist xs) : GoodS ys nx :=
  ⟨h.up.sublist hs, fun d hd => h.ok d (hs.subset hd), h.n1, h.n2, Nat.le_trans hs.length_le h.len, Int.le_trans (pos_sub hs fun d hd => by have := h.x0 d hd; omega) h.sum⟩
theorem set_map_id {xs : List Du} {j : Nat} (hj : j < xs.length) {d : Du} (hd : d.id = (xs[j]).id) : (xs.set j d).map Du.id = xs.map Du.id := by
  rw [List.map_set, hd]
  have : (xs.map Du.id)[j]? = some (xs[j]).id := by rw [List.getElem?_map, List.getElem?_eq_getElem hj]; rfl
  obtain ⟨hlt, he⟩ := List.getElem?_eq_some_iff.1 this
  rw [← he]
  exact List.set_getElem_self _
theorem set_sum (xs : List Int) (j : Nat) (hj : j < xs.length) (x : Int) : (xs.set j x).sum = xs.sum - xs[j] + x := by
  induction xs generalizing j with
  | nil => simp at hj
  | cons a l ih =>
    cases j with
    | zero => simp; omega
    | succ j => simp only [List.set_cons_succ, List.sum_cons, List.getElem_cons_succ]; rw [ih j (by simpa using hj)]; omega
theorem GoodS.put {xs : List Du} {nx : Int} (h : GoodS xs nx) {j : Nat} (hj : j < xs.length) {d : Du} (hd : d.id = (xs[j]).id) (hm : mayD d = true) (hx : d.x ≤ (xs[j]).x) : GoodS (xs.set j d) nx := by
  refine ⟨?_, fun e he => ?_, h.n1, h.n2, by rw [List.length_set]; exact h.len, ?_⟩
  · have := h.rising
    rw [← set_map_id hj hd, List.pairwise_map] at this
    exact this
  · rcases List.mem_or_eq_of_mem_set he with q | rfl
    · exact h.ok e q
    · refine ⟨hm, ?_⟩
      rw [hd]
      exact (h.ok _ (List.getElem_mem hj)).2
  · rw [List.map_set, set_sum _ j (by rw [List.length_map]; exact hj)]
    have := h.sum
    rw [List.getElem_map]
    omega
theorem GoodS.add {xs : List Du} {nx : Int} (h : GoodS xs nx) {d : Du} (hd : d.id = nx) (he : addE xs nx d = 0) : GoodS (xs ++ [d]) (nx + 1) := by
  unfold addE at he
  split at he
  · cases he
  rename_i h1
  split at he
  · cases he
  rename_i h2
  have hm : mayD d = true := by simpa using h1
  have hn1 := h.n1
  have hlen := h.len
  refine ⟨?_, fun e hq => ?_, by omega, by omega, by rw [List.length_append, List.length_singleton]; omega, ?_⟩
  · rw [List.pairwise_append]
    refine ⟨h.up, List.pairwise_singleton _ _, fun a ha b hb => ?_⟩
    rw [List.mem_singleton.1 hb, hd]
    exact (h.ok a ha).2.2
  · rcases List.mem_append.1 hq with q | q
    · have := h.ok e q; exact ⟨this.1, this.2.1, by omega⟩
    · rw [List.mem_singleton.1 q]; exact ⟨hm, by omega, by omega⟩
  · unfold sumE at he
    split at he
    · split at he
      · rename_i h3; simpa using h3
      · cases he
    · cases he
theorem GoodS.addS {xs : List Du} {nx : Int} (h : GoodS xs nx) {d : Du} (hd : d.id = nx) : GoodS (addS xs nx d) (addN xs nx d) := by
  unfold DuesP.addS addN
  split
  · exact h.add hd (by assumption)
  · exact h
/-- What a change of one due may do. -/
def Fine (f : Du → Int × Du) : Prop := ∀ d, mayD d = true → (f d).2.id = d.id ∧ (f d).2.x ≤ d.x ∧ ((f d).2.x ≠ 0 → (f d).1 = 0 → mayD (f d).2 = true)
theorem mayD_h (d : Du) (b : Bool) : mayD { d with h := b } = mayD d := rfl
theorem fine_held (is : Bool) : Fine (heldF is) := by
  intro d hd
  unfold heldF
  split
  · exact ⟨rfl, Int.le_refl _, fun _ _ => hd⟩
  · exact ⟨rfl, Int.le_refl _, fun _ _ => hd⟩
theorem fine_cancel : Fine cancelF := fun d hd => ⟨rfl, by have := ((mayD_iff d).1 hd).x0; show (0 : Int) ≤ d.x; omega, fun h => absurd rfl h⟩
theorem fine_pay (x : Int) : Fine (payF x) := by
  intro d hd
  unfold payF
  split
  · exact ⟨rfl, Int.le_refl _, fun _ _ => hd⟩
  · split
    · exact ⟨rfl, Int.le_refl _, fun _ _ => hd⟩
    · split
      · exact ⟨rfl, Int.le_refl _, fun _ _ => hd⟩
      · refine ⟨rfl, by show d.x - x ≤ d.x; omega, fun h _ => ?_⟩
        have hm := (mayD_iff d).1 hd
        obtain ⟨a1, a2, a3, a4, a5, a6, a7, a8, a9, a10⟩ := hm
        exact (mayD_iff _).2 ⟨a1, a2, a3, a4, a5, by show 1 ≤ d.x - x; have : d.x - x ≠ 0 := h; omega, by show d.x - x ≤ _; omega, a8, a9, a10⟩
theorem GoodS.turn {f : Du → Int × Du} (hf : Fine f) {xs : List Du} {nx : Int} (h : GoodS xs nx) (id : Int) : GoodS (turnS f xs id) nx := by
  rcases idx_cases xs id with ⟨h1, _⟩ | ⟨j, hj, h1, h2, _⟩
  · unfold turnS; rw [h1]; exact h
  · unfold turnS
    rw [h1]
    dsimp only
    have hg : xs.getD j default = xs[j] := by rw [List.getD_eq_getElem?_getD, List.getElem?_eq_getElem hj]; rfl
    rw [hg]
    have h3 := hf (xs[j]) (h.ok _ (List.getElem_mem hj)).1
    split
    · exact h
    · split
      · exact h.sub (List.eraseIdx_sublist _ _)
      · rename_i h4 h5
        exact h.put hj h3.1 (h3.2.2 h5 (by omega)) h3.2.1
theorem GoodS.exp {xs : List Du} {nx : Int} (h : GoodS xs nx) (day : Int) : GoodS (expS xs day) nx := h.sub List.filter_sublist
end Go.DuesP
