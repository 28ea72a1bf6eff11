/-
  What DuesParts does, plainly.
-/
import Derived.Test.YthcmkljdhhepgaaUdStep
set_option linter.unusedVariables false
set_option linter.unusedSimpArgs false
namespace Go.DuesP
open Go Go.Mem Go.BuildP Go.MoneyP
/-- The dues while one is paid in parts: x is left of it. -/
def curL (xs : List Du) (d : Du) (x : Int) (h : Bool) : List Du := xs ++ (if x = 0 then [] else [{ d with x := x, h := h }])
theorem cur_0 (xs : List Du) (d : Du) (h : Bool) : curL xs d 0 h = xs := by unfold curL; rw [if_pos rfl, List.append_nil]
theorem cur_x {xs : List Du} {d : Du} {x : Int} {h : Bool} (hx : x ≠ 0) : curL xs d x h = xs ++ [{ d with x := x, h := h }] := by unfold curL; rw [if_neg hx]
theorem idx_last {xs : List Du} {d : Du} (hl : ∀ e ∈ xs, e.id ≠ d.id) : idx (xs ++ [d]) d.id = some xs.length := by
  unfold idx
  rw [List.findIdx?_append, List.findIdx?_eq_none_iff.2 (fun e he => by simpa using hl e he)]
  simp
theorem idx_gone {xs : List Du} {id : Int} (hl : ∀ e ∈ xs, e.id ≠ id) : idx xs id = none := by
  unfold idx
  exact List.findIdx?_eq_none_iff.2 (fun e he => by simpa using hl e he)
theorem last_getD (xs : List Du) (d : Du) : (xs ++ [d]).getD xs.length default = d := by simp
theorem last_erase (xs : List Du) (d : Du) : (xs ++ [d]).eraseIdx xs.length = xs := by
  rw [List.eraseIdx_append_of_length_le (Nat.le_refl _), Nat.sub_self]; simp
theorem last_set (xs : List Du) (d e : Du) : (xs ++ [d]).set xs.length e = xs ++ [e] := by
  rw [List.set_append_right _ _ (Nat.le_refl _), Nat.sub_self]; rfl
def wantE (x : Int) (h : Bool) (p : Int) : Int := if x = 0 then 11 else if h = true then 14 else if x < p then 12 else 0
def nextX (x : Int) (h : Bool) (p : Int) : Int := if wantE x h p = 0 then x - p else x
theorem pay_cur {xs : List Du} {d : Du} {nx x p : Int} {h : Bool} (hid : d.id = nx) (hl : ∀ e ∈ xs, e.id < nx) (hp : 0 ≤ p) :
    turnE (payF p) (curL xs d x h) nx = wantE x h p ∧ turnS (payF p) (curL xs d x h) nx = curL xs d (nextX x h p) h := by
  have hl2 : ∀ e ∈ xs, e.id ≠ nx := fun e he => by have := hl e he; omega
  by_cases hx : x = 0
  · subst hx
    rw [cur_0]
    have h1 : wantE 0 h p = 11 := by unfold wantE; rw [if_pos rfl]
    have h2 : nextX 0 h p = 0 := by unfold nextX; rw [h1, if_neg (by decide)]
    rw [h1, h2, cur_0]
    unfold turnE turnS
    rw [idx_gone hl2]
    exact ⟨rfl, rfl⟩
  · rw [cur_x hx]
    have hi : idx (xs ++ [{ d with x := x, h := h }]) nx = some xs.length := by
      subst hid
      exact idx_last (d := { d with x := x, h := h }) (xs := xs) hl2
    unfold turnE turnS
    rw [hi]
    dsimp only
    rw [last_getD]
    by_cases hh : h = true
    · have h1 : wantE x h p = 14 := by unfold wantE; rw [if_neg hx, if_pos hh]
      have h2 : nextX x h p = x := by unfold nextX; rw [h1, if_neg (by decide)]
      have h3 : payF p { d with x := x, h := h } = (14, { d with x := x, h := h }) := by unfold payF; rw [if_neg (by omega), if_pos hh]
      rw [h1, h2, h3, cur_x hx, if_pos (by simp)]
      exact ⟨rfl, rfl⟩
    · by_cases hq : x < p
      · have h1 : wantE x h p = 12 := by unfold wantE; rw [if_neg hx, if_neg hh, if_pos hq]
        have h2 : nextX x h p = x := by unfold nextX; rw [h1, if_neg (by decide)]
        have h3 : payF p { d with x := x, h := h } = (12, { d with x := x, h := h }) := by unfold payF; rw [if_neg (by omega), if_neg hh, if_pos hq]
        rw [h1, h2, h3, cur_x hx, if_pos (by simp)]
        exact ⟨rfl, rfl⟩
      · have h1 : wantE x h p = 0 := by unfold wantE; rw [if_neg hx, if_neg hh, if_neg hq]
        have h2 : nextX x h p = x - p := by unfold nextX; rw [h1, if_pos rfl]
        have h3 : payF p { d with x := x, h := h } = (0, { d with x := x - p, h := h }) := by unfold payF; rw [if_neg (by omega), if_neg hh, if_neg hq]
        rw [h1, h2, h3, if_neg (by simp)]
        refine ⟨rfl, ?_⟩
        by_cases hz : x - p = 0
        · rw [if_pos hz, hz, cur_0, last_erase]
        · rw [if_neg hz, cur_x hz, last_set]
theorem held_cur {xs : List Du} {d : Du} {nx : Int} (hid : d.id = nx) (hl : ∀ e ∈ xs, e.id < nx) (hx : d.x ≠ 0) (hh : d.h = false) :
    turnE (heldF true) (xs ++ [d]) nx = 0 ∧ turnS (heldF true) (xs ++ [d]) nx = curL xs d d.x true := by
  have hl2 : ∀ e ∈ xs, e.id ≠ d.id := fun e he => by have := hl e he; omega
  unfold turnE turnS
  rw [← hid, idx_last hl2]
  dsimp only
  rw [last_getD, show heldF true d = (0, { d with h := true }) by unfold heldF; rw [if_neg (by rw [hh]; simp)], if_neg (by simp), if_neg hx, last_set, cur_x hx]
  exact ⟨rfl, rfl⟩
theorem cur_start {xs : List Du} {d : Du} (hx : d.x ≠ 0) (hh : d.h = false) : xs ++ [d] = curL xs d d.x false := by
  rw [cur_x hx]
  obtain ⟨a1, a2, a3, a4, a5, a6, a7⟩ := d
  dsimp only at hh
  subst hh
  rfl
theorem get_cur {xs : List Du} {d : Du} {nx x : Int} {h : Bool} (hid : d.id = nx) (hl : ∀ e ∈ xs, e.id < nx) :
    (x = 0 → getB (curL xs d x h) nx = false ∧ getV (curL xs d x h) nx = default) ∧ (x ≠ 0 → getB (curL xs d x h) nx = true ∧ getV (curL xs d x h) nx = { d with x := x, h := h }) := by
  have hl2 : ∀ e ∈ xs, e.id ≠ nx := fun e he => by have := hl e he; omega
  constructor
  · intro hx
    subst hx
    rw [cur_0]
    unfold getB getV
    rw [idx_gone hl2]
    exact ⟨rfl, rfl⟩
  · intro hx
    have hi : idx (curL xs d x h) nx = some xs.length := by
      rw [cur_x hx]
      subst hid
      exact idx_last (d := { d with x := x, h := h }) (xs := xs) hl2
    unfold getB getV
    rw [hi]
    refine ⟨rfl, ?_⟩
    dsimp only
    rw [cur_x hx, last_getD]
theorem cur_good {xs : List Du} {d : Du} {nx x : Int} {h : Bool} (hg : GoodS (xs ++ [d]) nx) (h0 : 0 ≤ x) (h1 : x ≤ d.x) : GoodS (curL xs d x h) nx := by
  by_cases hx : x = 0
  · subst hx
    rw [cur_0]
    exact hg.sub (List.sublist_append_left _ _)
  · rw [cur_x hx, ← last_set xs d { d with x := x, h := h }]
    have hj : xs.length < (xs ++ [d]).length := by simp
    have hat : (xs ++ [d])[xs.length] = d := by simp
    have hm := (mayD_iff d).1 (hg.ok d (by simp)).1
    obtain ⟨a1, a2, a3, a4, a5, a6, a7, a8, a9, a10⟩ := hm
    refine hg.put hj (by rw [hat]) ((mayD_iff _).2 ⟨a1, a2, a3, a4, a5, by show 1 ≤ x; omega, by show x ≤ _; omega, a8, a9, a10⟩) (by rw [hat]; exact h1)
theorem cur_sum {xs : List Du} {d : Du} {x : Int} {h : Bool} : sumX (curL xs d x h) = sumX xs + x := by
  by_cases hx : x = 0
  · subst hx; rw [cur_0]; omega
  · rw [cur_x hx, sumX_app, sumX_one]
theorem cur_len {xs : List Du} {d : Du} {x : Int} {h : Bool} : (curL xs d x h).length ≤ xs.length + 1 := by
  unfold curL
  split <;> simp
theorem next_ok {x : Int} {h : Bool} {p : Int} (h0 : 0 ≤ x) (hp : 0 ≤ p) : 0 ≤ nextX x h p ∧ nextX x h p ≤ x := by
  unfold nextX
  split
  · rename_i hw
    unfold wantE at hw
    split at hw
    · cases hw
    · split at hw
      · cases hw
      · split at hw
        · cases hw
        · omega
  · omega
/-- That an Add goes. -/
theorem add_goes {xs : List Du} {nx : Int} {d : Du} (hg : GoodS xs nx) (hm : MayD d) (hl : xs.length < 64) (hn : nx < 4611686018427387904) (hs : sumX xs + d.x ≤ 4503599627370496) : addE xs nx d = 0 := by
  unfold addE
  rw [if_neg (by rw [(mayD_iff d).2 hm]; simp), if_neg (by omega)]
  have h1 : mays (xs.map (·.x) ++ [d.x]) = true := by
    rw [mays_iff]
    intro y hy
    rcases List.mem_append.1 hy with q | q
    · exact (mays_iff _).1 hg.mays y q
    · rw [List.mem_singleton.1 q]; have := hm.x0; have := hm.x1; omega
  exact (sum_ok h1 (by rw [List.sum_append]; simpa [sumX] using hs)).2
theorem add_is {xs : List Du} {nx : Int} {d : Du} (h : addE xs nx d = 0) : addI xs nx d = nx ∧ addS xs nx d = xs ++ [d] ∧ addN xs nx d = nx + 1 := by
  unfold addI addS addN; rw [h]; exact ⟨if_pos rfl, if_pos rfl, if_pos rfl⟩
theorem exp_len_eq (xs : List Du) (day : Int) : (expS xs day).length + (expI xs day).length = xs.length := by
  induction xs with
  | nil => rfl
  | cons d l ih =>
    unfold expS expI at *
    simp only [List.filter_cons, List.length_map] at *
    by_cases h : d.u < day
    · simp [h]; omega
    · simp [h]; omega
def overN (xs : List Du) (day : Int) (j : Nat) : Nat := (expI (xs.take j) day).length
theorem over_step {xs : List Du} {day : Int} {j : Nat} (hj : j < xs.length) : overN xs day (j + 1) = overN xs day j + if (xs[j]).u < day then 1 else 0 := by
  unfold overN expI
  rw [List.take_succ_eq_append_getElem hj, List.filter_append, List.map_append, List.length_append]
  congr 1
  rw [List.filter_cons]
  by_cases h : (xs[j]).u < day
  · rw [if_pos (by simpa using h), if_pos h]; rfl
  · rw [if_neg (by simpa using h), if_neg h]; rfl
end Go.DuesP
