/-
  Package build: open, right, walked.
-/
import Derived.Test.YthcmkljdhhepgaaBPlain
import Derived.Test.YthcmkljdhhepgaaMA
import Derived.Test.YthcmkljdhhepgaaMRefW
import Derived.Test.YthcmkljdhhepgaaWn
import Derived.Test.YthcmkljdhhepgaaLB
import Derived.Test.YthcmkljdhhepgaaLA
import Derived.Test.YthcmkljdhhepgaaObj
import Derived.WalkSpells
import Derived.Shelf.Abstract
set_option linter.unusedVariables false
set_option linter.unusedSimpArgs false
namespace Go.Proofs.Ythcmkljdhhepgaa
open Go Go.RowKit Go.Mem Go.MoneyP Go.NetP Go.BuildP

theorem Try.infoDu : (Try.prog.info? 36).map (fun i => (i.zero, i.size, i.bytes)) = some (some (.agg #[.int .u64 0, .int .i64 0, .int .i64 0, .int .i64 0, .int .i64 0, .int .i64 0, .bool false]), 7, 56) := by kernel_rfl
set_option maxHeartbeats 1000000 in
theorem bank_any (k : Int) (w : World) : Calls Try.prog 46 #[.int .i64 k] w fun en w' => en = .returned (.bool (bankB k)) ∧ w' = w := by
  by_cases h0 : 0 ≤ k
  · by_cases h1 : k < 16
    · have H := Lib.hid (show bankB k = true by simp [bankB, h0, h1])
      have e0 : decide (0 ≤ k) = true := decide_eq_true h0
      have e1 : decide (k < 16) = true := decide_eq_true h1
      clear h0 h1
      go_enter Try.func46, Try.ntmps46
      go_wp2_with fail
      go_ret
      exact ⟨by rw [H.out]; rfl, rfl⟩
    · have H := Lib.hid (show bankB k = false by simp [bankB, h1])
      have e0 : decide (0 ≤ k) = true := decide_eq_true h0
      have e1 : decide (k < 16) = false := decide_eq_false h1
      clear h0 h1
      go_enter Try.func46, Try.ntmps46
      go_wp2_with fail
      go_ret
      exact ⟨by rw [H.out]; rfl, rfl⟩
  · have H := Lib.hid (show bankB k = false by simp [bankB, h0])
    have e0 : decide (0 ≤ k) = false := decide_eq_false h0
    clear h0
    go_enter Try.func46, Try.ntmps46
    go_wp2_with fail
    go_ret
    exact ⟨by rw [H.out]; rfl, rfl⟩
set_option maxHeartbeats 2000000 in
theorem dmay_any (d : Du) (w : World) : Calls Try.prog 26 #[d.val] w fun en w' => en = .returned (.bool (mayD d)) ∧ Below w.heap.size w w' := by
  obtain ⟨id, f, t, x, we, u, h⟩ := d
  dsimp only [Du.val]
  have hs := (Sep.start w).newCells #[.int .u64 id, .int .i64 f, .int .i64 t, .int .i64 x, .int .i64 we, .int .i64 u, .bool h] 36
  have q0 := cell_of (hs.cells 0 rfl) 0
  have q1 := cell_of (hs.cells 0 rfl) 1
  have q2 := cell_of (hs.cells 0 rfl) 2
  have q3 := cell_of (hs.cells 0 rfl) 3
  have q4 := cell_of (hs.cells 0 rfl) 4
  have q5 := cell_of (hs.cells 0 rfl) 5
  have q6 := cell_of (hs.cells 0 rfl) 6
  simp only [List.getElem?_toArray, List.getElem?_cons_zero, List.getElem?_cons_succ] at q0 q1 q2 q3 q4 q5 q6
  go_enter Try.func26, Try.ntmps26
  go_wp2_with fail
  refine (bank_any f _).mono ?_
  rintro en w1 ⟨rfl, rfl⟩
  cases hb1 : bankB f
  · have H := Lib.hid (show mayD ⟨id, f, t, x, we, u, h⟩ = false by simp [mayD, hb1])
    go_wp2_with fail
    go_ret
    exact ⟨by rw [H.out]; rfl, hs.below⟩
  have HB1 := Lib.hid hb1
  clear hb1
  go_wp2_with fail
  refine (bank_any t _).mono ?_
  rintro en w1 ⟨rfl, rfl⟩
  cases hb2 : bankB t
  · have H := Lib.hid (show mayD ⟨id, f, t, x, we, u, h⟩ = false by simp [mayD, hb2])
    go_wp2_with fail
    go_ret
    exact ⟨by rw [H.out]; rfl, hs.below⟩
  have HB2 := Lib.hid hb2
  clear hb2
  by_cases hft : f = t
  · have e1 : (f == t) = true := by simpa using hft
    have HFT := Lib.hid hft
    clear hft
    have H := Lib.hid (show mayD ⟨id, f, t, x, we, u, h⟩ = false by simp [mayD, HFT.out])
    go_wp2_with fail
    go_ret
    exact ⟨by rw [H.out]; rfl, hs.below⟩
  have e1 : (f == t) = false := by simpa using hft
  have HFT := Lib.hid hft
  clear hft
  by_cases hx : 1 ≤ x
  rotate_left
  · have e2 : decide (x < 1) = true := decide_eq_true (by omega)
    have HX := Lib.hid hx
    clear hx
    have H := Lib.hid (show mayD ⟨id, f, t, x, we, u, h⟩ = false by simp [mayD, HX.out])
    go_wp2_with fail
    go_ret
    exact ⟨by rw [H.out]; rfl, hs.below⟩
  have e2 : decide (x < 1) = false := decide_eq_false (by omega)
  have HX := Lib.hid hx
  clear hx
  go_wp2_with fail
  refine (may_any x _).mono ?_
  rintro en w1 ⟨rfl, rfl⟩
  cases hm : mayB x
  · have H := Lib.hid (show mayD ⟨id, f, t, x, we, u, h⟩ = false by simp [mayD, hm])
    go_wp2_with fail
    go_ret
    exact ⟨by rw [H.out]; rfl, hs.below⟩
  have HM := Lib.hid hm
  clear hm
  by_cases hw : 1 ≤ we
  rotate_left
  · have e3 : decide (we < 1) = true := decide_eq_true (by omega)
    have HW := Lib.hid hw
    clear hw
    have H := Lib.hid (show mayD ⟨id, f, t, x, we, u, h⟩ = false by simp [mayD, HW.out])
    go_wp2_with fail
    go_ret
    exact ⟨by rw [H.out]; rfl, hs.below⟩
  have e3 : decide (we < 1) = false := decide_eq_false (by omega)
  have HW := Lib.hid hw
  clear hw
  by_cases hw2 : we ≤ 1000
  rotate_left
  · have e4 : decide (1000 < we) = true := decide_eq_true (by omega)
    have HW2 := Lib.hid hw2
    clear hw2
    have H := Lib.hid (show mayD ⟨id, f, t, x, we, u, h⟩ = false by simp [mayD, HW2.out])
    go_wp2_with fail
    go_ret
    exact ⟨by rw [H.out]; rfl, hs.below⟩
  have e4 : decide (1000 < we) = false := decide_eq_false (by omega)
  have HW2 := Lib.hid hw2
  clear hw2
  by_cases hu : 0 ≤ u
  rotate_left
  · have e5 : decide (u < 0) = true := decide_eq_true (by omega)
    have HU := Lib.hid hu
    clear hu
    have H := Lib.hid (show mayD ⟨id, f, t, x, we, u, h⟩ = false by simp [mayD, HU.out])
    go_wp2_with fail
    go_ret
    exact ⟨by rw [H.out]; rfl, hs.below⟩
  have e5 : decide (u < 0) = false := decide_eq_false (by omega)
  have H := Lib.hid (show mayD ⟨id, f, t, x, we, u, h⟩ = true by simp [mayD, HB1.out, HB2.out, HFT.out, HX.out, HM.out, HW.out, HW2.out, hu])
  go_wp2_with fail
  go_ret
  exact ⟨by rw [H.out]; rfl, hs.below⟩
end Go.Proofs.Ythcmkljdhhepgaa
namespace Go.BuildP
open Go Go.RowKit Go.Mem Go.MoneyP Go.NetP
theorem open_step {l : List Du} {i : Nat} (hi : i < l.length) : openL (l.take (i + 1)) = openL (l.take i) ++ if (l[i]).h then [] else [l[i]] := by
  rw [List.take_succ_eq_append_getElem hi]
  unfold openL
  rw [List.filter_append]
  congr 1
  cases hh : (l[i]).h <;> simp [List.filter_cons, hh]
theorem open_le (l : List Du) : (openL l).length ≤ l.length := List.length_filter_le _ _
def goodD (n : Nat) (d : Du) : Bool := mayD d && inD n d
theorem good_step {n : Nat} {l : List Du} {i : Nat} (hi : i < l.length) (h : (l.take i).all (goodD n) = true) (hx : goodD n (l[i]) = true) : (l.take (i + 1)).all (goodD n) = true := by
  rw [List.take_succ_eq_append_getElem hi, List.all_append, h]
  simp [hx]
theorem good_stop {rooms : List Int} {l : List Du} {i : Nat} (hi : i < l.length) (hx : goodD rooms.length (l[i]) = false) : rightR rooms l = false := by
  have : l.all (fun d => mayD d && inD rooms.length d) = false := by
    rw [List.all_eq_false]
    exact ⟨_, List.getElem_mem hi, by simpa [goodD] using hx⟩
  simp [rightR, this]
theorem amt_step {l : List Du} {i : Nat} (hi : i < l.length) : (l.take (i + 1)).map (·.x) = (l.take i).map (·.x) ++ [(l[i]).x] := by
  rw [List.take_succ_eq_append_getElem hi, List.map_append]; rfl
theorem right_end {rooms : List Int} {l : List Du} (h1 : rooms.length ≤ 16) (h2 : l.length ≤ 64) (h3 : mays rooms = true) (h4 : l.all (goodD rooms.length) = true) : rightR rooms l = (sumE (l.map (·.x)) == 0) := by
  have hm : mays (l.map (·.x)) = true := by
    rw [mays_iff]
    intro x hx
    obtain ⟨d, hd, rfl⟩ := List.mem_map.1 hx
    have := (List.all_eq_true.1 h4) d hd
    unfold goodD at this
    have hm := (mayD_iff d).1 ((Bool.and_eq_true _ _).mp this).1
    have := hm.x0
    exact ⟨by omega, hm.x1⟩
  have h5 : l.all (fun d => mayD d && inD rooms.length d) = true := h4
  unfold rightR
  rw [decide_eq_true h1, decide_eq_true h2, h3, h5]
  unfold sumE
  rw [if_pos hm]
  by_cases hs : (l.map (·.x)).sum ≤ 4503599627370496
  · simp [hs]
  · simp [hs]
end Go.BuildP
namespace Go.Proofs.Ythcmkljdhhepgaa
open Go Go.RowKit Go.Mem Go.MoneyP Go.NetP Go.BuildP
set_option maxHeartbeats 2000000 in
theorem rmayD_any (d : Du) (w : World) : Calls Try.prog 35 #[d.val] w fun en w' => en = .returned (.bool (mayD d)) ∧ Below w.heap.size w w' := by
  obtain ⟨id, f, t, x, we, u, h⟩ := d
  dsimp only [Du.val]
  have hs := (Sep.start w).newCells #[.int .u64 id, .int .i64 f, .int .i64 t, .int .i64 x, .int .i64 we, .int .i64 u, .bool h] 36
  have q0 := cell_of (hs.cells 0 rfl) 0
  have q1 := cell_of (hs.cells 0 rfl) 1
  have q2 := cell_of (hs.cells 0 rfl) 2
  have q3 := cell_of (hs.cells 0 rfl) 3
  have q4 := cell_of (hs.cells 0 rfl) 4
  have q5 := cell_of (hs.cells 0 rfl) 5
  have q6 := cell_of (hs.cells 0 rfl) 6
  simp only [List.getElem?_toArray, List.getElem?_cons_zero, List.getElem?_cons_succ] at q0 q1 q2 q3 q4 q5 q6
  go_enter Try.func35, Try.ntmps35
  by_cases a0 : 0 ≤ f
  rotate_left
  · have ea0 : decide (0 ≤ f) = false := decide_eq_false (by omega)
    have HH := Lib.hid a0
    clear a0
    have H := Lib.hid (show mayD ⟨id, f, t, x, we, u, h⟩ = false by simp [mayD, bankB, HH.out])
    go_wp2_with fail
    go_ret
    exact ⟨by rw [H.out]; rfl, hs.below⟩
  have ea0 : decide (0 ≤ f) = true := decide_eq_true (by omega)
  have Ha0 := Lib.hid a0
  clear a0
  by_cases a1 : f < 16
  rotate_left
  · have ea1 : decide (f < 16) = false := decide_eq_false (by omega)
    have HH := Lib.hid a1
    clear a1
    have H := Lib.hid (show mayD ⟨id, f, t, x, we, u, h⟩ = false by simp [mayD, bankB, HH.out])
    go_wp2_with fail
    go_ret
    exact ⟨by rw [H.out]; rfl, hs.below⟩
  have ea1 : decide (f < 16) = true := decide_eq_true (by omega)
  have Ha1 := Lib.hid a1
  clear a1
  by_cases a2 : 0 ≤ t
  rotate_left
  · have ea2 : decide (0 ≤ t) = false := decide_eq_false (by omega)
    have HH := Lib.hid a2
    clear a2
    have H := Lib.hid (show mayD ⟨id, f, t, x, we, u, h⟩ = false by simp [mayD, bankB, HH.out])
    go_wp2_with fail
    go_ret
    exact ⟨by rw [H.out]; rfl, hs.below⟩
  have ea2 : decide (0 ≤ t) = true := decide_eq_true (by omega)
  have Ha2 := Lib.hid a2
  clear a2
  by_cases a3 : t < 16
  rotate_left
  · have ea3 : decide (t < 16) = false := decide_eq_false (by omega)
    have HH := Lib.hid a3
    clear a3
    have H := Lib.hid (show mayD ⟨id, f, t, x, we, u, h⟩ = false by simp [mayD, bankB, HH.out])
    go_wp2_with fail
    go_ret
    exact ⟨by rw [H.out]; rfl, hs.below⟩
  have ea3 : decide (t < 16) = true := decide_eq_true (by omega)
  have Ha3 := Lib.hid a3
  clear a3
  by_cases hft : f = t
  · have e1 : (f != t) = false := by simpa using hft
    have HFT := Lib.hid hft
    clear hft
    have H := Lib.hid (show mayD ⟨id, f, t, x, we, u, h⟩ = false by simp [mayD, bankB, HFT.out])
    go_wp2_with fail
    go_ret
    exact ⟨by rw [H.out]; rfl, hs.below⟩
  have e1 : (f != t) = true := by simpa using hft
  have HFT := Lib.hid hft
  clear hft
  by_cases a4 : 1 ≤ x
  rotate_left
  · have ea4 : decide (1 ≤ x) = false := decide_eq_false (by omega)
    have HH := Lib.hid a4
    clear a4
    have H := Lib.hid (show mayD ⟨id, f, t, x, we, u, h⟩ = false by simp [mayD, bankB, HH.out])
    go_wp2_with fail
    go_ret
    exact ⟨by rw [H.out]; rfl, hs.below⟩
  have ea4 : decide (1 ≤ x) = true := decide_eq_true (by omega)
  have Ha4 := Lib.hid a4
  clear a4
  go_wp2_with fail
  refine (rmay_any x _).mono ?_
  rintro en w1 ⟨rfl, rfl⟩
  cases hm : mayB x
  · have H := Lib.hid (show mayD ⟨id, f, t, x, we, u, h⟩ = false by simp [mayD, bankB, hm])
    go_wp2_with fail
    go_ret
    exact ⟨by rw [H.out]; rfl, hs.below⟩
  have HM := Lib.hid hm
  clear hm
  by_cases a5 : 1 ≤ we
  rotate_left
  · have ea5 : decide (1 ≤ we) = false := decide_eq_false (by omega)
    have HH := Lib.hid a5
    clear a5
    have H := Lib.hid (show mayD ⟨id, f, t, x, we, u, h⟩ = false by simp [mayD, bankB, HH.out])
    go_wp2_with fail
    go_ret
    exact ⟨by rw [H.out]; rfl, hs.below⟩
  have ea5 : decide (1 ≤ we) = true := decide_eq_true (by omega)
  have Ha5 := Lib.hid a5
  clear a5
  by_cases a6 : we ≤ 1000
  rotate_left
  · have ea6 : decide (we ≤ 1000) = false := decide_eq_false (by omega)
    have HH := Lib.hid a6
    clear a6
    have H := Lib.hid (show mayD ⟨id, f, t, x, we, u, h⟩ = false by simp [mayD, bankB, HH.out])
    go_wp2_with fail
    go_ret
    exact ⟨by rw [H.out]; rfl, hs.below⟩
  have ea6 : decide (we ≤ 1000) = true := decide_eq_true (by omega)
  have Ha6 := Lib.hid a6
  clear a6
  by_cases a7 : 0 ≤ u
  rotate_left
  · have ea7 : decide (0 ≤ u) = false := decide_eq_false (by omega)
    have HH := Lib.hid a7
    clear a7
    have H := Lib.hid (show mayD ⟨id, f, t, x, we, u, h⟩ = false by simp [mayD, bankB, HH.out])
    go_wp2_with fail
    go_ret
    exact ⟨by rw [H.out]; rfl, hs.below⟩
  have ea7 : decide (0 ≤ u) = true := decide_eq_true (by omega)
  have Ha7 := Lib.hid a7
  clear a7
  have H := Lib.hid (show mayD ⟨id, f, t, x, we, u, h⟩ = true by simp [mayD, bankB, Ha0.out, Ha1.out, Ha2.out, Ha3.out, HFT.out, Ha4.out, HM.out, Ha5.out, Ha6.out, Ha7.out])
  go_wp2_with fail
  go_ret
  exact ⟨by rw [H.out]; rfl, hs.below⟩
end Go.Proofs.Ythcmkljdhhepgaa
namespace Go.BuildP
open Go Go.RowKit Go.Mem Go.MoneyP Go.NetP
/-- The first one that is held. -/
def IdxP (l : List Du) (k : Int) : Prop := (k = -1 ∧ ∀ d ∈ l, d.h = false) ∨ ∃ i : Nat, k = i ∧ ∃ hi : i < l.length, (l[i]).h = true ∧ ∀ d ∈ l.take i, d.h = false
theorem open_all {l : List Du} (h : ∀ d ∈ l, d.h = false) : openL l = l := by
  unfold openL
  rw [List.filter_eq_self]
  intro d hd
  rw [h d hd]; rfl
/-- What lies in the row while the held ones are being deleted. -/
def DelP (l ys : List Du) (i j : Nat) : Prop := ys.length = l.length ∧ i ≤ j ∧ j ≤ l.length ∧ ys.take i = openL (l.take j) ∧ ys.drop j = l.drop j
theorem del_start {l : List Du} {i : Nat} (hi : i < l.length) (hh : (l[i]).h = true) (ha : ∀ d ∈ l.take i, d.h = false) : DelP l l i (i + 1) := by
  refine ⟨rfl, by omega, by omega, ?_, rfl⟩
  rw [open_step hi, hh, open_all ha]
  simp
theorem del_skip {l ys : List Du} {i j : Nat} (h : DelP l ys i j) (hj : j < l.length) (hh : (l[j]).h = true) : DelP l ys i (j + 1) := by
  obtain ⟨h1, h2, h3, h4, h5⟩ := h
  refine ⟨h1, by omega, by omega, ?_, ?_⟩
  · rw [open_step hj, hh, h4]; simp
  · have := congrArg (List.drop 1) h5
    rwa [List.drop_drop, List.drop_drop] at this
theorem del_at {l ys : List Du} {i j : Nat} (h : DelP l ys i j) (hj : j < l.length) : ∃ hy : j < ys.length, ys[j] = l[j] := by
  obtain ⟨h1, h2, h3, h4, h5⟩ := h
  refine ⟨by omega, ?_⟩
  have := congrArg (fun a => a[0]?) h5
  simp only [List.getElem?_drop, Nat.add_zero] at this
  rw [List.getElem?_eq_getElem (by omega), List.getElem?_eq_getElem hj] at this
  exact Option.some.inj this
theorem del_put {l ys : List Du} {i j : Nat} (h : DelP l ys i j) (hij : i < j) (hj : j < l.length) (hh : (l[j]).h = false) : DelP l (ys.set i (l[j])) (i + 1) (j + 1) := by
  obtain ⟨h1, h2, h3, h4, h5⟩ := h
  refine ⟨by rw [List.length_set]; exact h1, by omega, by omega, ?_, ?_⟩
  · rw [open_step hj, hh, ← h4, List.take_succ_eq_append_getElem (by rw [List.length_set]; omega), List.take_set_of_le (Nat.le_refl _)]
    simp
  · rw [List.drop_set_of_lt (by omega)]
    have := congrArg (List.drop 1) h5
    rwa [List.drop_drop, List.drop_drop] at this
theorem del_end {l ys : List Du} {i j : Nat} (h : DelP l ys i j) (hj : j = l.length) : ys.take i = openL l := by
  obtain ⟨h1, h2, h3, h4, h5⟩ := h
  rw [h4, hj, List.take_length]
end Go.BuildP
namespace Go.Proofs.Ythcmkljdhhepgaa
open Go Go.RowKit Go.Mem Go.MoneyP Go.NetP Go.BuildP Go.Shelf
end Go.Proofs.Ythcmkljdhhepgaa
namespace Go.Proofs.Ythcmkljdhhepgaa
open Go Go.RowKit Go.Mem Go.MoneyP Go.NetP Go.BuildP
theorem Try.infoI64b : (Try.prog.info? 2).map (fun i => (i.zero, i.size, i.bytes)) = some (some (.int .i64 0), 1, 8) := by kernel_rfl
end Go.Proofs.Ythcmkljdhhepgaa
