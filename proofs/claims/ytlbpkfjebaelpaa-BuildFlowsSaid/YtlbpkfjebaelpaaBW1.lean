/-
  Dues: may they be (both); those that are open (the reference's).
-/
import Derived.Test.YtlbpkfjebaelpaaBPlain
import Derived.Test.YtlbpkfjebaelpaaMW2
import Derived.Test.YtlbpkfjebaelpaaMRefW
import Derived.Test.YtlbpkfjebaelpaaWin
import Derived.Test.YtlbpkfjebaelpaaMix
import Derived.Test.YtlbpkfjebaelpaaLoop
namespace Go.Proofs.Ytlbpkfjebaelpaa
open Go Go.RowKit Go.Mem Go.MoneyP Go.NetP Go.BuildP

theorem Try.infoDu : (Try.prog.info? 45).map (fun i => (i.zero, i.size, i.bytes)) = some (some (.agg #[.int .u64 0, .int .i64 0, .int .i64 0, .int .i64 0, .int .i64 0, .int .i64 0, .bool false]), 7, 56) := by kernel_rfl
set_option maxHeartbeats 1000000 in
theorem bank_any (k : Int) (w : World) : Calls Try.prog 81 #[.int .i64 k] w fun en w' => en = .returned (.bool (bankB k)) ∧ w' = w := by
  by_cases h0 : 0 ≤ k
  · by_cases h1 : k < 16
    · have H := Lib.hid (show bankB k = true by simp [bankB, h0, h1])
      have e0 : decide (0 ≤ k) = true := decide_eq_true h0
      have e1 : decide (k < 16) = true := decide_eq_true h1
      clear h0 h1
      go_enter Try.func81, Try.ntmps81
      go_wp2_with fail
      go_ret
      exact ⟨by rw [H.out]; rfl, rfl⟩
    · have H := Lib.hid (show bankB k = false by simp [bankB, h1])
      have e0 : decide (0 ≤ k) = true := decide_eq_true h0
      have e1 : decide (k < 16) = false := decide_eq_false h1
      clear h0 h1
      go_enter Try.func81, Try.ntmps81
      go_wp2_with fail
      go_ret
      exact ⟨by rw [H.out]; rfl, rfl⟩
  · have H := Lib.hid (show bankB k = false by simp [bankB, h0])
    have e0 : decide (0 ≤ k) = false := decide_eq_false h0
    clear h0
    go_enter Try.func81, Try.ntmps81
    go_wp2_with fail
    go_ret
    exact ⟨by rw [H.out]; rfl, rfl⟩
set_option maxHeartbeats 2000000 in
theorem dmay_any (d : Du) (w : World) : Calls Try.prog 61 #[d.val] w fun en w' => en = .returned (.bool (mayD d)) ∧ Below w.heap.size w w' := by
  obtain ⟨id, f, t, x, we, u, h⟩ := d
  dsimp only [Du.val]
  have hs := (Sep.start w).newCells #[.int .u64 id, .int .i64 f, .int .i64 t, .int .i64 x, .int .i64 we, .int .i64 u, .bool h] 45
  have q0 := cell_of (hs.cells 0 rfl) 0
  have q1 := cell_of (hs.cells 0 rfl) 1
  have q2 := cell_of (hs.cells 0 rfl) 2
  have q3 := cell_of (hs.cells 0 rfl) 3
  have q4 := cell_of (hs.cells 0 rfl) 4
  have q5 := cell_of (hs.cells 0 rfl) 5
  have q6 := cell_of (hs.cells 0 rfl) 6
  simp only [List.getElem?_toArray, List.getElem?_cons_zero, List.getElem?_cons_succ] at q0 q1 q2 q3 q4 q5 q6
  go_enter Try.func61, Try.ntmps61
  go_wp2_with fail
  refine (bank_any f _).mono ?_
  rintro en w1 ⟨rfl, rfl⟩
  cases hb1 : bankB f
  · have H := Lib.hid (show mayD ⟨id, f, t, x, we, u, h⟩ = false by simp [mayD, hb1])
    go_wp2_with fail
    go_ret
    exact ⟨by rw [H.out]; rfl, hs.below⟩
  have HB1 := Lib.hid hb1
  clear hb1
  go_wp2_with fail
  refine (bank_any t _).mono ?_
  rintro en w1 ⟨rfl, rfl⟩
  cases hb2 : bankB t
  · have H := Lib.hid (show mayD ⟨id, f, t, x, we, u, h⟩ = false by simp [mayD, hb2])
    go_wp2_with fail
    go_ret
    exact ⟨by rw [H.out]; rfl, hs.below⟩
  have HB2 := Lib.hid hb2
  clear hb2
  by_cases hft : f = t
  · have e1 : (f == t) = true := by simpa using hft
    have HFT := Lib.hid hft
    clear hft
    have H := Lib.hid (show mayD ⟨id, f, t, x, we, u, h⟩ = false by simp [mayD, HFT.out])
    go_wp2_with fail
    go_ret
    exact ⟨by rw [H.out]; rfl, hs.below⟩
  have e1 : (f == t) = false := by simpa using hft
  have HFT := Lib.hid hft
  clear hft
  by_cases hx : 1 ≤ x
  rotate_left
  · have e2 : decide (x < 1) = true := decide_eq_true (by omega)
    have HX := Lib.hid hx
    clear hx
    have H := Lib.hid (show mayD ⟨id, f, t, x, we, u, h⟩ = false by simp [mayD, HX.out])
    go_wp2_with fail
    go_ret
    exact ⟨by rw [H.out]; rfl, hs.below⟩
  have e2 : decide (x < 1) = false := decide_eq_false (by omega)
  have HX := Lib.hid hx
  clear hx
  go_wp2_with fail
  refine (may_any x _).mono ?_
  rintro en w1 ⟨rfl, rfl⟩
  cases hm : mayB x
  · have H := Lib.hid (show mayD ⟨id, f, t, x, we, u, h⟩ = false by simp [mayD, hm])
    go_wp2_with fail
    go_ret
    exact ⟨by rw [H.out]; rfl, hs.below⟩
  have HM := Lib.hid hm
  clear hm
  by_cases hw : 1 ≤ we
  rotate_left
  · have e3 : decide (we < 1) = true := decide_eq_true (by omega)
    have HW := Lib.hid hw
    clear hw
    have H := Lib.hid (show mayD ⟨id, f, t, x, we, u, h⟩ = false by simp [mayD, HW.out])
    go_wp2_with fail
    go_ret
    exact ⟨by rw [H.out]; rfl, hs.below⟩
  have e3 : decide (we < 1) = false := decide_eq_false (by omega)
  have HW := Lib.hid hw
  clear hw
  by_cases hw2 : we ≤ 1000
  rotate_left
  · have e4 : decide (1000 < we) = true := decide_eq_true (by omega)
    have HW2 := Lib.hid hw2
    clear hw2
    have H := Lib.hid (show mayD ⟨id, f, t, x, we, u, h⟩ = false by simp [mayD, HW2.out])
    go_wp2_with fail
    go_ret
    exact ⟨by rw [H.out]; rfl, hs.below⟩
  have e4 : decide (1000 < we) = false := decide_eq_false (by omega)
  have HW2 := Lib.hid hw2
  clear hw2
  by_cases hu : 0 ≤ u
  rotate_left
  · have e5 : decide (u < 0) = true := decide_eq_true (by omega)
    have HU := Lib.hid hu
    clear hu
    have H := Lib.hid (show mayD ⟨id, f, t, x, we, u, h⟩ = false by simp [mayD, HU.out])
    go_wp2_with fail
    go_ret
    exact ⟨by rw [H.out]; rfl, hs.below⟩
  have e5 : decide (u < 0) = false := decide_eq_false (by omega)
  have H := Lib.hid (show mayD ⟨id, f, t, x, we, u, h⟩ = true by simp [mayD, HB1.out, HB2.out, HFT.out, HX.out, HM.out, HW.out, HW2.out, hu])
  go_wp2_with fail
  go_ret
  exact ⟨by rw [H.out]; rfl, hs.below⟩
end Go.Proofs.Ytlbpkfjebaelpaa
