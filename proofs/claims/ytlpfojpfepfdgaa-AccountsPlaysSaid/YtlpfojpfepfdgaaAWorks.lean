/-
  The chapter's example, walked; and what is answered where there are no accounts.
-/
import Derived.Test.YtlpfojpfepfdgaaAW7
namespace Go.Proofs.Ytlpfojpfepfdgaa
open Go Go.RowKit Go.Mem Go.MoneyP Go.AcctP Go.Shelf

theorem good_one (x y : Int) (hx : 0 ≤ x ∧ x ≤ 4503599627370496) (hy : 0 ≤ y ∧ y ≤ 4503599627370496) : GoodA [⟨x, y⟩] :=
  ⟨by simp, by simp [bals, mays, mayB]; omega, by simp; omega, by simp [bals]; omega⟩
set_option maxHeartbeats 1000000 in
theorem works_any (w : World) : Calls Try.prog 7 #[] w fun en w' => en = .returned (.bool true) ∧ Below w.heap.size w w' := by
  go_enter Try.func7, Try.ntmps7
  go_wp2_with fail
  refine (new_any _).mono ?_
  rintro en w1 ⟨b, rfl, hs⟩
  go_wp2_with fail
  refine (open_any hs 0 b [] rfl (by simp)).mono ?_
  rintro en w2 ⟨rfl, hs2⟩
  clear hs
  rw [show openV [] = 0 from rfl, show openE [] = 0 from rfl]
  replace hs2 : Sep w w2 [accT b [⟨0, 0⟩]] := hs2
  go_wp2_with fail
  refine (fund_any hs2 0 b [⟨0, 0⟩] rfl (good_one 0 0 (by decide) (by decide)) 0 5).mono ?_
  rintro en w3 ⟨rfl, hs3⟩
  clear hs2
  rw [show fundE [⟨0, 0⟩] 0 5 = 0 by decide]
  replace hs3 : Sep w w3 [accT b [⟨5, 0⟩]] := by rw [show fundL [⟨0, 0⟩] 0 5 = [⟨5, 0⟩] by decide] at hs3; exact hs3
  go_wp2_with fail
  refine (draw_any hs3 0 b [⟨5, 0⟩] rfl (good_one 5 0 (by decide) (by decide)) 0 6).mono ?_
  rintro en w4 ⟨rfl, hs4⟩
  clear hs3
  rw [show drawE [⟨5, 0⟩] 0 6 = 12 by decide]
  replace hs4 : Sep w w4 [accT b [⟨5, 0⟩]] := by rw [show drawL [⟨5, 0⟩] 0 6 = [⟨5, 0⟩] by decide] at hs4; exact hs4
  go_wp2_with fail
  refine (reserve_any hs4 0 b [⟨5, 0⟩] rfl (good_one 5 0 (by decide) (by decide)) 0 9).mono ?_
  rintro en w5 ⟨rfl, hs5⟩
  clear hs4
  rw [show resE [⟨5, 0⟩] 0 9 = 0 by decide]
  replace hs5 : Sep w w5 [accT b [⟨5, 9⟩]] := by rw [show resL [⟨5, 0⟩] 0 9 = [⟨5, 9⟩] by decide] at hs5; exact hs5
  obtain ⟨v, hv, hr⟩ := hs5.obj 0 rfl
  have hc := cell_of hv 0
  simp only [List.getElem?_toArray, List.getElem?_cons_zero] at hc
  clear hv
  go_wp2_with fail
  refine (rooms_any b v [⟨5, 9⟩] _ hc hr (good_one 5 9 (by decide) (by decide))).mono ?_
  rintro en w6 ⟨u, rfl, k6⟩
  clear hc hr
  replace hs5 := hs5.join k6
  simp only [List.cons_append, List.nil_append] at hs5
  obtain ⟨g, cg, rfl, hg, hcR, hfr⟩ := (hs5.ints 0 rfl).get 0 (by decide)
  have r0 := hcR 0 (by decide)
  rw [show (roomsL [⟨5, 9⟩]).getD 0 0 = 0 by decide] at r0
  rw [show (roomsL [⟨5, 9⟩]).length = 1 from rfl] at *
  clear hcR k6
  go_wp2_with fail
  refine (fund_any hs5 1 b [⟨5, 9⟩] rfl (good_one 5 9 (by decide) (by decide)) 1 1).mono ?_
  rintro en w7 ⟨rfl, hs7⟩
  rw [show fundE [⟨5, 9⟩] 1 1 = 10 by decide]
  go_wp2_with fail
  go_ret
  exact ⟨rfl, hs7.below⟩

theorem turnN_any (k f a : Value) (w : World) : Calls Try.prog 31 #[.pointer none, k, f, a] w fun en w' => en = .returned (.int .i64 2) ∧ w = w' := by
  go_enter Try.func31, Try.ntmps31
  go_wp2_with fail
  go_ret
  exact ⟨rfl, rfl⟩
set_option maxHeartbeats 1000000 in
theorem fundN_any (k x : Int) (w : World) : Calls Try.prog 9 #[.pointer none, .int .i64 k, .int .i64 x] w fun en w' => en = .returned (.int .i64 2) ∧ Below w.heap.size w w' := by
  go_enter Try.func9, Try.ntmps9
  go_wp2_with fail
  refine (turnN_any _ _ _ _).mono ?_
  rintro en w1 ⟨rfl, rfl⟩
  go_wp2_with fail
  go_ret
  exact ⟨rfl, by first | exact ((Below.refl _ _).alloc (Nat.le_refl _) _).alloc (by simp) _ | exact (((Below.refl _ _).alloc (Nat.le_refl _) _).alloc (by simp) _).alloc (by simp; omega) _ | exact ((((Below.refl _ _).alloc (Nat.le_refl _) _).alloc (by simp) _).alloc (by simp; omega) _).alloc (by simp; omega) _⟩
set_option maxHeartbeats 1000000 in
theorem drawN_any (k x : Int) (w : World) : Calls Try.prog 12 #[.pointer none, .int .i64 k, .int .i64 x] w fun en w' => en = .returned (.int .i64 2) ∧ Below w.heap.size w w' := by
  go_enter Try.func12, Try.ntmps12
  go_wp2_with fail
  refine (turnN_any _ _ _ _).mono ?_
  rintro en w1 ⟨rfl, rfl⟩
  go_wp2_with fail
  go_ret
  exact ⟨rfl, by first | exact ((Below.refl _ _).alloc (Nat.le_refl _) _).alloc (by simp) _ | exact (((Below.refl _ _).alloc (Nat.le_refl _) _).alloc (by simp) _).alloc (by simp; omega) _ | exact ((((Below.refl _ _).alloc (Nat.le_refl _) _).alloc (by simp) _).alloc (by simp; omega) _).alloc (by simp; omega) _⟩
set_option maxHeartbeats 1000000 in
theorem resN_any (k x : Int) (w : World) : Calls Try.prog 18 #[.pointer none, .int .i64 k, .int .i64 x] w fun en w' => en = .returned (.int .i64 2) ∧ Below w.heap.size w w' := by
  go_enter Try.func18, Try.ntmps18
  go_wp2_with fail
  refine (turnN_any _ _ _ _).mono ?_
  rintro en w1 ⟨rfl, rfl⟩
  go_wp2_with fail
  go_ret
  exact ⟨rfl, by first | exact ((Below.refl _ _).alloc (Nat.le_refl _) _).alloc (by simp) _ | exact (((Below.refl _ _).alloc (Nat.le_refl _) _).alloc (by simp) _).alloc (by simp; omega) _ | exact ((((Below.refl _ _).alloc (Nat.le_refl _) _).alloc (by simp) _).alloc (by simp; omega) _).alloc (by simp; omega) _⟩
theorem openN_any (w : World) : Calls Try.prog 17 #[.pointer none] w fun en w' => en = .returned (.tuple #[.int .i64 0, .int .i64 2]) ∧ w = w' := by
  go_enter Try.func17, Try.ntmps17
  go_wp2_with fail
  go_ret2
  exact ⟨rfl, rfl⟩
theorem getN_any (k : Int) (w : World) : Calls Try.prog 10 #[.pointer none, .int .i64 k] w fun en w' => en = .returned (.tuple #[.agg #[.int .i64 0, .int .i64 0], .bool false]) ∧ Below w.heap.size w w' := by
  go_enter Try.func10, Try.ntmps10
  go_wp2_with fail
  exact bodyPost_ret (v := .tuple #[.agg #[.int .i64 0, .int .i64 0], .bool false]) (by simp [results, Try.results10, go_sem]) rfl ⟨rfl, (Below.refl _ _).alloc (Nat.le_refl _) _⟩
theorem shiftN_any (v : Value) (w : World) : Calls Try.prog 19 #[.pointer none, v] w fun en w' => en = .returned (.int .i64 2) ∧ w = w' := by
  go_enter Try.func19, Try.ntmps19
  go_wp2_with fail
  go_ret
  exact ⟨rfl, rfl⟩
theorem listN_any (w : World) : Calls Try.prog 14 #[.pointer none] w fun en w' => en = .returned (.slice none 0 0) ∧ w = w' := by
  go_enter Try.func14, Try.ntmps14
  go_wp2_with fail
  go_ret
  exact ⟨rfl, rfl⟩
theorem roomsN_any (w : World) : Calls Try.prog 11 #[.pointer none] w fun en w' => en = .returned (.slice none 0 0) ∧ w = w' := by
  go_enter Try.func11, Try.ntmps11
  go_wp2_with fail
  refine (listN_any _).mono ?_
  rintro en w1 ⟨rfl, rfl⟩
  go_wp2_with fail
  refine wp_loop_rounds 1 ?_
  rw [rounds_succ]
  go_wp2_with fail
  go_ret
  exact ⟨rfl, rfl⟩
set_option maxHeartbeats 2000000 in
theorem accountsNil_any (k x : Int) (w : World) : Calls Try.prog 5 #[.int .i64 k, .int .i64 x] w fun en w' => en = .returned (.bool true) ∧ Below w.heap.size w w' := by
  have hs := Sep.start w
  go_enter Try.func5, Try.ntmps5
  go_wp2_with fail
  refine (openN_any _).mono ?_
  rintro en w1 ⟨rfl, rfl⟩
  go_wp2_with fail
  refine (getN_any k _).mono ?_
  rintro en w2 ⟨rfl, hb⟩
  replace hs := (hs.belowStep hb).newCells #[.int .i64 0, .int .i64 0] 27
  clear hb
  go_wp2_with fail
  refine (fundN_any k x _).mono ?_
  rintro en w3 ⟨rfl, hb⟩
  replace hs := hs.belowStep hb
  clear hb
  go_wp2_with fail
  refine (drawN_any k x _).mono ?_
  rintro en w4 ⟨rfl, hb⟩
  replace hs := hs.belowStep hb
  clear hb
  go_wp2_with fail
  refine (resN_any k x _).mono ?_
  rintro en w5 ⟨rfl, hb⟩
  replace hs := hs.belowStep hb
  clear hb
  go_wp2_with fail
  refine (shiftN_any _ _).mono ?_
  rintro en w6 ⟨rfl, rfl⟩
  go_wp2_with fail
  refine (listN_any _).mono ?_
  rintro en w7 ⟨rfl, rfl⟩
  go_wp2_with fail
  refine (roomsN_any _).mono ?_
  rintro en w8 ⟨rfl, rfl⟩
  go_wp2_with fail
  refine (works_any _).mono ?_
  rintro en w9 ⟨rfl, hb⟩
  replace hs := hs.belowStep hb
  clear hb
  go_wp2_with fail
  go_ret
  exact ⟨rfl, hs.below⟩
end Go.Proofs.Ytlpfojpfepfdgaa
