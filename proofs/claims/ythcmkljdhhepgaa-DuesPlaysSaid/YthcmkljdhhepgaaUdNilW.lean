/-
  Package dues: where there are none; the chapter's example; DuesNil.
-/
import Derived.Test.YthcmkljdhhepgaaUdW5
set_option linter.unusedVariables false
set_option linter.unusedSimpArgs false
namespace Go.Proofs.Ythcmkljdhhepgaa
open Go Go.RowKit Go.Mem Go.MoneyP Go.NetP Go.BuildP Go.DuesP Go.Maps Go.Shelf
attribute [local go_sem] Oper.semAt_some
theorem next_nil (w : World) : Calls Try.prog 14 #[.pointer none] w fun en w' => en = .returned (.int .u64 0) ∧ w' = w := by
  go_enter Try.func14, Try.ntmps14
  go_wp2_with fail
  go_ret
  exact ⟨rfl, rfl⟩
theorem gross_nil (w : World) : Calls Try.prog 13 #[.pointer none] w fun en w' => en = .returned (.int .i64 0) ∧ w' = w := by
  go_enter Try.func13, Try.ntmps13
  go_wp2_with fail
  go_ret
  exact ⟨rfl, rfl⟩
theorem list_nil (w : World) : Calls Try.prog 15 #[.pointer none] w fun en w' => en = .returned (.slice none 0 0) ∧ w' = w := by
  go_enter Try.func15, Try.ntmps15
  go_wp2_with fail
  go_ret
  exact ⟨rfl, rfl⟩
theorem add_nil (f t x we u : Int) (w : World) : Calls Try.prog 9 #[.pointer none, .int .i64 f, .int .i64 t, .int .i64 x, .int .i64 we, .int .i64 u] w fun en w' => en = .returned (.tuple #[.int .u64 0, .int .i64 2]) ∧ w' = w := by
  go_enter Try.func9, Try.ntmps9
  go_wp2_with fail
  go_ret2
  exact ⟨rfl, rfl⟩
theorem turn_nil (id : Int) (v : Value) (w : World) : Calls Try.prog 30 #[.pointer none, .int .u64 id, v] w fun en w' => en = .returned (.int .i64 2) ∧ w' = w := by
  go_enter Try.func30, Try.ntmps30
  go_wp2_with fail
  go_ret
  exact ⟨rfl, rfl⟩
theorem held_nil (id : Int) (is : Bool) (w : World) : Calls Try.prog 29 #[.pointer none, .int .u64 id, .bool is] w fun en w' => en = .returned (.int .i64 2) ∧ Below w.heap.size w w' := by
  go_enter Try.func29, Try.ntmps29
  go_wp2_with fail
  refine (turn_nil id _ _).mono ?_
  rintro en w1 ⟨rfl, rfl⟩
  go_wp2_with fail
  go_ret
  exact ⟨rfl, (Below.refl _ w).alloc (Nat.le_refl _) _⟩
theorem hold_nil (id : Int) (w : World) : Calls Try.prog 10 #[.pointer none, .int .u64 id] w fun en w' => en = .returned (.int .i64 2) ∧ Below w.heap.size w w' := by
  go_enter Try.func10, Try.ntmps10
  go_wp2_with fail
  refine (held_nil id true _).mono ?_
  rintro en w1 ⟨rfl, hb⟩
  go_wp2_with fail
  go_ret
  exact ⟨rfl, hb⟩
theorem release_nil (id : Int) (w : World) : Calls Try.prog 17 #[.pointer none, .int .u64 id] w fun en w' => en = .returned (.int .i64 2) ∧ Below w.heap.size w w' := by
  go_enter Try.func17, Try.ntmps17
  go_wp2_with fail
  refine (held_nil id false _).mono ?_
  rintro en w1 ⟨rfl, hb⟩
  go_wp2_with fail
  go_ret
  exact ⟨rfl, hb⟩
theorem cancel_nil (id : Int) (w : World) : Calls Try.prog 18 #[.pointer none, .int .u64 id] w fun en w' => en = .returned (.int .i64 2) ∧ w' = w := by
  go_enter Try.func18, Try.ntmps18
  go_wp2_with fail
  refine (turn_nil id _ _).mono ?_
  rintro en w1 ⟨rfl, rfl⟩
  go_wp2_with fail
  go_ret
  exact ⟨rfl, rfl⟩
theorem pay_nil (id x : Int) (w : World) : Calls Try.prog 11 #[.pointer none, .int .u64 id, .int .i64 x] w fun en w' => en = .returned (.int .i64 2) ∧ Below w.heap.size w w' := by
  go_enter Try.func11, Try.ntmps11
  go_wp2_with fail
  refine (turn_nil id _ _).mono ?_
  rintro en w1 ⟨rfl, rfl⟩
  go_wp2_with fail
  go_ret
  exact ⟨rfl, (Below.refl _ w).alloc (Nat.le_refl _) _⟩
theorem expire_nil (day : Int) (w : World) : Calls Try.prog 16 #[.pointer none, .int .i64 day] w fun en w' => en = .returned (.slice none 0 0) ∧ w' = w := by
  go_enter Try.func16, Try.ntmps16
  go_wp2_with fail
  refine (list_nil _).mono ?_
  rintro en w1 ⟨rfl, rfl⟩
  go_wp2_with fail
  refine wp_loopM [none, none, none, none, none, some 5, none, some 7, none, none, none, some 11, some 12, some 13, some 14, some 15, some 16, some 17, some 18, some 19, some 20, some 21, some 22, some 23, some 24, some 25, some 26, some 27, some 28, some 29, some 30, none] (fun (r : Nat) (f : Nat → Value) (wr : World) => (fun (vi vl : Value) => vi = .int .i64 0 ∧ vl = .slice none 0 0 ∧ r = 0 ∧ wr = w1) (f 11) (f 5)) (0) (by kernel_rfl) ?atStart1 ?round1
  case' atStart1 => (try dsimp only [nthV])
  case' round1 =>
    intro gk f wr l hl hrel J1 K1 hJ1 hK1
    (try simp only [mask] at hl)
    generalize f 11 = u11 at hl hrel
    generalize f 5 = u5 at hl hrel
    subst hl
    (try dsimp only at hrel)
  case atStart1 => exact ⟨rfl, rfl, rfl, rfl⟩
  case round1 =>
    obtain ⟨rfl, rfl, rfl, rfl⟩ := hrel
    go_wp2_with fail
    go_ret
    exact ⟨rfl, rfl⟩
theorem get_nil (id : Int) (w : World) : Calls Try.prog 12 #[.pointer none, .int .u64 id] w fun en w' => en = .returned (.tuple #[.agg #[.int .u64 0, .int .i64 0, .int .i64 0, .int .i64 0, .int .i64 0, .int .i64 0, .bool false], .bool false]) ∧ Below w.heap.size w w' := by
  obtain ⟨i0, hi0, hz0, hz1, hz2⟩ := info_parts Try.infoDuz
  go_enter Try.func12, Try.ntmps12
  go_wp2_with fail
  have hD := (Sep.start w).newCells #[.int .u64 0, .int .i64 0, .int .i64 0, .int .i64 0, .int .i64 0, .int .i64 0, .bool false] 36
  have q0 := cell_of (hD.cells 0 rfl) 0
  have q1 := cell_of (hD.cells 0 rfl) 1
  have q2 := cell_of (hD.cells 0 rfl) 2
  have q3 := cell_of (hD.cells 0 rfl) 3
  have q4 := cell_of (hD.cells 0 rfl) 4
  have q5 := cell_of (hD.cells 0 rfl) 5
  have q6 := cell_of (hD.cells 0 rfl) 6
  simp only [List.getElem?_toArray, List.getElem?_cons_zero, List.getElem?_cons_succ, Nat.add_zero] at q0 q1 q2 q3 q4 q5 q6
  exact bodyPost_ret (v := .tuple #[.agg #[.int .u64 0, .int .i64 0, .int .i64 0, .int .i64 0, .int .i64 0, .int .i64 0, .bool false], .bool false]) (by simp [results, Try.results12, go_sem, q0, q1, q2, q3, q4, q5, q6]) rfl ⟨rfl, hD.below⟩
/-- The dues of the example. -/
abbrev exD (x : Int) (h : Bool) : Du := ⟨1, 0, 1, x, 2, 9, h⟩
theorem ex_good (x : Int) (h : Bool) (h1 : 1 ≤ x) (h2 : x ≤ 5) : GoodS [exD x h] 2 := by
  refine ⟨List.pairwise_singleton _ _, fun d hd => ?_, by decide, by decide, by simp, ?_⟩
  · rw [List.mem_singleton.1 hd]
    exact ⟨(mayD_iff _).2 ⟨by simp, by simp, by simp, by simp, by simp, h1, by show x ≤ _; omega, by simp, by simp, by simp⟩, by simp, by simp⟩
  · simp; omega
set_option maxRecDepth 100000 in
set_option maxHeartbeats 2000000 in
theorem works_any (w : World) : Calls Try.prog 7 #[] w fun en w' => en = .returned (.bool true) ∧ Below w.heap.size w w' := by
  have g5 := ex_good 5 false (by decide) (by decide)
  have g3 := ex_good 3 false (by decide) (by decide)
  have g3h := ex_good 3 true (by decide) (by decide)
  have G0 := Lib.hid GoodS.nil
  have G5 := Lib.hid g5
  have G3 := Lib.hid g3
  have GH := Lib.hid g3h
  clear g5 g3 g3h
  go_enter Try.func7, Try.ntmps7
  go_wp2_with fail
  refine (duesNew_any (Sep.start w)).mono ?_
  rintro en w1 ⟨b, rfl, hs⟩
  go_wp2_with fail
  refine (duesAdd_any hs (i := 0) rfl G0.out 0 1 5 2 9).mono ?_
  rintro en w2 ⟨rfl, hs2⟩
  rw [show addI [] 1 ⟨1, 0, 1, 5, 2, 9, false⟩ = 1 from by decide, show addE [] 1 ⟨1, 0, 1, 5, 2, 9, false⟩ = 0 from by decide]
  rw [show addS [] 1 ⟨1, 0, 1, 5, 2, 9, false⟩ = [exD 5 false] from by decide, show addN [] 1 ⟨1, 0, 1, 5, 2, 9, false⟩ = 2 from by decide] at hs2
  clear hs
  have hs : Sep w w2 [duesT b [exD 5 false] 2] := hs2
  clear hs2
  go_wp2_with fail
  refine (pay_u hs (i := 0) rfl G5.out 1 (by decide) (by decide) 2).mono ?_
  rintro en w3 ⟨rfl, hs2⟩
  rw [show turnE (payF 2) [exD 5 false] 1 = 0 from by decide]
  rw [show turnS (payF 2) [exD 5 false] 1 = [exD 3 false] from by decide] at hs2
  clear hs
  have hs : Sep w w3 [duesT b [exD 3 false] 2] := hs2
  clear hs2
  go_wp2_with fail
  refine (hold_u hs (i := 0) rfl G3.out 1 (by decide) (by decide)).mono ?_
  rintro en w4 ⟨rfl, hs2⟩
  rw [show turnE (heldF true) [exD 3 false] 1 = 0 from by decide]
  rw [show turnS (heldF true) [exD 3 false] 1 = [exD 3 true] from by decide] at hs2
  clear hs
  have hs : Sep w w4 [duesT b [exD 3 true] 2] := hs2
  clear hs2
  go_wp2_with fail
  refine (pay_u hs (i := 0) rfl GH.out 1 (by decide) (by decide) 1).mono ?_
  rintro en w5 ⟨rfl, hs2⟩
  rw [show turnE (payF 1) [exD 3 true] 1 = 14 from by decide]
  rw [show turnS (payF 1) [exD 3 true] 1 = [exD 3 true] from by decide] at hs2
  clear hs
  have hs : Sep w w5 [duesT b [exD 3 true] 2] := hs2
  clear hs2
  go_wp2_with fail
  refine (duesExpire_any hs (i := 0) rfl GH.out 9).mono ?_
  rintro en w6 ⟨v1, rfl, hs2⟩
  rw [show expI [exD 3 true] 9 = [] from by decide, show expS [exD 3 true] 9 = [exD 3 true] from by decide] at hs2
  clear hs
  have hs : Sep w w6 [intsT .u64 28 v1 [], duesT b [exD 3 true] 2] := hs2
  clear hs2
  obtain ⟨a1, c1, rfl⟩ := (hs.rdInts 0 rfl).shape
  go_wp2_with fail
  refine (duesGet_any hs (i := 1) rfl 1 (by decide) (by decide)).mono ?_
  rintro en w7 ⟨rfl, hs2⟩
  rw [show getV [exD 3 true] 1 = exD 3 true from by decide, show getB [exD 3 true] 1 = true from by decide]
  clear hs
  have hs := hs2.newCells #[.int .u64 1, .int .i64 0, .int .i64 1, .int .i64 3, .int .i64 2, .int .i64 9, .bool true] 36
  clear hs2
  dsimp only [Du.val, exD]
  obtain ⟨BX, hBX⟩ : ∃ BX, BX = w7.heap.size := ⟨_, rfl⟩
  rw [← hBX] at hs
  have HBX := Lib.hid hBX
  clear hBX
  go_wp2_with fail
  refine (duesExpire_any hs (i := 2) rfl GH.out 10).mono ?_
  rintro en w8 ⟨v2, rfl, hs2⟩
  rw [show expI [exD 3 true] 10 = [1] from by decide, show expS [exD 3 true] 10 = [] from by decide] at hs2
  rw [← HBX.out]
  clear hs
  have hs : Sep w w8 [intsT .u64 28 v2 [1], cellsT BX #[.int .u64 1, .int .i64 0, .int .i64 1, .int .i64 3, .int .i64 2, .int .i64 9, .bool true] 36, intsT .u64 28 (.slice a1 0 c1) [], duesT b [] 2] := hs2
  clear hs2
  obtain ⟨a2, c2, rfl⟩ := (hs.rdInts 0 rfl).shape
  obtain ⟨bq, oq, eq, _, z0⟩ := (hs.rdInts 0 rfl).at 0 (by decide)
  subst eq
  rw [show ([1] : List Int).getD 0 0 = 1 from rfl] at z0
  simp only [Nat.add_zero] at z0
  have x3 := cell_of (hs.cells 1 rfl) 3
  simp only [List.getElem?_toArray, List.getElem?_cons_zero, List.getElem?_cons_succ] at x3
  have HG := Lib.hid (duesGross_any hs (i := 3) rfl (by decide))
  clear hs
  go_wp2_with fail
  refine HG.out.mono ?_
  rintro en w9 ⟨rfl, hs⟩
  rw [show gross [] = 0 from by decide]
  clear HG x3 z0
  have HN := Lib.hid (duesNext_any hs (i := 3) rfl)
  have HBL := Lib.hid hs.below
  clear hs
  go_wp2_with fail
  refine HN.out.mono ?_
  rintro en w10 ⟨rfl, rfl⟩
  go_wp2_with fail
  go_ret
  exact ⟨rfl, HBL.out⟩
set_option maxRecDepth 100000 in
set_option maxHeartbeats 2000000 in
theorem duesNil_any (id x : Int) (w : World) : Calls Try.prog 5 #[.int .u64 id, .int .i64 x] w fun en w' => en = .returned (.bool true) ∧ Below w.heap.size w w' := by
  have hs := Sep.start w
  go_enter Try.func5, Try.ntmps5
  go_wp2_with fail
  refine (add_nil _ _ _ _ _ _).mono ?_
  rintro en w1 ⟨rfl, rfl⟩
  go_wp2_with fail
  refine (get_nil _ _).mono ?_
  rintro en w2 ⟨rfl, hb⟩
  replace hs := (hs.belowStep hb).alloc (.cells #[.int .u64 0, .int .i64 0, .int .i64 0, .int .i64 0, .int .i64 0, .int .i64 0, .bool false] 36)
  clear hb
  go_wp2_with fail
  refine (hold_nil _ _).mono ?_
  rintro en w1 ⟨rfl, hb⟩
  replace hs := hs.belowStep hb
  clear hb
  go_wp2_with fail
  refine (release_nil _ _).mono ?_
  rintro en w1 ⟨rfl, hb⟩
  replace hs := hs.belowStep hb
  clear hb
  go_wp2_with fail
  refine (cancel_nil _ _).mono ?_
  rintro en w3 ⟨rfl, rfl⟩
  go_wp2_with fail
  refine (pay_nil _ _ _).mono ?_
  rintro en w1 ⟨rfl, hb⟩
  replace hs := hs.belowStep hb
  clear hb
  go_wp2_with fail
  refine (expire_nil _ _).mono ?_
  rintro en w4 ⟨rfl, rfl⟩
  go_wp2_with fail
  refine (list_nil _).mono ?_
  rintro en w5 ⟨rfl, rfl⟩
  go_wp2_with fail
  refine (next_nil _).mono ?_
  rintro en w6 ⟨rfl, rfl⟩
  go_wp2_with fail
  refine (gross_nil _).mono ?_
  rintro en w7 ⟨rfl, rfl⟩
  go_wp2_with fail
  refine (works_any _).mono ?_
  rintro en w1 ⟨rfl, hb⟩
  replace hs := hs.belowStep hb
  clear hb
  go_wp2_with fail
  go_ret
  exact ⟨rfl, hs.below⟩
end Go.Proofs.Ythcmkljdhhepgaa
