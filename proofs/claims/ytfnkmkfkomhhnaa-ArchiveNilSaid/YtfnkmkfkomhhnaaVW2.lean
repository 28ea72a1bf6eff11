/-
  Package archive, walked: may, New, put, No; the reference's May; a round of nothing.
-/
import Derived.Test.YtfnkmkfkomhhnaaVW1
import Derived.Test.YtfnkmkfkomhhnaaVPlain2
namespace Go.Proofs.Ytfnkmkfkomhhnaa
open Go Go.RowKit Go.Mem Go.NetP Go.CertP Go.ArchP

set_option maxHeartbeats 1000000 in
theorem may_any (r : Ro) (w : World) (h : r.Ok w) :
    Calls Try.prog 22 #[r.val] w fun en w' => en = .returned (.bool (mayC r.co)) ∧ Below w.heap.size w w' := by
  obtain ⟨no, day, comp, ai, ci, ids, n, ae, ce, es, af, cf, fl, ap, cp, pot⟩ := r
  obtain ⟨h1, h2, h3, h4⟩ := h
  have hle := h1.le'
  dsimp only [Ro.val, Ro.co] at *
  have hs := (Sep.start w).newCells #[.int .u64 no, .int .i64 day, .bool comp, .slice ai ids.length ci, .int .i64 n, .slice ae es.length ce, .slice af fl.length cf, .slice ap pot.length cp] 39
  have n4 := cell_of (hs.cells 0 rfl) 4
  simp only [List.getElem?_toArray, List.getElem?_cons_zero, List.getElem?_cons_succ] at n4
  have n5 := cell_of (hs.cells 0 rfl) 5
  simp only [List.getElem?_toArray, List.getElem?_cons_zero, List.getElem?_cons_succ] at n5
  have n6 := cell_of (hs.cells 0 rfl) 6
  simp only [List.getElem?_toArray, List.getElem?_cons_zero, List.getElem?_cons_succ] at n6
  have n7 := cell_of (hs.cells 0 rfl) 7
  simp only [List.getElem?_toArray, List.getElem?_cons_zero, List.getElem?_cons_succ] at n7
  cases hc : checkB n es fl pot
  · have HC := Lib.hid hc
    have HM := Lib.hid (show mayC ⟨no, day, comp, ids, n, es, fl, pot⟩ = false by simp [mayC, hc])
    clear hc
    go_enter Try.func22, Try.ntmps22
    go_wp2_with fail
    refine (check_any n ae ce es _ fl _ pot _ (hs.rdG h2) (hs.rd h3) (hs.rd h4)).mono ?_
    rintro en w1 ⟨rfl, hb⟩
    rw [HC.out]
    replace hs := hs.belowStep hb
    clear n4 n5 n6 n7
    go_wp2_with fail
    go_ret
    exact ⟨by rw [HM.out]; rfl, hs.below⟩
  · have HC := Lib.hid hc
    by_cases hl : ids.length ≤ 64
    · have e1 : decide ((ids.length : Int) ≤ 64) = true := decide_eq_true (by omega)
      have HM := Lib.hid (show mayC ⟨no, day, comp, ids, n, es, fl, pot⟩ = decide (0 ≤ day) by simp [mayC, hc, hl])
      clear hc
      go_enter Try.func22, Try.ntmps22
      go_wp2_with fail
      refine (check_any n ae ce es _ fl _ pot _ (hs.rdG h2) (hs.rd h3) (hs.rd h4)).mono ?_
      rintro en w1 ⟨rfl, hb⟩
      rw [HC.out]
      replace hs := hs.belowStep hb
      clear n4 n5 n6 n7
      have n1 := cell_of (hs.cells 0 rfl) 1
      simp only [List.getElem?_toArray, List.getElem?_cons_zero, List.getElem?_cons_succ] at n1
      have n3 := cell_of (hs.cells 0 rfl) 3
      simp only [List.getElem?_toArray, List.getElem?_cons_zero, List.getElem?_cons_succ] at n3
      go_wp2_with fail
      go_ret
      exact ⟨by rw [HM.out]; rfl, hs.below⟩
    · have e1 : decide ((ids.length : Int) ≤ 64) = false := decide_eq_false (by omega)
      have HM := Lib.hid (show mayC ⟨no, day, comp, ids, n, es, fl, pot⟩ = false by simp [mayC, hc, hl])
      clear hc
      go_enter Try.func22, Try.ntmps22
      go_wp2_with fail
      refine (check_any n ae ce es _ fl _ pot _ (hs.rdG h2) (hs.rd h3) (hs.rd h4)).mono ?_
      rintro en w1 ⟨rfl, hb⟩
      rw [HC.out]
      replace hs := hs.belowStep hb
      clear n4 n5 n6 n7
      have n1 := cell_of (hs.cells 0 rfl) 1
      simp only [List.getElem?_toArray, List.getElem?_cons_zero, List.getElem?_cons_succ] at n1
      have n3 := cell_of (hs.cells 0 rfl) 3
      simp only [List.getElem?_toArray, List.getElem?_cons_zero, List.getElem?_cons_succ] at n3
      go_wp2_with fail
      go_ret
      exact ⟨by rw [HM.out]; rfl, hs.below⟩
set_option maxHeartbeats 1000000 in
theorem rmay_any (r : Ro) (w : World) (h : r.Ok w) :
    Calls Try.prog 29 #[r.val] w fun en w' => en = .returned (.bool (mayC r.co)) ∧ Below w.heap.size w w' := by
  obtain ⟨no, day, comp, ai, ci, ids, n, ae, ce, es, af, cf, fl, ap, cp, pot⟩ := r
  obtain ⟨h1, h2, h3, h4⟩ := h
  have hle := h1.le'
  dsimp only [Ro.val, Ro.co] at *
  have hs := (Sep.start w).newCells #[.int .u64 no, .int .i64 day, .bool comp, .slice ai ids.length ci, .int .i64 n, .slice ae es.length ce, .slice af fl.length cf, .slice ap pot.length cp] 39
  have n4 := cell_of (hs.cells 0 rfl) 4
  simp only [List.getElem?_toArray, List.getElem?_cons_zero, List.getElem?_cons_succ] at n4
  have n5 := cell_of (hs.cells 0 rfl) 5
  simp only [List.getElem?_toArray, List.getElem?_cons_zero, List.getElem?_cons_succ] at n5
  have n6 := cell_of (hs.cells 0 rfl) 6
  simp only [List.getElem?_toArray, List.getElem?_cons_zero, List.getElem?_cons_succ] at n6
  have n7 := cell_of (hs.cells 0 rfl) 7
  simp only [List.getElem?_toArray, List.getElem?_cons_zero, List.getElem?_cons_succ] at n7
  cases hc : checkB n es fl pot
  · have HC := Lib.hid hc
    have HM := Lib.hid (show mayC ⟨no, day, comp, ids, n, es, fl, pot⟩ = false by simp [mayC, hc])
    clear hc
    go_enter Try.func29, Try.ntmps29
    go_wp2_with fail
    refine (rcheck_any n ae ce es _ fl _ pot _ (hs.rdG h2) (hs.rd h3) (hs.rd h4)).mono ?_
    rintro en w1 ⟨rfl, hb⟩
    rw [HC.out]
    replace hs := hs.belowStep hb
    clear n4 n5 n6 n7
    go_wp2_with fail
    go_ret
    exact ⟨by rw [HM.out]; rfl, hs.below⟩
  · have HC := Lib.hid hc
    by_cases hl : ids.length ≤ 64
    · have e1 : decide ((ids.length : Int) ≤ 64) = true := decide_eq_true (by omega)
      have HM := Lib.hid (show mayC ⟨no, day, comp, ids, n, es, fl, pot⟩ = decide (0 ≤ day) by simp [mayC, hc, hl])
      clear hc
      go_enter Try.func29, Try.ntmps29
      go_wp2_with fail
      refine (rcheck_any n ae ce es _ fl _ pot _ (hs.rdG h2) (hs.rd h3) (hs.rd h4)).mono ?_
      rintro en w1 ⟨rfl, hb⟩
      rw [HC.out]
      replace hs := hs.belowStep hb
      clear n4 n5 n6 n7
      have n1 := cell_of (hs.cells 0 rfl) 1
      simp only [List.getElem?_toArray, List.getElem?_cons_zero, List.getElem?_cons_succ] at n1
      have n3 := cell_of (hs.cells 0 rfl) 3
      simp only [List.getElem?_toArray, List.getElem?_cons_zero, List.getElem?_cons_succ] at n3
      go_wp2_with fail
      go_ret
      exact ⟨by rw [HM.out]; rfl, hs.below⟩
    · have e1 : decide ((ids.length : Int) ≤ 64) = false := decide_eq_false (by omega)
      have HM := Lib.hid (show mayC ⟨no, day, comp, ids, n, es, fl, pot⟩ = false by simp [mayC, hc, hl])
      clear hc
      go_enter Try.func29, Try.ntmps29
      go_wp2_with fail
      refine (rcheck_any n ae ce es _ fl _ pot _ (hs.rdG h2) (hs.rd h3) (hs.rd h4)).mono ?_
      rintro en w1 ⟨rfl, hb⟩
      rw [HC.out]
      replace hs := hs.belowStep hb
      clear n4 n5 n6 n7
      have n1 := cell_of (hs.cells 0 rfl) 1
      simp only [List.getElem?_toArray, List.getElem?_cons_zero, List.getElem?_cons_succ] at n1
      have n3 := cell_of (hs.cells 0 rfl) 3
      simp only [List.getElem?_toArray, List.getElem?_cons_zero, List.getElem?_cons_succ] at n3
      go_wp2_with fail
      go_ret
      exact ⟨by rw [HM.out]; rfl, hs.below⟩
/-- A round of nothing. -/
def bareR (g : Nat) : Ro := ⟨0, 0, false, none, 0, [], 1, none, 0, [], none, 0, [], some ⟨g, 0, none⟩, 1, [0]⟩
theorem bare_ok {w0 w : World} {g : Nat} {L : List Thing} (h : Sep w0 w L) (i : Nat) (hi : L[i]? = some (intsT .i64 2 (.slice (some ⟨g, 0, none⟩) 1 1) [0])) : (bareR g).Ok w := ⟨Rd.nil _ _, RdG.nil _ _, Rd.nil _ _, h.rdInts i hi⟩
set_option maxHeartbeats 1000000 in
theorem bare_any (w : World) : Calls Try.prog 16 #[] w fun en w' => ∃ g, en = .returned (bareR g).val ∧ Sep w w' [intsT .i64 2 (.slice (some ⟨g, 0, none⟩) 1 1) [0]] := by
  have key : ∀ cs : Array Value, Sep w ((w.alloc (.cells cs 39)).alloc (.cells #[.int .i64 0] 2)) [intsT .i64 2 (.slice (some ⟨w.heap.size + 1, 0, none⟩) 1 1) [0], cellsT w.heap.size cs 39] := fun cs => by
    have h := ((Sep.start w).newCells cs 39).litInts .i64 2 [0] (by simp [maxLen])
    simp only [World.size_alloc] at h
    exact h
  have hs := key #[.int .u64 0, .int .i64 0, .bool false, .slice none 0 0, .int .i64 1, .slice none 0 0, .slice none 0 0, .slice (some ⟨w.heap.size + 1, 0, none⟩) 1 1]
  have q0 := cell_of (hs.cells 1 rfl) 0
  simp only [List.getElem?_toArray, List.getElem?_cons_zero, List.getElem?_cons_succ] at q0
  have q1 := cell_of (hs.cells 1 rfl) 1
  simp only [List.getElem?_toArray, List.getElem?_cons_zero, List.getElem?_cons_succ] at q1
  have q2 := cell_of (hs.cells 1 rfl) 2
  simp only [List.getElem?_toArray, List.getElem?_cons_zero, List.getElem?_cons_succ] at q2
  have q3 := cell_of (hs.cells 1 rfl) 3
  simp only [List.getElem?_toArray, List.getElem?_cons_zero, List.getElem?_cons_succ] at q3
  have q4 := cell_of (hs.cells 1 rfl) 4
  simp only [List.getElem?_toArray, List.getElem?_cons_zero, List.getElem?_cons_succ] at q4
  have q5 := cell_of (hs.cells 1 rfl) 5
  simp only [List.getElem?_toArray, List.getElem?_cons_zero, List.getElem?_cons_succ] at q5
  have q6 := cell_of (hs.cells 1 rfl) 6
  simp only [List.getElem?_toArray, List.getElem?_cons_zero, List.getElem?_cons_succ] at q6
  have q7 := cell_of (hs.cells 1 rfl) 7
  simp only [List.getElem?_toArray, List.getElem?_cons_zero, List.getElem?_cons_succ] at q7
  go_enter Try.func16, Try.ntmps16
  go_wp2_with fail
  exact bodyPost_ret (v := (bareR (w.heap.size + 1)).val) (by simp [bareR, Ro.val, results, Try.results16, go_sem, q0, q1, q2, q3, q4, q5, q6, q7]) rfl ⟨_, rfl, hs.takeN 1⟩
/-- An archive in block b. -/
abbrev arcT (b : Nat) (ks : List Ro) (n no : Int) : Thing := archT 27 70 2 59 b ks n no
set_option maxHeartbeats 1000000 in
theorem new_any (w : World) : Calls Try.prog 9 #[] w fun en w' => ∃ b, en = .returned (.pointer (some ⟨b, 0, none⟩)) ∧ Sep w w' [arcT b (List.replicate 4 default) 0 0] := by
  have hs := Sep.archNew (Tu := 27) (Te := 70) (Ti := 2) (T := 59) (ks := List.replicate 4 default) (n := 0) (no := 0) ((Sep.start w).newCells (roR.flat (List.replicate 4 default) ++ [Value.int .u64 0, Value.int .u64 0]).toArray 59) (fun r hr => List.eq_of_mem_replicate hr)
  go_enter Try.func9, Try.ntmps9
  go_wp2_with fail
  go_ret
  exact ⟨_, rfl, hs⟩
set_option maxHeartbeats 1000000 in
theorem no_any (b : Nat) (no : Int) (w : World) (hn : w.cell? ⟨b, 33, none⟩ = some (.int .u64 no)) : Calls Try.prog 11 #[.pointer (some ⟨b, 0, none⟩)] w fun en w' => en = .returned (.int .u64 no) ∧ w' = w := by
  go_enter Try.func11, Try.ntmps11
  go_wp2_with fail
  go_ret
  exact ⟨rfl, rfl⟩
set_option maxHeartbeats 1000000 in
theorem no_nil (w : World) : Calls Try.prog 11 #[.pointer none] w fun en w' => en = .returned (.int .u64 0) ∧ w' = w := by
  go_enter Try.func11, Try.ntmps11
  go_wp2_with fail
  go_ret
  exact ⟨rfl, rfl⟩
end Go.Proofs.Ytfnkmkfkomhhnaa
