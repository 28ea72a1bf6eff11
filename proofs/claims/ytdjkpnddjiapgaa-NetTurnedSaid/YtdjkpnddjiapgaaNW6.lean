/-
  The net laws' anchor, walked.
-/
import Derived.Test.YtdjkpnddjiapgaaNW5
namespace Go.Proofs.Ytdjkpnddjiapgaa
open Go Go.RowKit Go.Mem Go.NetP

/-- The chapter's net. -/
def exL : List Ed := [⟨0, 1, 5, 2⟩, ⟨1, 2, 4, -3⟩, ⟨2, 0, 9, 0⟩, ⟨1, 1, 1, 7⟩]

set_option maxHeartbeats 1000000 in
theorem example_any (w : World) : Calls Try.prog 25 #[] w fun e w' => ∃ g, e = .returned (.agg #[.int .i64 3, .slice (some ⟨g, 0, none⟩) 4 4]) ∧ Sep w w' [recT edR 39 (.slice (some ⟨g, 0, none⟩) 4 4) exL] := by
  have key : ∀ cs : Array Value, Sep w ((w.alloc (.cells cs 24)).alloc (.cells #[.int .i64 0, .int .i64 1, .int .i64 5, .int .i64 2, .int .i64 1, .int .i64 2, .int .i64 4, .int .i64 (-3), .int .i64 2, .int .i64 0, .int .i64 9, .int .i64 0, .int .i64 1, .int .i64 1, .int .i64 1, .int .i64 7] 39))
      [recT edR 39 (.slice (some ⟨w.heap.size + 1, 0, none⟩) 4 4) exL, cellsT w.heap.size cs 24] := fun cs => by
    have h := ((Sep.start w).newCells cs 24).litRecs edR 39 exL (by simp [maxLen, exL])
    rw [World.size_alloc] at h
    exact h
  have hs4 := key #[.int .i64 3, .slice (some ⟨w.heap.size + 1, 0, none⟩) 4 4]
  have q0 := cell_of (hs4.cells 1 rfl) 0
  have q1 := cell_of (hs4.cells 1 rfl) 1
  simp only [List.getElem?_toArray, List.getElem?_cons_zero, List.getElem?_cons_succ] at q0 q1
  go_enter Try.func25, Try.ntmps25
  go_wp2_with fail
  exact bodyPost_ret (v := .agg #[.int .i64 3, .slice (some ⟨w.heap.size + 1, 0, none⟩) 4 4]) (by simp [results, Try.results25, go_sem, q0, q1]) rfl ⟨_, rfl, hs4.takeN 1⟩

set_option maxRecDepth 100000 in
set_option maxHeartbeats 4000000 in
theorem works_any (w : World) : Calls Try.prog 10 #[] w fun e w' => e = .returned (.bool true) ∧ Below w.heap.size w w' := by
  go_enter Try.func10, Try.ntmps10
  go_wp2_with fail
  refine (example_any _).mono ?_
  rintro en w1 ⟨g, rfl, hs1⟩
  have hs3 := (hs1.newCells #[.int .i64 3, .slice (some ⟨g, 0, none⟩) 4 4] 24).litInts .i64 2 [5, 4, 4, 1] (by simp [maxLen])
  simp only [List.map_cons, List.map_nil, List.length_cons, List.length_nil, Nat.reduceAdd, World.size_alloc] at hs3
  have n0 := cell_of (hs3.cells 1 rfl) 0
  have n1 := cell_of (hs3.cells 1 rfl) 1
  simp only [List.getElem?_toArray, List.getElem?_cons_zero, List.getElem?_cons_succ] at n0 n1
  go_wp2_with fail
  generalize (w1.alloc _).alloc _ = W2 at hs3 n0 n1 ⊢
  have N0 := lt_of (hs3.cells 1 rfl)
  have hr : RdG edR W2 (.slice (some ⟨g, 0, none⟩) exL.length 4) exL := hs3.rdRecs 2 rfl
  have hl : Rd .i64 W2 (.slice (some ⟨w1.heap.size + 1, 0, none⟩) 4 4) [5, 4, 4, 1] := hs3.rdInts 0 rfl
  refine (right_any 3 _ _ exL _ hr).mono ?_
  rintro en w2 ⟨rfl, hb⟩
  rw [show rightB 3 exL = true by decide]
  have m0 := n0
  have m1 := n1
  have hs := ((Sep.start W2).belowStep hb).litInts .i64 2 [4, 4, 4, 1] (by simp [maxLen])
  simp only [List.map_cons, List.map_nil, List.length_cons, List.length_nil, Nat.reduceAdd, World.size_alloc] at hs
  have n0 := (((Sep.start W2).belowStep hb).cell N0).trans m0
  have n1 := (((Sep.start W2).belowStep hb).cell N0).trans m1
  go_wp2_with fail
  refine (flows_any 3 _ _ exL _ [4, 4, 4, 1] _ (hs.rdG hr) (hs.rdInts 0 rfl)).mono ?_
  rintro en w3 ⟨rfl, hb3⟩
  rw [show flowsB 3 exL [4, 4, 4, 1] = true by decide]
  have n0 := ((hs.belowStep hb3).cell N0).trans m0
  have n1 := ((hs.belowStep hb3).cell N0).trans m1
  have hs := (hs.belowStep hb3).litInts .i64 2 [5, 4, 4, 0] (by simp [maxLen])
  simp only [List.map_cons, List.map_nil, List.length_cons, List.length_nil, Nat.reduceAdd, World.size_alloc] at hs
  go_wp2_with fail
  refine (flows_any 3 _ _ exL _ [5, 4, 4, 0] _ (hs.rdG hr) (hs.rdInts 0 rfl)).mono ?_
  rintro en w4 ⟨rfl, hb4⟩
  rw [show flowsB 3 exL [5, 4, 4, 0] = false by decide]
  have n0 := ((hs.belowStep hb4).cell N0).trans m0
  have n1 := ((hs.belowStep hb4).cell N0).trans m1
  have hs := (hs.belowStep hb4).litInts .i64 2 [5, 5, 5, 0] (by simp [maxLen])
  simp only [List.map_cons, List.map_nil, List.length_cons, List.length_nil, Nat.reduceAdd, World.size_alloc] at hs
  go_wp2_with fail
  refine (within_any 3 _ _ exL _ [5, 5, 5, 0] _ (hs.rdG hr) (hs.rdInts 0 rfl)).mono ?_
  rintro en w5 ⟨rfl, hb5⟩
  rw [show withinB 3 exL [5, 5, 5, 0] = false by decide]
  have hs := hs.belowStep hb5
  have n0 := (hs.cell N0).trans m0
  have n1 := (hs.cell N0).trans m1
  go_wp2_with fail
  refine (over_any 3 _ _ exL _ [5, 4, 4, 1] _ (hs.rdG hr) (hs.rd hl)).mono ?_
  rintro en w6 ⟨u, rfl, hs6⟩
  rw [show overV 3 exL [5, 4, 4, 1] = [-1, 1, 0] by decide] at hs6
  have hs := ((hs.join hs6).litInts .i64 2 [-1, 1, 0] (by simp [maxLen]))
  simp only [List.map_cons, List.map_nil, List.length_cons, List.length_nil, Nat.reduceAdd, World.size_alloc] at hs
  go_wp2_with fail
  refine (rsame_any _ _ [-1, 1, 0] [-1, 1, 0] _ (hs.rdInts 1 rfl) (hs.rdInts 0 rfl)).mono ?_
  rintro en w7 ⟨rfl, hs7⟩
  have hs := hs.join hs7
  have n0 := (hs.cell N0).trans m0
  have n1 := (hs.cell N0).trans m1
  go_wp2_with fail
  refine (cost_any 3 _ _ exL _ [5, 4, 4, 1] _ (hs.rdG hr) (hs.rd hl)).mono ?_
  rintro en w8 ⟨rfl, hb8⟩
  rw [show costV 3 exL [5, 4, 4, 1] = 5 by decide]
  have hs := hs.belowStep hb8
  go_wp2_with fail
  refine (right_any 0 none 0 [] _ (RdG.nil _ _)).mono ?_
  rintro en w9 ⟨rfl, hb9⟩
  rw [show rightB 0 [] = false by decide]
  have hs := hs.belowStep hb9
  go_wp2_with fail
  go_ret
  exact ⟨rfl, (hs3.below).trans (hs.below.mono hs3.size)⟩
end Go.Proofs.Ytdjkpnddjiapgaa
