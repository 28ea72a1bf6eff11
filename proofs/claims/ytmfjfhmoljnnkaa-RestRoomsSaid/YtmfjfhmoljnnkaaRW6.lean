/-
  The rest laws' anchor, walked.
-/
import Derived.Test.YtmfjfhmoljnnkaaRW5
import Derived.Test.YtmfjfhmoljnnkaaRRef3
import Derived.Test.YtmfjfhmoljnnkaaNCo
import Derived.Test.YtmfjfhmoljnnkaaNSN
import Derived.Test.YtmfjfhmoljnnkaaNCd
import Derived.Test.YtmfjfhmoljnnkaaNVa
namespace Go.Proofs.Ytmfjfhmoljnnkaa
open Go Go.RowKit Go.Mem Go.NetP Go.RestP

/-- The chapter's net. -/
def exL : List Ed := [⟨0, 1, 5, 2⟩, ⟨1, 0, 3, -1⟩]

set_option maxHeartbeats 1000000 in
theorem example_any (w : World) : Calls Try.prog 29 #[] w fun e w' => ∃ g f, e = .returned (.tuple #[.agg #[.int .i64 2, .slice (some ⟨g, 0, none⟩) 2 2], .slice (some ⟨f, 0, none⟩) 2 2]) ∧ Sep w w' [intsT .i64 2 (.slice (some ⟨f, 0, none⟩) 2 2) [2, 0], recT edR 44 (.slice (some ⟨g, 0, none⟩) 2 2) exL] := by
  have key : ∀ cs : Array Value, Sep w (((w.alloc (.cells cs 24)).alloc (.cells #[.int .i64 0, .int .i64 1, .int .i64 5, .int .i64 2, .int .i64 1, .int .i64 0, .int .i64 3, .int .i64 (-1)] 44)).alloc (.cells #[.int .i64 2, .int .i64 0] 2))
      [intsT .i64 2 (.slice (some ⟨w.heap.size + 2, 0, none⟩) 2 2) [2, 0], recT edR 44 (.slice (some ⟨w.heap.size + 1, 0, none⟩) 2 2) exL, cellsT w.heap.size cs 24] := fun cs => by
    have h := (((Sep.start w).newCells cs 24).litRecs edR 44 exL (by simp [maxLen, exL])).litInts .i64 2 [2, 0] (by simp [maxLen])
    rw [World.size_alloc, World.size_alloc] at h
    exact h
  have hs4 := key #[.int .i64 2, .slice (some ⟨w.heap.size + 1, 0, none⟩) 2 2]
  have q0 := cell_of (hs4.cells 2 rfl) 0
  have q1 := cell_of (hs4.cells 2 rfl) 1
  simp only [List.getElem?_toArray, List.getElem?_cons_zero, List.getElem?_cons_succ] at q0 q1
  go_enter Try.func29, Try.ntmps29
  go_wp2_with fail
  exact bodyPost_ret (v := .tuple #[.agg #[.int .i64 2, .slice (some ⟨w.heap.size + 1, 0, none⟩) 2 2], .slice (some ⟨w.heap.size + 2, 0, none⟩) 2 2]) (by simp [results, Try.results29, go_sem, q0, q1]) rfl ⟨_, _, rfl, hs4.takeN 2⟩
set_option maxRecDepth 100000 in
set_option maxHeartbeats 4000000 in
theorem works_any (w : World) : Calls Try.prog 10 #[] w fun e w' => e = .returned (.bool true) ∧ Below w.heap.size w w' := by
  go_enter Try.func10, Try.ntmps10
  go_wp2_with fail
  refine (example_any _).mono ?_
  rintro en w1 ⟨g, f, rfl, hs1⟩
  have hs3 := hs1.newCells #[.int .i64 2, .slice (some ⟨g, 0, none⟩) 2 2] 24
  have n0 := cell_of (hs3.cells 0 rfl) 0
  have n1 := cell_of (hs3.cells 0 rfl) 1
  simp only [List.getElem?_toArray, List.getElem?_cons_zero, List.getElem?_cons_succ] at n0 n1
  go_wp2_with fail
  generalize w1.alloc _ = W2 at hs3 n0 n1 ⊢
  have N0 := lt_of (hs3.cells 0 rfl)
  have hr : RdG edR W2 (.slice (some ⟨g, 0, none⟩) exL.length 2) exL := hs3.rdRecs 2 rfl
  have hl : Rd .i64 W2 (.slice (some ⟨f, 0, none⟩) 2 2) [2, 0] := hs3.rdInts 1 rfl
  have m0 := n0
  have m1 := n1
  have hs := Sep.start W2
  refine (endsX_any 2 _ _ exL 1 _ hr (by simp [exL])).mono ?_
  rintro en w2 ⟨rfl, hb⟩
  rw [show endsV 2 exL 1 = (1, 0, -2) by decide]
  replace hs := hs.belowStep hb
  clear hb
  (try clear n0 n1)
  have n0 := (hs.cell N0).trans m0
  have n1 := (hs.cell N0).trans m1
  go_wp2_with fail
  refine (pushX_any 2 _ _ exL _ [2, 0] 1 2 _ (hs.rdG hr) (hs.rd hl) (by simp [exL])).mono ?_
  rintro en w3 ⟨u3, rfl, k3⟩
  rw [show pushV 2 exL [2, 0] 1 2 = [0, 0] by decide] at k3
  rw [show pushE 2 exL [2, 0] 1 2 = 0 by decide]
  replace hs := hs.join k3
  clear k3
  simp only [List.cons_append, List.nil_append] at hs
  (try clear n0 n1)
  have n0 := (hs.cell N0).trans m0
  have n1 := (hs.cell N0).trans m1
  go_wp2_with fail
  refine (pushX_any 2 _ _ exL _ [2, 0] 1 3 _ (hs.rdG hr) (hs.rd hl) (by simp [exL])).mono ?_
  rintro en w4 ⟨u4, rfl, k4⟩
  rw [show pushE 2 exL [2, 0] 1 3 = 7 by decide]
  replace hs := hs.join k4
  clear k4
  simp only [List.cons_append, List.nil_append] at hs
  (try clear n0 n1)
  have n0 := (hs.cell N0).trans m0
  have n1 := (hs.cell N0).trans m1
  replace hs := hs.litInts .i64 3 [0, 1] (by simp [maxLen])
  simp only [List.map_cons, List.map_nil, List.length_cons, List.length_nil, Nat.reduceAdd, World.size_alloc] at hs
  go_wp2_with fail
  refine (along_any 2 _ _ exL _ [2, 0] _ [0, 1] 3 _ (hs.rdG hr) (hs.rd hl) (hs.rdInts 0 rfl) (by simp [exL])).mono ?_
  rintro en w5 ⟨u5, rfl, k5⟩
  rw [show alongV 2 exL [2, 0] [0, 1] 3 = [2, 0] by decide] at k5
  rw [show alongE 2 exL [2, 0] [0, 1] 3 = 0 by decide]
  replace hs := hs.join k5
  clear k5
  simp only [List.cons_append, List.nil_append] at hs
  (try clear n0 n1)
  have n0 := (hs.cell N0).trans m0
  have n1 := (hs.cell N0).trans m1
  replace hs := hs.litInts .i64 3 [0, 3] (by simp [maxLen])
  simp only [List.map_cons, List.map_nil, List.length_cons, List.length_nil, Nat.reduceAdd, World.size_alloc] at hs
  go_wp2_with fail
  refine (along_any 2 _ _ exL _ [2, 0] _ [0, 3] 1 _ (hs.rdG hr) (hs.rd hl) (hs.rdInts 0 rfl) (by simp [exL])).mono ?_
  rintro en w6 ⟨u6, rfl, k6⟩
  rw [show alongE 2 exL [2, 0] [0, 3] 1 = 1 by decide]
  replace hs := hs.join k6
  clear k6
  simp only [List.cons_append, List.nil_append] at hs
  (try clear n0 n1)
  have n0 := (hs.cell N0).trans m0
  have n1 := (hs.cell N0).trans m1
  replace hs := hs.litInts .i64 2 [0, 0] (by simp [maxLen])
  simp only [List.map_cons, List.map_nil, List.length_cons, List.length_nil, Nat.reduceAdd, World.size_alloc] at hs
  go_wp2_with fail
  refine (rsame_any _ _ [0, 0] [0, 0] _ (hs.rdInts 6 rfl) (hs.rdInts 0 rfl)).mono ?_
  rintro en w7 ⟨rfl, k7⟩
  replace hs := hs.join k7
  clear k7
  simp only [List.cons_append, List.nil_append] at hs
  (try clear n0 n1)
  have n0 := (hs.cell N0).trans m0
  have n1 := (hs.cell N0).trans m1
  go_wp2_with fail
  refine (rsame_any _ _ [2, 0] [2, 0] _ (hs.rdInts 3 rfl) (hs.rd hl)).mono ?_
  rintro en w8 ⟨rfl, k8⟩
  replace hs := hs.join k8
  clear k8
  simp only [List.cons_append, List.nil_append] at hs
  (try clear n0 n1)
  have n0 := (hs.cell N0).trans m0
  have n1 := (hs.cell N0).trans m1
  replace hs := hs.litInts .i64 3 [0, 2] (by simp [maxLen])
  simp only [List.map_cons, List.map_nil, List.length_cons, List.length_nil, Nat.reduceAdd, World.size_alloc] at hs
  go_wp2_with fail
  refine (bottle_any 2 _ _ exL _ [2, 0] _ [0, 2] _ (hs.rdG hr) (hs.rd hl) (hs.rdInts 0 rfl) (by simp [exL]) (by simp)).mono ?_
  rintro en w9 ⟨rfl, hb⟩
  rw [show bottleV 2 exL [2, 0] [0, 2] = 3 by decide]
  replace hs := hs.belowStep hb
  clear hb
  (try clear n0 n1)
  have n0 := (hs.cell N0).trans m0
  have n1 := (hs.cell N0).trans m1
  replace hs := hs.litInts .i64 3 [0, 0] (by simp [maxLen])
  simp only [List.map_cons, List.map_nil, List.length_cons, List.length_nil, Nat.reduceAdd, World.size_alloc] at hs
  go_wp2_with fail
  refine (bottle_any 2 _ _ exL _ [2, 0] _ [0, 0] _ (hs.rdG hr) (hs.rd hl) (hs.rdInts 0 rfl) (by simp [exL]) (by simp)).mono ?_
  rintro en w10 ⟨rfl, hb⟩
  rw [show bottleV 2 exL [2, 0] [0, 0] = 0 by decide]
  replace hs := hs.belowStep hb
  clear hb
  (try clear n0 n1)
  have n0 := (hs.cell N0).trans m0
  have n1 := (hs.cell N0).trans m1
  go_wp2_with fail
  refine (roomX_any 2 _ _ exL _ [2, 0] 2 _ (hs.rdG hr) (hs.rd hl) (by simp [exL])).mono ?_
  rintro en w11 ⟨rfl, hb⟩
  rw [show roomV 2 exL [2, 0] 2 = 3 by decide]
  replace hs := hs.belowStep hb
  go_wp2_with fail
  go_ret
  exact ⟨rfl, (hs3.below).trans (hs.below.mono hs3.size)⟩
end Go.Proofs.Ytmfjfhmoljnnkaa
