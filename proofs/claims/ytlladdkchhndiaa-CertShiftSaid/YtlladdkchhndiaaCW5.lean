/-
  The reference's Check, Gap; the chapter's example, walked.
-/
import Derived.Test.YtlladdkchhndiaaCW4
import Derived.Test.YtlladdkchhndiaaObj2
namespace Go.Proofs.Ytlladdkchhndiaa
open Go Go.RowKit Go.Mem Go.NetP Go.RestP Go.CertP Go.Shelf

set_option maxHeartbeats 2000000 in
theorem rcheck_any (n : Int) (a : Option Addr) (c : Nat) (es : List Ed) (vf : Value) (fl : List Int) (vp : Value) (pot : List Int) (w : World) (h : RdG edR w (.slice a es.length c) es) (hf : Rd .i64 w vf fl) (hp : Rd .i64 w vp pot) :
    Calls Try.prog 11 #[.agg #[.int .i64 n, .slice a es.length c], .agg #[vf, vp]] w fun en w' => en = .returned (.bool (checkB n es fl pot)) ∧ Below w.heap.size w w' := by
  obtain ⟨af, cf, rfl⟩ := hf.shape
  obtain ⟨ap, cp, rfl⟩ := hp.shape
  have hs := ((Sep.start w).newCells #[.int .i64 n, .slice a es.length c] 24).newCells #[.slice af fl.length cf, .slice ap pot.length cp] 27
  simp only [World.size_alloc] at hs
  rw [← check_fits]
  cases hr : rightB n es
  · have HR := Lib.hid hr
    clear hr
    go_enter Try.func11, Try.ntmps11
    go_wp2_with fail
    refine (rright_any _ a c es _ (hs.rdG h)).mono ?_
    rintro en w1 ⟨rfl, hb⟩
    rw [HR.out]
    replace hs := hs.belowStep hb
    clear hb
    (try clear n0 n1 c0 c1)
    go_wp2_with fail
    go_ret
    exact ⟨rfl, hs.below⟩
  · cases hfl : flowsB n es fl
    · have HR := Lib.hid hr
      have HFL := Lib.hid hfl
      clear hr hfl
      go_enter Try.func11, Try.ntmps11
      go_wp2_with fail
      refine (rright_any _ a c es _ (hs.rdG h)).mono ?_
      rintro en w1 ⟨rfl, hb⟩
      rw [HR.out]
      replace hs := hs.belowStep hb
      clear hb
      (try clear n0 n1 c0 c1)
      have n0 := cell_of (hs.cells 1 rfl) 0
      have n1 := cell_of (hs.cells 1 rfl) 1
      have c0 := cell_of (hs.cells 0 rfl) 0
      have c1 := cell_of (hs.cells 0 rfl) 1
      simp only [List.getElem?_toArray, List.getElem?_cons_zero, List.getElem?_cons_succ] at n0 n1 c0 c1
      go_wp2_with fail
      refine (rflows_any _ a c es _ fl _ (hs.rdG h) (hs.rd hf)).mono ?_
      rintro en w2 ⟨rfl, hb⟩
      rw [HFL.out]
      replace hs := hs.belowStep hb
      clear hb
      (try clear n0 n1 c0 c1)
      go_wp2_with fail
      go_ret
      exact ⟨rfl, hs.below⟩
    · have HR := Lib.hid hr
      have HFL := Lib.hid hfl
      clear hr hfl
      obtain ⟨T, hT⟩ : ∃ T, T = fitsB n es fl pot := ⟨_, rfl⟩
      rw [← hT]
      have HT := Lib.hid hT
      clear hT
      go_enter Try.func11, Try.ntmps11
      go_wp2_with fail
      refine (rright_any _ a c es _ (hs.rdG h)).mono ?_
      rintro en w1 ⟨rfl, hb⟩
      rw [HR.out]
      replace hs := hs.belowStep hb
      clear hb
      (try clear n0 n1 c0 c1)
      have n0 := cell_of (hs.cells 1 rfl) 0
      have n1 := cell_of (hs.cells 1 rfl) 1
      have c0 := cell_of (hs.cells 0 rfl) 0
      have c1 := cell_of (hs.cells 0 rfl) 1
      simp only [List.getElem?_toArray, List.getElem?_cons_zero, List.getElem?_cons_succ] at n0 n1 c0 c1
      go_wp2_with fail
      refine (rflows_any _ a c es _ fl _ (hs.rdG h) (hs.rd hf)).mono ?_
      rintro en w2 ⟨rfl, hb⟩
      rw [HFL.out]
      replace hs := hs.belowStep hb
      clear hb
      (try clear n0 n1 c0 c1)
      have n0 := cell_of (hs.cells 1 rfl) 0
      have n1 := cell_of (hs.cells 1 rfl) 1
      have c0 := cell_of (hs.cells 0 rfl) 0
      have c1 := cell_of (hs.cells 0 rfl) 1
      simp only [List.getElem?_toArray, List.getElem?_cons_zero, List.getElem?_cons_succ] at n0 n1 c0 c1
      go_wp2_with fail
      refine (rfits_any _ a c es _ fl _ pot _ (hs.rdG h) (hs.rd hf) (hs.rd hp)).mono ?_
      rintro en w3 ⟨rfl, hb⟩
      rw [← HT.out]
      replace hs := hs.belowStep hb
      clear hb
      (try clear n0 n1 c0 c1)
      go_wp2_with fail
      go_ret
      exact ⟨rfl, hs.below⟩
def twoL : List Ed := [⟨0, 1, 5, -2⟩, ⟨1, 0, 3, 0⟩]
theorem two_any (w : World) : Calls Try.prog 15 #[] w fun e w' => ∃ g f p, e = .returned (.tuple #[.agg #[.int .i64 2, .slice (some ⟨g, 0, none⟩) 2 2], .agg #[.slice (some ⟨f, 0, none⟩) 2 2, .slice (some ⟨p, 0, none⟩) 2 2]]) ∧ Sep w w' [intsT .i64 2 (.slice (some ⟨p, 0, none⟩) 2 2) [0, -2], intsT .i64 2 (.slice (some ⟨f, 0, none⟩) 2 2) [3, 3], recT edR 42 (.slice (some ⟨g, 0, none⟩) 2 2) twoL] := by
  have key : ∀ cs ds ns : Array Value, Sep w ((((((w.alloc (.cells cs 24)).alloc (.cells ds 27)).alloc (.cells #[.int .i64 0, .int .i64 1, .int .i64 5, .int .i64 (-2), .int .i64 1, .int .i64 0, .int .i64 3, .int .i64 0] 42)).alloc (.cells ns 24)).alloc (.cells #[.int .i64 3, .int .i64 3] 2)).alloc (.cells #[.int .i64 0, .int .i64 (-2)] 2))
      [intsT .i64 2 (.slice (some ⟨w.heap.size + 1 + 1 + 1 + 1 + 1, 0, none⟩) 2 2) [0, -2], intsT .i64 2 (.slice (some ⟨w.heap.size + 1 + 1 + 1 + 1, 0, none⟩) 2 2) [3, 3], cellsT (w.heap.size + 1 + 1 + 1) ns 24, recT edR 42 (.slice (some ⟨w.heap.size + 1 + 1, 0, none⟩) 2 2) twoL, cellsT (w.heap.size + 1) ds 27, cellsT w.heap.size cs 24] := fun cs ds ns => by
    have h := (((((Sep.start w).newCells cs 24).newCells ds 27).litRecs edR 42 twoL (by simp [maxLen, twoL])).newCells ns 24)
    have h2 := (h.litInts .i64 2 [3, 3] (by simp [maxLen])).litInts .i64 2 [0, -2] (by simp [maxLen])
    simp only [World.size_alloc] at h2
    exact h2
  have hs4 := key #[.int .i64 2, .slice (some ⟨w.heap.size + 1 + 1, 0, none⟩) 2 2] #[.slice (some ⟨w.heap.size + 1 + 1 + 1 + 1, 0, none⟩) 2 2, .slice (some ⟨w.heap.size + 1 + 1 + 1 + 1 + 1, 0, none⟩) 2 2] #[.int .i64 2, .slice (some ⟨w.heap.size + 1 + 1, 0, none⟩) 2 2]
  have q0 := cell_of (hs4.cells 5 rfl) 0
  have q1 := cell_of (hs4.cells 5 rfl) 1
  have q2 := cell_of (hs4.cells 4 rfl) 0
  have q3 := cell_of (hs4.cells 4 rfl) 1
  simp only [List.getElem?_toArray, List.getElem?_cons_zero, List.getElem?_cons_succ] at q0 q1 q2 q3
  go_enter Try.func15, Try.ntmps15
  go_wp2_with fail
  exact bodyPost_ret (v := .tuple #[.agg #[.int .i64 2, .slice (some ⟨w.heap.size + 1 + 1, 0, none⟩) 2 2], .agg #[.slice (some ⟨w.heap.size + 1 + 1 + 1 + 1, 0, none⟩) 2 2, .slice (some ⟨w.heap.size + 1 + 1 + 1 + 1 + 1, 0, none⟩) 2 2]]) (by simp [results, Try.results15, go_sem, q0, q1, q2, q3]) rfl ⟨_, _, _, rfl, (hs4.omit 2).takeN 3⟩
set_option maxHeartbeats 2000000 in
theorem works_any (w : World) : Calls Try.prog 7 #[] w fun en w' => en = .returned (.bool true) ∧ Below w.heap.size w w' := by
  go_enter Try.func7, Try.ntmps7
  go_wp2_with fail
  refine (two_any _).mono ?_
  rintro en w1 ⟨g, f, p, rfl, hs1⟩
  replace hs1 := ((hs1.newCells #[.int .i64 2, .slice (some ⟨g, 0, none⟩) 2 2] 24).newCells #[.slice (some ⟨f, 0, none⟩) 2 2, .slice (some ⟨p, 0, none⟩) 2 2] 27)
  simp only [World.size_alloc] at hs1
  go_upto_region 2 with fail
  have hs := hs1.litInts .i64 2 [1, 1] (by simp [maxLen])
  simp only [List.map_cons, List.map_nil, List.length_cons, List.length_nil, Nat.reduceAdd, World.size_alloc] at hs
  clear hs1
  have n0 := cell_of (hs.cells 2 rfl) 0
  have n1 := cell_of (hs.cells 2 rfl) 1
  have c0 := cell_of (hs.cells 1 rfl) 0
  have c1 := cell_of (hs.cells 1 rfl) 1
  simp only [List.getElem?_toArray, List.getElem?_cons_zero, List.getElem?_cons_succ] at n0 n1 c0 c1
  go_wp2_with fail
  refine (gap_any 2 _ _ twoL _ [3, 3] _ [0, -2] _ [1, 1] _ (hs.rdRecs 5 rfl) (hs.rdInts 4 rfl) (hs.rdInts 3 rfl) (hs.rdInts 0 rfl)).mono ?_
  rintro en w2 ⟨rfl, hb⟩
  rw [show gapV 2 twoL [3, 3] [0, -2] [1, 1] = 4 by decide, show gapB 2 twoL [3, 3] [0, -2] [1, 1] = true by decide]
  replace hs := hs.belowStep hb
  clear hb
  (try clear n0 n1 c0 c1)
  have c1' := cell_of ((hs.litInts .i64 2 [2, 2] (by simp [maxLen])).cells 2 rfl) 1
  simp only [List.getElem?_toArray, List.getElem?_cons_zero, List.getElem?_cons_succ, List.map_cons, List.map_nil] at c1'
  go_upto_region 4 with fail
  replace hs := (hs.litInts .i64 2 [2, 2] (by simp [maxLen])).newCells #[.slice (some ⟨w2.heap.size, 0, none⟩) 2 2, .slice (some ⟨p, 0, none⟩) 2 2] 27
  simp only [List.map_cons, List.map_nil, List.length_cons, List.length_nil, Nat.reduceAdd, World.size_alloc] at hs
  clear c1'
  have n0 := cell_of (hs.cells 4 rfl) 0
  have n1 := cell_of (hs.cells 4 rfl) 1
  have c0 := cell_of (hs.cells 3 rfl) 0
  have c1 := cell_of (hs.cells 3 rfl) 1
  simp only [List.getElem?_toArray, List.getElem?_cons_zero, List.getElem?_cons_succ] at n0 n1 c0 c1
  go_wp2_with fail
  refine (check_any 2 _ _ twoL _ [3, 3] _ [0, -2] _ (hs.rdRecs 7 rfl) (hs.rdInts 6 rfl) (hs.rdInts 5 rfl)).mono ?_
  rintro en w3 ⟨rfl, hb⟩
  rw [show checkB 2 twoL [3, 3] [0, -2] = true by decide]
  replace hs := hs.belowStep hb
  clear hb
  (try clear n0 n1 c0 c1)
  have n0 := cell_of (hs.cells 4 rfl) 0
  have n1 := cell_of (hs.cells 4 rfl) 1
  have c0 := cell_of (hs.cells 0 rfl) 0
  have c1 := cell_of (hs.cells 0 rfl) 1
  simp only [List.getElem?_toArray, List.getElem?_cons_zero, List.getElem?_cons_succ] at n0 n1 c0 c1
  go_wp2_with fail
  refine (check_any 2 _ _ twoL _ [2, 2] _ [0, -2] _ (hs.rdRecs 7 rfl) (hs.rdInts 1 rfl) (hs.rdInts 5 rfl)).mono ?_
  rintro en w4 ⟨rfl, hb⟩
  rw [show checkB 2 twoL [2, 2] [0, -2] = false by decide]
  replace hs := hs.belowStep hb
  clear hb
  (try clear n0 n1 c0 c1)
  go_wp2_with fail
  go_ret
  exact ⟨rfl, hs.below⟩
end Go.Proofs.Ytlladdkchhndiaa
