/-
  Package archive, walked: Add.
-/
import Derived.Test.YtfnkmkfkomhhnaaVW3
namespace Go.Proofs.Ytfnkmkfkomhhnaa
open Go Go.RowKit Go.Mem Go.NetP Go.CertP Go.ArchP

set_option maxHeartbeats 2000000 in
theorem add_nil (r : Ro) (w : World) : Calls Try.prog 10 #[.pointer none, r.val] w fun en w' => en = .returned (.tuple #[.int .u64 0, .int .i64 2]) ∧ Below w.heap.size w w' := by
  obtain ⟨rno, day, comp, ai, ci, ids, rn, ae, ce, es, af, cf, fl, ap, cp, pot⟩ := r
  have hw := ((Sep.start w).newCells #[.int .u64 rno, .int .i64 day, .bool comp, .slice ai ids.length ci, .int .i64 rn, .slice ae es.length ce, .slice af fl.length cf, .slice ap pot.length cp] 39)
  dsimp only [Ro.val] at *
  go_enter Try.func10, Try.ntmps10
  go_wp2_with fail
  go_ret2
  exact ⟨rfl, hw.below⟩
set_option maxHeartbeats 2000000 in
theorem add_no {w0 w : World} {L : List Thing} (hs : Sep w0 w L) (b : Nat) (r : Ro) (h : r.Ok w) (hm : mayC r.co = false) :
    Calls Try.prog 10 #[.pointer (some ⟨b, 0, none⟩), r.val] w fun en w' => en = .returned (.tuple #[.int .u64 0, .int .i64 1]) ∧ Sep w0 w' L := by
  obtain ⟨rno, day, comp, ai, ci, ids, rn, ae, ce, es, af, cf, fl, ap, cp, pot⟩ := r
  have hw := ((Sep.start w).newCells #[.int .u64 rno, .int .i64 day, .bool comp, .slice ai ids.length ci, .int .i64 rn, .slice ae es.length ce, .slice af fl.length cf, .slice ap pot.length cp] 39)
  have hs1 := (hs.newCells #[.int .u64 rno, .int .i64 day, .bool comp, .slice ai ids.length ci, .int .i64 rn, .slice ae es.length ce, .slice af fl.length cf, .slice ap pot.length cp] 39)
  have MAY := Lib.hid (may_any ⟨rno, day, comp, ai, ci, ids, rn, ae, ce, es, af, cf, fl, ap, cp, pot⟩ _ (h.sep hw))
  have HM := Lib.hid hm
  clear hm
  dsimp only [Ro.val] at *
  have n0 := cell_of (hw.cells 0 rfl) 0
  simp only [List.getElem?_toArray, List.getElem?_cons_zero, List.getElem?_cons_succ] at n0
  have n1 := cell_of (hw.cells 0 rfl) 1
  simp only [List.getElem?_toArray, List.getElem?_cons_zero, List.getElem?_cons_succ] at n1
  have n2 := cell_of (hw.cells 0 rfl) 2
  simp only [List.getElem?_toArray, List.getElem?_cons_zero, List.getElem?_cons_succ] at n2
  have n3 := cell_of (hw.cells 0 rfl) 3
  simp only [List.getElem?_toArray, List.getElem?_cons_zero, List.getElem?_cons_succ] at n3
  have n4 := cell_of (hw.cells 0 rfl) 4
  simp only [List.getElem?_toArray, List.getElem?_cons_zero, List.getElem?_cons_succ] at n4
  have n5 := cell_of (hw.cells 0 rfl) 5
  simp only [List.getElem?_toArray, List.getElem?_cons_zero, List.getElem?_cons_succ] at n5
  have n6 := cell_of (hw.cells 0 rfl) 6
  simp only [List.getElem?_toArray, List.getElem?_cons_zero, List.getElem?_cons_succ] at n6
  have n7 := cell_of (hw.cells 0 rfl) 7
  simp only [List.getElem?_toArray, List.getElem?_cons_zero, List.getElem?_cons_succ] at n7
  go_enter Try.func10, Try.ntmps10
  go_wp2_with fail
  refine (MAY.out).mono ?_
  rintro en w1 ⟨rfl, hb⟩
  rw [HM.out]
  replace hs1 := hs1.belowStep hb
  clear n0 n1 n2 n3 n4 n5 n6 n7
  go_wp2_with fail
  go_ret2
  exact ⟨rfl, hs1.tail⟩
set_option maxHeartbeats 2000000 in
theorem add_full {w0 w : World} {L : List Thing} (hs : Sep w0 w L) (i b : Nat) (ks : List Ro) (n : Int) (N : Nat) (hi : L[i]? = some (arcT b ks n N)) (h4 : ks.length = 4) (r : Ro) (h : r.Ok w) (hm : mayC r.co = true) (hN : 4611686018427387904 ≤ N) :
    Calls Try.prog 10 #[.pointer (some ⟨b, 0, none⟩), r.val] w fun en w' => en = .returned (.tuple #[.int .u64 0, .int .i64 6]) ∧ Sep w0 w' L := by
  obtain ⟨rno, day, comp, ai, ci, ids, rn, ae, ce, es, af, cf, fl, ap, cp, pot⟩ := r
  have hw := ((Sep.start w).newCells #[.int .u64 rno, .int .i64 day, .bool comp, .slice ai ids.length ci, .int .i64 rn, .slice ae es.length ce, .slice af fl.length cf, .slice ap pot.length cp] 39)
  have hs1 := (hs.newCells #[.int .u64 rno, .int .i64 day, .bool comp, .slice ai ids.length ci, .int .i64 rn, .slice ae es.length ce, .slice af fl.length cf, .slice ap pot.length cp] 39)
  have MAY := Lib.hid (may_any ⟨rno, day, comp, ai, ci, ids, rn, ae, ce, es, af, cf, fl, ap, cp, pot⟩ _ (h.sep hw))
  have HM := Lib.hid hm
  clear hm
  have HI := Lib.hid hi
  clear hi
  dsimp only [Ro.val] at *
  have n0 := cell_of (hw.cells 0 rfl) 0
  simp only [List.getElem?_toArray, List.getElem?_cons_zero, List.getElem?_cons_succ] at n0
  have n1 := cell_of (hw.cells 0 rfl) 1
  simp only [List.getElem?_toArray, List.getElem?_cons_zero, List.getElem?_cons_succ] at n1
  have n2 := cell_of (hw.cells 0 rfl) 2
  simp only [List.getElem?_toArray, List.getElem?_cons_zero, List.getElem?_cons_succ] at n2
  have n3 := cell_of (hw.cells 0 rfl) 3
  simp only [List.getElem?_toArray, List.getElem?_cons_zero, List.getElem?_cons_succ] at n3
  have n4 := cell_of (hw.cells 0 rfl) 4
  simp only [List.getElem?_toArray, List.getElem?_cons_zero, List.getElem?_cons_succ] at n4
  have n5 := cell_of (hw.cells 0 rfl) 5
  simp only [List.getElem?_toArray, List.getElem?_cons_zero, List.getElem?_cons_succ] at n5
  have n6 := cell_of (hw.cells 0 rfl) 6
  simp only [List.getElem?_toArray, List.getElem?_cons_zero, List.getElem?_cons_succ] at n6
  have n7 := cell_of (hw.cells 0 rfl) 7
  simp only [List.getElem?_toArray, List.getElem?_cons_zero, List.getElem?_cons_succ] at n7
  go_enter Try.func10, Try.ntmps10
  go_wp2_with fail
  refine (MAY.out).mono ?_
  rintro en w1 ⟨rfl, hb⟩
  rw [HM.out]
  replace hs1 := (hs1.belowStep hb).tail
  clear n0 n1 n2 n3 n4 n5 n6 n7
  obtain ⟨an, ano⟩ := arch_n h4 (Sep.arch hs1 HI.out).1
  have e1 : decide (4611686018427387904 ≤ (N : Int)) = true := decide_eq_true (by omega)
  go_wp2_with fail
  go_ret2
  exact ⟨rfl, hs1⟩
set_option maxHeartbeats 4000000 in
theorem add_yes {w0 w : World} {L : List Thing} (hs : Sep w0 w L) (i b : Nat) (ks : List Ro) (n : Int) (N : Nat) (hi : L[i]? = some (arcT b ks n N)) (h4 : ks.length = 4) (hn : 0 ≤ n ∧ n ≤ 4) (r : Ro) (h : r.Ok w) (hm : mayC r.co = true) (hN : N < 4611686018427387904) :
    Calls Try.prog 10 #[.pointer (some ⟨b, 0, none⟩), r.val] w fun en w' => en = .returned (.tuple #[.int .u64 (N + 1), .int .i64 0]) ∧ ∃ r', r'.co = { r.co with no := (N : Int) + 1 } ∧ Sep w0 w' (L.set i (arcT b (ks.set ((N + 1) % 4) r') (cap4 n) (N + 1 : Nat))) := by
  have hsm := may_small hm
  obtain ⟨rno, day, comp, ai, ci, ids, rn, ae, ce, es, af, cf, fl, ap, cp, pot⟩ := r
  have hw := ((Sep.start w).newCells #[.int .u64 rno, .int .i64 day, .bool comp, .slice ai ids.length ci, .int .i64 rn, .slice ae es.length ce, .slice af fl.length cf, .slice ap pot.length cp] 39)
  have hs1 := (hs.newCells #[.int .u64 rno, .int .i64 day, .bool comp, .slice ai ids.length ci, .int .i64 rn, .slice ae es.length ce, .slice af fl.length cf, .slice ap pot.length cp] 39)
  have MAY := Lib.hid (may_any ⟨rno, day, comp, ai, ci, ids, rn, ae, ce, es, af, cf, fl, ap, cp, pot⟩ _ (h.sep hw))
  have HM := Lib.hid hm
  clear hm
  have HI := Lib.hid hi
  have HOK := Lib.hid h
  have HSM := Lib.hid hsm
  clear hi h hsm
  dsimp only [Ro.val, Ro.co] at *
  have n0 := cell_of (hw.cells 0 rfl) 0
  simp only [List.getElem?_toArray, List.getElem?_cons_zero, List.getElem?_cons_succ] at n0
  have n1 := cell_of (hw.cells 0 rfl) 1
  simp only [List.getElem?_toArray, List.getElem?_cons_zero, List.getElem?_cons_succ] at n1
  have n2 := cell_of (hw.cells 0 rfl) 2
  simp only [List.getElem?_toArray, List.getElem?_cons_zero, List.getElem?_cons_succ] at n2
  have n3 := cell_of (hw.cells 0 rfl) 3
  simp only [List.getElem?_toArray, List.getElem?_cons_zero, List.getElem?_cons_succ] at n3
  have n4 := cell_of (hw.cells 0 rfl) 4
  simp only [List.getElem?_toArray, List.getElem?_cons_zero, List.getElem?_cons_succ] at n4
  have n5 := cell_of (hw.cells 0 rfl) 5
  simp only [List.getElem?_toArray, List.getElem?_cons_zero, List.getElem?_cons_succ] at n5
  have n6 := cell_of (hw.cells 0 rfl) 6
  simp only [List.getElem?_toArray, List.getElem?_cons_zero, List.getElem?_cons_succ] at n6
  have n7 := cell_of (hw.cells 0 rfl) 7
  simp only [List.getElem?_toArray, List.getElem?_cons_zero, List.getElem?_cons_succ] at n7
  go_enter Try.func10, Try.ntmps10
  go_wp2_with fail
  refine (MAY.out).mono ?_
  rintro en w1 ⟨rfl, hb⟩
  rw [HM.out]
  replace hs1 := hs1.belowStep hb
  replace hw := hw.belowStep hb
  clear n0 n1 n2 n3 n4 n5 n6 n7 MAY hb
  obtain ⟨an, ano⟩ := arch_n h4 (Sep.arch hs1.tail HI.out).1
  have e1 : decide (4611686018427387904 ≤ (N : Int)) = false := decide_eq_false (by omega)
  have n0 := cell_of (hs1.cells 0 rfl) 0
  simp only [List.getElem?_toArray, List.getElem?_cons_zero, List.getElem?_cons_succ] at n0
  have n1 := cell_of (hs1.cells 0 rfl) 1
  simp only [List.getElem?_toArray, List.getElem?_cons_zero, List.getElem?_cons_succ] at n1
  have n2 := cell_of (hs1.cells 0 rfl) 2
  simp only [List.getElem?_toArray, List.getElem?_cons_zero, List.getElem?_cons_succ] at n2
  have n3 := cell_of (hs1.cells 0 rfl) 3
  simp only [List.getElem?_toArray, List.getElem?_cons_zero, List.getElem?_cons_succ] at n3
  have n4 := cell_of (hs1.cells 0 rfl) 4
  simp only [List.getElem?_toArray, List.getElem?_cons_zero, List.getElem?_cons_succ] at n4
  have n5 := cell_of (hs1.cells 0 rfl) 5
  simp only [List.getElem?_toArray, List.getElem?_cons_zero, List.getElem?_cons_succ] at n5
  have n6 := cell_of (hs1.cells 0 rfl) 6
  simp only [List.getElem?_toArray, List.getElem?_cons_zero, List.getElem?_cons_succ] at n6
  have n7 := cell_of (hs1.cells 0 rfl) 7
  simp only [List.getElem?_toArray, List.getElem?_cons_zero, List.getElem?_cons_succ] at n7
  have qf := fun j => frozen_of (hs1.cells 0 rfl) j
  have hs2 := hs1.setC 0 rfl 0 (.int .u64 (N + 1)) #[.int .u64 (N + 1), .int .i64 day, .bool comp, .slice ai ids.length ci, .int .i64 rn, .slice ae es.length ce, .slice af fl.length cf, .slice ap pot.length cp] rfl
  have hw2 := hw.setC 0 rfl 0 (.int .u64 (N + 1)) #[.int .u64 (N + 1), .int .i64 day, .bool comp, .slice ai ids.length ci, .int .i64 rn, .slice ae es.length ce, .slice af fl.length cf, .slice ap pot.length cp] rfl
  simp only [List.set_cons_zero] at hs2 hw2
  have PUT := Lib.hid (put_any hs2 (i + 1) b ks n N (by simpa using HI.out) h4 hn ⟨(N : Int) + 1, day, comp, ai, ci, ids, rn, ae, ce, es, af, cf, fl, ap, cp, pot⟩ (N + 1) (by simp) (by omega) (Ro.Ok.sep (r := ⟨(N : Int) + 1, day, comp, ai, ci, ids, rn, ae, ce, es, af, cf, fl, ap, cp, pot⟩) HOK.out hw2) HSM.out)
  dsimp only [Ro.val, Ro.co] at PUT
  go_wp2_with fail
  refine (PUT.out).mono ?_
  rintro en w2 ⟨⟨u, rfl⟩, r', hco, hs3⟩
  simp only [List.set_cons_succ] at hs3
  clear n0 n1 n2 n3 n4 n5 n6 n7 PUT hs2 hw2 hs1 hw an ano qf
  have n0 := cell_of (hs3.cells 0 rfl) 0
  simp only [List.getElem?_toArray, List.getElem?_cons_zero, List.getElem?_cons_succ] at n0
  have HCO := Lib.hid hco
  clear hco
  go_wp2_with fail
  go_ret2
  exact ⟨rfl, r', by simpa only [Co.mk.injEq] using HCO.out, hs3.tail⟩
end Go.Proofs.Ytfnkmkfkomhhnaa
