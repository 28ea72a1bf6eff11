/-
  Add, Get, List; the example.
-/
import Derived.Test.YtfnkmkfkomhhnaaVA
/-
  Package archive, walked: Add.
-/
namespace Go.Proofs.Ytfnkmkfkomhhnaa
open Go Go.RowKit Go.Mem Go.NetP Go.CertP Go.ArchP

set_option maxHeartbeats 2000000 in
theorem add_nil (r : Ro) (w : World) : Calls Try.prog 10 #[.pointer none, r.val] w fun en w' => en = .returned (.tuple #[.int .u64 0, .int .i64 2]) ∧ Below w.heap.size w w' := by
  obtain ⟨rno, day, comp, ai, ci, ids, rn, ae, ce, es, af, cf, fl, ap, cp, pot⟩ := r
  have hw := ((Sep.start w).newCells #[.int .u64 rno, .int .i64 day, .bool comp, .slice ai ids.length ci, .int .i64 rn, .slice ae es.length ce, .slice af fl.length cf, .slice ap pot.length cp] 39)
  dsimp only [Ro.val] at *
  go_enter Try.func10, Try.ntmps10
  go_wp2_with fail
  go_ret2
  exact ⟨rfl, hw.below⟩
set_option maxHeartbeats 2000000 in
theorem add_no {w0 w : World} {L : List Thing} (hs : Sep w0 w L) (b : Nat) (r : Ro) (h : r.Ok w) (hm : mayC r.co = false) :
    Calls Try.prog 10 #[.pointer (some ⟨b, 0, none⟩), r.val] w fun en w' => en = .returned (.tuple #[.int .u64 0, .int .i64 1]) ∧ Sep w0 w' L := by
  obtain ⟨rno, day, comp, ai, ci, ids, rn, ae, ce, es, af, cf, fl, ap, cp, pot⟩ := r
  have hw := ((Sep.start w).newCells #[.int .u64 rno, .int .i64 day, .bool comp, .slice ai ids.length ci, .int .i64 rn, .slice ae es.length ce, .slice af fl.length cf, .slice ap pot.length cp] 39)
  have hs1 := (hs.newCells #[.int .u64 rno, .int .i64 day, .bool comp, .slice ai ids.length ci, .int .i64 rn, .slice ae es.length ce, .slice af fl.length cf, .slice ap pot.length cp] 39)
  have MAY := Lib.hid (may_any ⟨rno, day, comp, ai, ci, ids, rn, ae, ce, es, af, cf, fl, ap, cp, pot⟩ _ (h.sep hw))
  have HM := Lib.hid hm
  clear hm
  dsimp only [Ro.val] at *
  have n0 := cell_of (hw.cells 0 rfl) 0
  simp only [List.getElem?_toArray, List.getElem?_cons_zero, List.getElem?_cons_succ] at n0
  have n1 := cell_of (hw.cells 0 rfl) 1
  simp only [List.getElem?_toArray, List.getElem?_cons_zero, List.getElem?_cons_succ] at n1
  have n2 := cell_of (hw.cells 0 rfl) 2
  simp only [List.getElem?_toArray, List.getElem?_cons_zero, List.getElem?_cons_succ] at n2
  have n3 := cell_of (hw.cells 0 rfl) 3
  simp only [List.getElem?_toArray, List.getElem?_cons_zero, List.getElem?_cons_succ] at n3
  have n4 := cell_of (hw.cells 0 rfl) 4
  simp only [List.getElem?_toArray, List.getElem?_cons_zero, List.getElem?_cons_succ] at n4
  have n5 := cell_of (hw.cells 0 rfl) 5
  simp only [List.getElem?_toArray, List.getElem?_cons_zero, List.getElem?_cons_succ] at n5
  have n6 := cell_of (hw.cells 0 rfl) 6
  simp only [List.getElem?_toArray, List.getElem?_cons_zero, List.getElem?_cons_succ] at n6
  have n7 := cell_of (hw.cells 0 rfl) 7
  simp only [List.getElem?_toArray, List.getElem?_cons_zero, List.getElem?_cons_succ] at n7
  go_enter Try.func10, Try.ntmps10
  go_wp2_with fail
  refine (MAY.out).mono ?_
  rintro en w1 ⟨rfl, hb⟩
  rw [HM.out]
  replace hs1 := hs1.belowStep hb
  clear n0 n1 n2 n3 n4 n5 n6 n7
  go_wp2_with fail
  go_ret2
  exact ⟨rfl, hs1.tail⟩
set_option maxHeartbeats 2000000 in
theorem add_full {w0 w : World} {L : List Thing} (hs : Sep w0 w L) (i b : Nat) (ks : List Ro) (n : Int) (N : Nat) (hi : L[i]? = some (arcT b ks n N)) (h4 : ks.length = 4) (r : Ro) (h : r.Ok w) (hm : mayC r.co = true) (hN : 4611686018427387904 ≤ N) :
    Calls Try.prog 10 #[.pointer (some ⟨b, 0, none⟩), r.val] w fun en w' => en = .returned (.tuple #[.int .u64 0, .int .i64 6]) ∧ Sep w0 w' L := by
  obtain ⟨rno, day, comp, ai, ci, ids, rn, ae, ce, es, af, cf, fl, ap, cp, pot⟩ := r
  have hw := ((Sep.start w).newCells #[.int .u64 rno, .int .i64 day, .bool comp, .slice ai ids.length ci, .int .i64 rn, .slice ae es.length ce, .slice af fl.length cf, .slice ap pot.length cp] 39)
  have hs1 := (hs.newCells #[.int .u64 rno, .int .i64 day, .bool comp, .slice ai ids.length ci, .int .i64 rn, .slice ae es.length ce, .slice af fl.length cf, .slice ap pot.length cp] 39)
  have MAY := Lib.hid (may_any ⟨rno, day, comp, ai, ci, ids, rn, ae, ce, es, af, cf, fl, ap, cp, pot⟩ _ (h.sep hw))
  have HM := Lib.hid hm
  clear hm
  have HI := Lib.hid hi
  clear hi
  dsimp only [Ro.val] at *
  have n0 := cell_of (hw.cells 0 rfl) 0
  simp only [List.getElem?_toArray, List.getElem?_cons_zero, List.getElem?_cons_succ] at n0
  have n1 := cell_of (hw.cells 0 rfl) 1
  simp only [List.getElem?_toArray, List.getElem?_cons_zero, List.getElem?_cons_succ] at n1
  have n2 := cell_of (hw.cells 0 rfl) 2
  simp only [List.getElem?_toArray, List.getElem?_cons_zero, List.getElem?_cons_succ] at n2
  have n3 := cell_of (hw.cells 0 rfl) 3
  simp only [List.getElem?_toArray, List.getElem?_cons_zero, List.getElem?_cons_succ] at n3
  have n4 := cell_of (hw.cells 0 rfl) 4
  simp only [List.getElem?_toArray, List.getElem?_cons_zero, List.getElem?_cons_succ] at n4
  have n5 := cell_of (hw.cells 0 rfl) 5
  simp only [List.getElem?_toArray, List.getElem?_cons_zero, List.getElem?_cons_succ] at n5
  have n6 := cell_of (hw.cells 0 rfl) 6
  simp only [List.getElem?_toArray, List.getElem?_cons_zero, List.getElem?_cons_succ] at n6
  have n7 := cell_of (hw.cells 0 rfl) 7
  simp only [List.getElem?_toArray, List.getElem?_cons_zero, List.getElem?_cons_succ] at n7
  go_enter Try.func10, Try.ntmps10
  go_wp2_with fail
  refine (MAY.out).mono ?_
  rintro en w1 ⟨rfl, hb⟩
  rw [HM.out]
  replace hs1 := (hs1.belowStep hb).tail
  clear n0 n1 n2 n3 n4 n5 n6 n7
  obtain ⟨an, ano⟩ := arch_n h4 (Sep.arch hs1 HI.out).1
  have e1 : decide (4611686018427387904 ≤ (N : Int)) = true := decide_eq_true (by omega)
  go_wp2_with fail
  go_ret2
  exact ⟨rfl, hs1⟩
set_option maxHeartbeats 4000000 in
theorem add_yes {w0 w : World} {L : List Thing} (hs : Sep w0 w L) (i b : Nat) (ks : List Ro) (n : Int) (N : Nat) (hi : L[i]? = some (arcT b ks n N)) (h4 : ks.length = 4) (hn : 0 ≤ n ∧ n ≤ 4) (r : Ro) (h : r.Ok w) (hm : mayC r.co = true) (hN : N < 4611686018427387904) :
    Calls Try.prog 10 #[.pointer (some ⟨b, 0, none⟩), r.val] w fun en w' => en = .returned (.tuple #[.int .u64 (N + 1), .int .i64 0]) ∧ ∃ r', r'.co = { r.co with no := (N : Int) + 1 } ∧ Sep w0 w' (L.set i (arcT b (ks.set ((N + 1) % 4) r') (cap4 n) (N + 1 : Nat))) := by
  have hsm := may_small hm
  obtain ⟨rno, day, comp, ai, ci, ids, rn, ae, ce, es, af, cf, fl, ap, cp, pot⟩ := r
  have hw := ((Sep.start w).newCells #[.int .u64 rno, .int .i64 day, .bool comp, .slice ai ids.length ci, .int .i64 rn, .slice ae es.length ce, .slice af fl.length cf, .slice ap pot.length cp] 39)
  have hs1 := (hs.newCells #[.int .u64 rno, .int .i64 day, .bool comp, .slice ai ids.length ci, .int .i64 rn, .slice ae es.length ce, .slice af fl.length cf, .slice ap pot.length cp] 39)
  have MAY := Lib.hid (may_any ⟨rno, day, comp, ai, ci, ids, rn, ae, ce, es, af, cf, fl, ap, cp, pot⟩ _ (h.sep hw))
  have HM := Lib.hid hm
  clear hm
  have HI := Lib.hid hi
  have HOK := Lib.hid h
  have HSM := Lib.hid hsm
  clear hi h hsm
  dsimp only [Ro.val, Ro.co] at *
  have n0 := cell_of (hw.cells 0 rfl) 0
  simp only [List.getElem?_toArray, List.getElem?_cons_zero, List.getElem?_cons_succ] at n0
  have n1 := cell_of (hw.cells 0 rfl) 1
  simp only [List.getElem?_toArray, List.getElem?_cons_zero, List.getElem?_cons_succ] at n1
  have n2 := cell_of (hw.cells 0 rfl) 2
  simp only [List.getElem?_toArray, List.getElem?_cons_zero, List.getElem?_cons_succ] at n2
  have n3 := cell_of (hw.cells 0 rfl) 3
  simp only [List.getElem?_toArray, List.getElem?_cons_zero, List.getElem?_cons_succ] at n3
  have n4 := cell_of (hw.cells 0 rfl) 4
  simp only [List.getElem?_toArray, List.getElem?_cons_zero, List.getElem?_cons_succ] at n4
  have n5 := cell_of (hw.cells 0 rfl) 5
  simp only [List.getElem?_toArray, List.getElem?_cons_zero, List.getElem?_cons_succ] at n5
  have n6 := cell_of (hw.cells 0 rfl) 6
  simp only [List.getElem?_toArray, List.getElem?_cons_zero, List.getElem?_cons_succ] at n6
  have n7 := cell_of (hw.cells 0 rfl) 7
  simp only [List.getElem?_toArray, List.getElem?_cons_zero, List.getElem?_cons_succ] at n7
  go_enter Try.func10, Try.ntmps10
  go_wp2_with fail
  refine (MAY.out).mono ?_
  rintro en w1 ⟨rfl, hb⟩
  rw [HM.out]
  replace hs1 := hs1.belowStep hb
  replace hw := hw.belowStep hb
  clear n0 n1 n2 n3 n4 n5 n6 n7 MAY hb
  obtain ⟨an, ano⟩ := arch_n h4 (Sep.arch hs1.tail HI.out).1
  have e1 : decide (4611686018427387904 ≤ (N : Int)) = false := decide_eq_false (by omega)
  have n0 := cell_of (hs1.cells 0 rfl) 0
  simp only [List.getElem?_toArray, List.getElem?_cons_zero, List.getElem?_cons_succ] at n0
  have n1 := cell_of (hs1.cells 0 rfl) 1
  simp only [List.getElem?_toArray, List.getElem?_cons_zero, List.getElem?_cons_succ] at n1
  have n2 := cell_of (hs1.cells 0 rfl) 2
  simp only [List.getElem?_toArray, List.getElem?_cons_zero, List.getElem?_cons_succ] at n2
  have n3 := cell_of (hs1.cells 0 rfl) 3
  simp only [List.getElem?_toArray, List.getElem?_cons_zero, List.getElem?_cons_succ] at n3
  have n4 := cell_of (hs1.cells 0 rfl) 4
  simp only [List.getElem?_toArray, List.getElem?_cons_zero, List.getElem?_cons_succ] at n4
  have n5 := cell_of (hs1.cells 0 rfl) 5
  simp only [List.getElem?_toArray, List.getElem?_cons_zero, List.getElem?_cons_succ] at n5
  have n6 := cell_of (hs1.cells 0 rfl) 6
  simp only [List.getElem?_toArray, List.getElem?_cons_zero, List.getElem?_cons_succ] at n6
  have n7 := cell_of (hs1.cells 0 rfl) 7
  simp only [List.getElem?_toArray, List.getElem?_cons_zero, List.getElem?_cons_succ] at n7
  have qf := fun j => frozen_of (hs1.cells 0 rfl) j
  have hs2 := hs1.setC 0 rfl 0 (.int .u64 (N + 1)) #[.int .u64 (N + 1), .int .i64 day, .bool comp, .slice ai ids.length ci, .int .i64 rn, .slice ae es.length ce, .slice af fl.length cf, .slice ap pot.length cp] rfl
  have hw2 := hw.setC 0 rfl 0 (.int .u64 (N + 1)) #[.int .u64 (N + 1), .int .i64 day, .bool comp, .slice ai ids.length ci, .int .i64 rn, .slice ae es.length ce, .slice af fl.length cf, .slice ap pot.length cp] rfl
  simp only [List.set_cons_zero] at hs2 hw2
  have PUT := Lib.hid (put_any hs2 (i + 1) b ks n N (by simpa using HI.out) h4 hn ⟨(N : Int) + 1, day, comp, ai, ci, ids, rn, ae, ce, es, af, cf, fl, ap, cp, pot⟩ (N + 1) (by simp) (by omega) (Ro.Ok.sep (r := ⟨(N : Int) + 1, day, comp, ai, ci, ids, rn, ae, ce, es, af, cf, fl, ap, cp, pot⟩) HOK.out hw2) HSM.out)
  dsimp only [Ro.val, Ro.co] at PUT
  go_wp2_with fail
  refine (PUT.out).mono ?_
  rintro en w2 ⟨⟨u, rfl⟩, r', hco, hs3⟩
  simp only [List.set_cons_succ] at hs3
  clear n0 n1 n2 n3 n4 n5 n6 n7 PUT hs2 hw2 hs1 hw an ano qf
  have n0 := cell_of (hs3.cells 0 rfl) 0
  simp only [List.getElem?_toArray, List.getElem?_cons_zero, List.getElem?_cons_succ] at n0
  have HCO := Lib.hid hco
  clear hco
  go_wp2_with fail
  go_ret2
  exact ⟨rfl, r', by simpa only [Co.mk.injEq] using HCO.out, hs3.tail⟩
end Go.Proofs.Ytfnkmkfkomhhnaa

/-
  Package archive, walked: Get.
-/
namespace Go.Proofs.Ytfnkmkfkomhhnaa
open Go Go.RowKit Go.Mem Go.NetP Go.CertP Go.ArchP

/-- A round that says nothing, as a value. -/
def zeroV : Value := .agg #[.int .u64 0, .int .i64 0, .bool false, .slice none 0 0, .int .i64 0, .slice none 0 0, .slice none 0 0, .slice none 0 0]
set_option maxHeartbeats 2000000 in
theorem get_nil (q : Int) (w : World) : Calls Try.prog 14 #[.pointer none, .int .u64 q] w fun en w' => en = .returned (.tuple #[zeroV, .bool false]) ∧ Below w.heap.size w w' := by
  have hs := (Sep.start w).newCells #[.int .u64 0, .int .i64 0, .bool false, .slice none 0 0, .int .i64 0, .slice none 0 0, .slice none 0 0, .slice none 0 0] 39
  have z0 := cell_of (hs.cells 0 rfl) 0
  simp only [List.getElem?_toArray, List.getElem?_cons_zero, List.getElem?_cons_succ] at z0
  have z1 := cell_of (hs.cells 0 rfl) 1
  simp only [List.getElem?_toArray, List.getElem?_cons_zero, List.getElem?_cons_succ] at z1
  have z2 := cell_of (hs.cells 0 rfl) 2
  simp only [List.getElem?_toArray, List.getElem?_cons_zero, List.getElem?_cons_succ] at z2
  have z3 := cell_of (hs.cells 0 rfl) 3
  simp only [List.getElem?_toArray, List.getElem?_cons_zero, List.getElem?_cons_succ] at z3
  have z4 := cell_of (hs.cells 0 rfl) 4
  simp only [List.getElem?_toArray, List.getElem?_cons_zero, List.getElem?_cons_succ] at z4
  have z5 := cell_of (hs.cells 0 rfl) 5
  simp only [List.getElem?_toArray, List.getElem?_cons_zero, List.getElem?_cons_succ] at z5
  have z6 := cell_of (hs.cells 0 rfl) 6
  simp only [List.getElem?_toArray, List.getElem?_cons_zero, List.getElem?_cons_succ] at z6
  have z7 := cell_of (hs.cells 0 rfl) 7
  simp only [List.getElem?_toArray, List.getElem?_cons_zero, List.getElem?_cons_succ] at z7
  have qf := fun j => frozen_of (hs.cells 0 rfl) j
  go_enter Try.func14, Try.ntmps14
  go_wp2_with fail
  refine Mix.region [0, 0, 0, 0, 0, 0, 0, 0, 0, 0, 0, 0, 0, 0, 0, 0, 0, 0, 0, 0, 0, 0, 0] (fun _ => True) (by kernel_rfl) (by kernel_rfl) trivial ?_
  simp only [List.zip_cons_cons, List.zip_nil_right]
  iterate 3 (refine Mix.step0 fun K hK => ?_; go_simp; (try (go_bits; try go_simp)); first | ((with_reducible refine hK _ _ ?_); clear hK K) | ((try (simp only [IntWalk.iteOmega]; try go_simp)); (try go_bits); (with_reducible refine hK _ _ ?_); clear hK K))
  iterate 6 (first | (refine Mix.stepS rfl fun K hK => ?_; go_simp; (with_reducible refine hK _ _ ?_); clear hK K) | (refine Mix.step0 fun K hK => ?_; go_simp; (try (go_bits; try go_simp)); first | ((with_reducible refine hK _ _ ?_); clear hK K) | ((try (simp only [IntWalk.iteOmega]; try go_simp)); (try go_bits); (with_reducible refine hK _ _ ?_); clear hK K)))
  iterate 2 (refine Mix.step0 fun K hK => ?_; go_simp; (try (go_bits; try go_simp)); first | ((with_reducible refine hK _ _ ?_); clear hK K) | ((try (simp only [IntWalk.iteOmega]; try go_simp)); (try go_bits); (with_reducible refine hK _ _ ?_); clear hK K))
  iterate 11 (first | (refine Mix.stepS rfl fun K hK => ?_; go_simp; (with_reducible refine hK _ _ ?_); clear hK K) | (refine Mix.step0 fun K hK => ?_; go_simp; (try (go_bits; try go_simp)); first | ((with_reducible refine hK _ _ ?_); clear hK K) | ((try (simp only [IntWalk.iteOmega]; try go_simp)); (try go_bits); (with_reducible refine hK _ _ ?_); clear hK K)))
  iterate 1 (refine Mix.step0 fun K hK => ?_; go_simp; (try (go_bits; try go_simp)); first | ((with_reducible refine hK _ _ ?_); clear hK K) | ((try (simp only [IntWalk.iteOmega]; try go_simp)); (try go_bits); (with_reducible refine hK _ _ ?_); clear hK K))
  refine Mix.done ?_
  have hsd := hs.drew
  clear z0 z1 z2 z3 z4 z5 z6 z7 qf
  have z0 := cell_of (hsd.cells 0 rfl) 0
  simp only [List.getElem?_toArray, List.getElem?_cons_zero, List.getElem?_cons_succ] at z0
  have z1 := cell_of (hsd.cells 0 rfl) 1
  simp only [List.getElem?_toArray, List.getElem?_cons_zero, List.getElem?_cons_succ] at z1
  have z2 := cell_of (hsd.cells 0 rfl) 2
  simp only [List.getElem?_toArray, List.getElem?_cons_zero, List.getElem?_cons_succ] at z2
  have z3 := cell_of (hsd.cells 0 rfl) 3
  simp only [List.getElem?_toArray, List.getElem?_cons_zero, List.getElem?_cons_succ] at z3
  have z4 := cell_of (hsd.cells 0 rfl) 4
  simp only [List.getElem?_toArray, List.getElem?_cons_zero, List.getElem?_cons_succ] at z4
  have z5 := cell_of (hsd.cells 0 rfl) 5
  simp only [List.getElem?_toArray, List.getElem?_cons_zero, List.getElem?_cons_succ] at z5
  have z6 := cell_of (hsd.cells 0 rfl) 6
  simp only [List.getElem?_toArray, List.getElem?_cons_zero, List.getElem?_cons_succ] at z6
  have z7 := cell_of (hsd.cells 0 rfl) 7
  simp only [List.getElem?_toArray, List.getElem?_cons_zero, List.getElem?_cons_succ] at z7
  have qf := fun j => frozen_of (hsd.cells 0 rfl) j
  go_wp2_with fail
  exact bodyPost_ret (v := .tuple #[zeroV, .bool false]) (by simp [zeroV, results, Try.results14, go_sem, z0, z1, z2, z3, z4, z5, z6, z7]) rfl ⟨rfl, hsd.below⟩
set_option maxHeartbeats 2000000 in
theorem get_over (b : Nat) (n : Int) (N q : Nat) (w : World) (hb : b < w.heap.size) (hn : w.cell? ⟨b, 32, none⟩ = some (.int .u64 n)) (hno : w.cell? ⟨b, 33, none⟩ = some (.int .u64 N)) (hq : N < q) :
    Calls Try.prog 14 #[.pointer (some ⟨b, 0, none⟩), .int .u64 q] w fun en w' => en = .returned (.tuple #[zeroV, .bool false]) ∧ Below w.heap.size w w' := by
  have hs := (Sep.start w).newCells #[.int .u64 0, .int .i64 0, .bool false, .slice none 0 0, .int .i64 0, .slice none 0 0, .slice none 0 0, .slice none 0 0] 39
  have z0 := cell_of (hs.cells 0 rfl) 0
  simp only [List.getElem?_toArray, List.getElem?_cons_zero, List.getElem?_cons_succ] at z0
  have z1 := cell_of (hs.cells 0 rfl) 1
  simp only [List.getElem?_toArray, List.getElem?_cons_zero, List.getElem?_cons_succ] at z1
  have z2 := cell_of (hs.cells 0 rfl) 2
  simp only [List.getElem?_toArray, List.getElem?_cons_zero, List.getElem?_cons_succ] at z2
  have z3 := cell_of (hs.cells 0 rfl) 3
  simp only [List.getElem?_toArray, List.getElem?_cons_zero, List.getElem?_cons_succ] at z3
  have z4 := cell_of (hs.cells 0 rfl) 4
  simp only [List.getElem?_toArray, List.getElem?_cons_zero, List.getElem?_cons_succ] at z4
  have z5 := cell_of (hs.cells 0 rfl) 5
  simp only [List.getElem?_toArray, List.getElem?_cons_zero, List.getElem?_cons_succ] at z5
  have z6 := cell_of (hs.cells 0 rfl) 6
  simp only [List.getElem?_toArray, List.getElem?_cons_zero, List.getElem?_cons_succ] at z6
  have z7 := cell_of (hs.cells 0 rfl) 7
  simp only [List.getElem?_toArray, List.getElem?_cons_zero, List.getElem?_cons_succ] at z7
  have qf := fun j => frozen_of (hs.cells 0 rfl) j
  replace hn := (hs.cell (o := 32) hb).trans hn
  replace hno := (hs.cell (o := 33) hb).trans hno
  have e1 : decide ((N : Int) < (q : Int)) = true := decide_eq_true (by omega)
  go_enter Try.func14, Try.ntmps14
  go_wp2_with fail
  refine Mix.region [0, 0, 0, 0, 0, 0, 0, 0, 0, 0, 0, 0, 0, 0, 0, 0, 0, 0, 0, 0, 0, 0, 0] (fun _ => True) (by kernel_rfl) (by kernel_rfl) trivial ?_
  simp only [List.zip_cons_cons, List.zip_nil_right]
  iterate 3 (refine Mix.step0 fun K hK => ?_; go_simp; (try (go_bits; try go_simp)); first | ((with_reducible refine hK _ _ ?_); clear hK K) | ((try (simp only [IntWalk.iteOmega]; try go_simp)); (try go_bits); (with_reducible refine hK _ _ ?_); clear hK K))
  iterate 6 (first | (refine Mix.stepS rfl fun K hK => ?_; go_simp; (with_reducible refine hK _ _ ?_); clear hK K) | (refine Mix.step0 fun K hK => ?_; go_simp; (try (go_bits; try go_simp)); first | ((with_reducible refine hK _ _ ?_); clear hK K) | ((try (simp only [IntWalk.iteOmega]; try go_simp)); (try go_bits); (with_reducible refine hK _ _ ?_); clear hK K)))
  iterate 2 (refine Mix.step0 fun K hK => ?_; go_simp; (try (go_bits; try go_simp)); first | ((with_reducible refine hK _ _ ?_); clear hK K) | ((try (simp only [IntWalk.iteOmega]; try go_simp)); (try go_bits); (with_reducible refine hK _ _ ?_); clear hK K))
  iterate 11 (first | (refine Mix.stepS rfl fun K hK => ?_; go_simp; (with_reducible refine hK _ _ ?_); clear hK K) | (refine Mix.step0 fun K hK => ?_; go_simp; (try (go_bits; try go_simp)); first | ((with_reducible refine hK _ _ ?_); clear hK K) | ((try (simp only [IntWalk.iteOmega]; try go_simp)); (try go_bits); (with_reducible refine hK _ _ ?_); clear hK K)))
  iterate 1 (refine Mix.step0 fun K hK => ?_; go_simp; (try (go_bits; try go_simp)); first | ((with_reducible refine hK _ _ ?_); clear hK K) | ((try (simp only [IntWalk.iteOmega]; try go_simp)); (try go_bits); (with_reducible refine hK _ _ ?_); clear hK K))
  refine Mix.done ?_
  have hsd := hs.drew
  clear z0 z1 z2 z3 z4 z5 z6 z7 qf hn hno
  have z0 := cell_of (hsd.cells 0 rfl) 0
  simp only [List.getElem?_toArray, List.getElem?_cons_zero, List.getElem?_cons_succ] at z0
  have z1 := cell_of (hsd.cells 0 rfl) 1
  simp only [List.getElem?_toArray, List.getElem?_cons_zero, List.getElem?_cons_succ] at z1
  have z2 := cell_of (hsd.cells 0 rfl) 2
  simp only [List.getElem?_toArray, List.getElem?_cons_zero, List.getElem?_cons_succ] at z2
  have z3 := cell_of (hsd.cells 0 rfl) 3
  simp only [List.getElem?_toArray, List.getElem?_cons_zero, List.getElem?_cons_succ] at z3
  have z4 := cell_of (hsd.cells 0 rfl) 4
  simp only [List.getElem?_toArray, List.getElem?_cons_zero, List.getElem?_cons_succ] at z4
  have z5 := cell_of (hsd.cells 0 rfl) 5
  simp only [List.getElem?_toArray, List.getElem?_cons_zero, List.getElem?_cons_succ] at z5
  have z6 := cell_of (hsd.cells 0 rfl) 6
  simp only [List.getElem?_toArray, List.getElem?_cons_zero, List.getElem?_cons_succ] at z6
  have z7 := cell_of (hsd.cells 0 rfl) 7
  simp only [List.getElem?_toArray, List.getElem?_cons_zero, List.getElem?_cons_succ] at z7
  have qf := fun j => frozen_of (hsd.cells 0 rfl) j
  go_wp2_with fail
  exact bodyPost_ret (v := .tuple #[zeroV, .bool false]) (by simp [zeroV, results, Try.results14, go_sem, z0, z1, z2, z3, z4, z5, z6, z7]) rfl ⟨rfl, hsd.below⟩
set_option maxHeartbeats 2000000 in
theorem get_old (b : Nat) (n : Int) (N q : Nat) (w : World) (hb : b < w.heap.size) (hn : w.cell? ⟨b, 32, none⟩ = some (.int .u64 n)) (hno : w.cell? ⟨b, 33, none⟩ = some (.int .u64 N)) (hq : q ≤ N) (hN : N ≤ 4611686018427387905) (hqn : n ≤ (N : Int) - q) :
    Calls Try.prog 14 #[.pointer (some ⟨b, 0, none⟩), .int .u64 q] w fun en w' => en = .returned (.tuple #[zeroV, .bool false]) ∧ Below w.heap.size w w' := by
  have hs := (Sep.start w).newCells #[.int .u64 0, .int .i64 0, .bool false, .slice none 0 0, .int .i64 0, .slice none 0 0, .slice none 0 0, .slice none 0 0] 39
  have z0 := cell_of (hs.cells 0 rfl) 0
  simp only [List.getElem?_toArray, List.getElem?_cons_zero, List.getElem?_cons_succ] at z0
  have z1 := cell_of (hs.cells 0 rfl) 1
  simp only [List.getElem?_toArray, List.getElem?_cons_zero, List.getElem?_cons_succ] at z1
  have z2 := cell_of (hs.cells 0 rfl) 2
  simp only [List.getElem?_toArray, List.getElem?_cons_zero, List.getElem?_cons_succ] at z2
  have z3 := cell_of (hs.cells 0 rfl) 3
  simp only [List.getElem?_toArray, List.getElem?_cons_zero, List.getElem?_cons_succ] at z3
  have z4 := cell_of (hs.cells 0 rfl) 4
  simp only [List.getElem?_toArray, List.getElem?_cons_zero, List.getElem?_cons_succ] at z4
  have z5 := cell_of (hs.cells 0 rfl) 5
  simp only [List.getElem?_toArray, List.getElem?_cons_zero, List.getElem?_cons_succ] at z5
  have z6 := cell_of (hs.cells 0 rfl) 6
  simp only [List.getElem?_toArray, List.getElem?_cons_zero, List.getElem?_cons_succ] at z6
  have z7 := cell_of (hs.cells 0 rfl) 7
  simp only [List.getElem?_toArray, List.getElem?_cons_zero, List.getElem?_cons_succ] at z7
  have qf := fun j => frozen_of (hs.cells 0 rfl) j
  replace hn := (hs.cell (o := 32) hb).trans hn
  replace hno := (hs.cell (o := 33) hb).trans hno
  have e1 : decide ((N : Int) < (q : Int)) = false := decide_eq_false (by omega)
  have e2 : decide (n ≤ (N : Int) - (q : Int)) = true := decide_eq_true (by omega)
  go_enter Try.func14, Try.ntmps14
  go_wp2_with fail
  refine Mix.region [0, 0, 0, 0, 0, 0, 0, 0, 0, 0, 0, 0, 0, 0, 0, 0, 0, 0, 0, 0, 0, 0, 0] (fun _ => True) (by kernel_rfl) (by kernel_rfl) trivial ?_
  simp only [List.zip_cons_cons, List.zip_nil_right]
  iterate 3 (refine Mix.step0 fun K hK => ?_; go_simp; (try (go_bits; try go_simp)); first | ((with_reducible refine hK _ _ ?_); clear hK K) | ((try (simp only [IntWalk.iteOmega]; try go_simp)); (try go_bits); (with_reducible refine hK _ _ ?_); clear hK K))
  iterate 6 (first | (refine Mix.stepS rfl fun K hK => ?_; go_simp; (with_reducible refine hK _ _ ?_); clear hK K) | (refine Mix.step0 fun K hK => ?_; go_simp; (try (go_bits; try go_simp)); first | ((with_reducible refine hK _ _ ?_); clear hK K) | ((try (simp only [IntWalk.iteOmega]; try go_simp)); (try go_bits); (with_reducible refine hK _ _ ?_); clear hK K)))
  iterate 2 (refine Mix.step0 fun K hK => ?_; go_simp; (try (go_bits; try go_simp)); first | ((with_reducible refine hK _ _ ?_); clear hK K) | ((try (simp only [IntWalk.iteOmega]; try go_simp)); (try go_bits); (with_reducible refine hK _ _ ?_); clear hK K))
  iterate 11 (first | (refine Mix.stepS rfl fun K hK => ?_; go_simp; (with_reducible refine hK _ _ ?_); clear hK K) | (refine Mix.step0 fun K hK => ?_; go_simp; (try (go_bits; try go_simp)); first | ((with_reducible refine hK _ _ ?_); clear hK K) | ((try (simp only [IntWalk.iteOmega]; try go_simp)); (try go_bits); (with_reducible refine hK _ _ ?_); clear hK K)))
  iterate 1 (refine Mix.step0 fun K hK => ?_; go_simp; (try (go_bits; try go_simp)); first | ((with_reducible refine hK _ _ ?_); clear hK K) | ((try (simp only [IntWalk.iteOmega]; try go_simp)); (try go_bits); (with_reducible refine hK _ _ ?_); clear hK K))
  refine Mix.done ?_
  have hsd := hs.drew
  clear z0 z1 z2 z3 z4 z5 z6 z7 qf hn hno
  have z0 := cell_of (hsd.cells 0 rfl) 0
  simp only [List.getElem?_toArray, List.getElem?_cons_zero, List.getElem?_cons_succ] at z0
  have z1 := cell_of (hsd.cells 0 rfl) 1
  simp only [List.getElem?_toArray, List.getElem?_cons_zero, List.getElem?_cons_succ] at z1
  have z2 := cell_of (hsd.cells 0 rfl) 2
  simp only [List.getElem?_toArray, List.getElem?_cons_zero, List.getElem?_cons_succ] at z2
  have z3 := cell_of (hsd.cells 0 rfl) 3
  simp only [List.getElem?_toArray, List.getElem?_cons_zero, List.getElem?_cons_succ] at z3
  have z4 := cell_of (hsd.cells 0 rfl) 4
  simp only [List.getElem?_toArray, List.getElem?_cons_zero, List.getElem?_cons_succ] at z4
  have z5 := cell_of (hsd.cells 0 rfl) 5
  simp only [List.getElem?_toArray, List.getElem?_cons_zero, List.getElem?_cons_succ] at z5
  have z6 := cell_of (hsd.cells 0 rfl) 6
  simp only [List.getElem?_toArray, List.getElem?_cons_zero, List.getElem?_cons_succ] at z6
  have z7 := cell_of (hsd.cells 0 rfl) 7
  simp only [List.getElem?_toArray, List.getElem?_cons_zero, List.getElem?_cons_succ] at z7
  have qf := fun j => frozen_of (hsd.cells 0 rfl) j
  go_wp2_with fail
  exact bodyPost_ret (v := .tuple #[zeroV, .bool false]) (by simp [zeroV, results, Try.results14, go_sem, z0, z1, z2, z3, z4, z5, z6, z7]) rfl ⟨rfl, hsd.below⟩
set_option maxHeartbeats 4000000 in
theorem get_yes (b : Nat) (ks : List Ro) (n : Int) (N q : Nat) (w : World) (hA : w.heap[b]? = some (.cells (roR.flat ks ++ [Value.int .u64 n, Value.int .u64 N]).toArray 59 (0, 0))) (h4 : ks.length = 4) (hq : q ≤ N) (hN : N ≤ 4611686018427387905) (hqn : (N : Int) - q < n) (k : Ro) (hk : ks[q % 4]? = some k) (hok : k.Ok w) (hsm : k.small) :
    Calls Try.prog 14 #[.pointer (some ⟨b, 0, none⟩), .int .u64 q] w fun en w' => ∃ r', r'.co = k.co ∧ en = .returned (.tuple #[r'.val, .bool true]) ∧ Sep w w' [ownT r'] := by
  have hs := (Sep.start w).newCells #[.int .u64 0, .int .i64 0, .bool false, .slice none 0 0, .int .i64 0, .slice none 0 0, .slice none 0 0, .slice none 0 0] 39
  have z0 := cell_of (hs.cells 0 rfl) 0
  simp only [List.getElem?_toArray, List.getElem?_cons_zero, List.getElem?_cons_succ] at z0
  have z1 := cell_of (hs.cells 0 rfl) 1
  simp only [List.getElem?_toArray, List.getElem?_cons_zero, List.getElem?_cons_succ] at z1
  have z2 := cell_of (hs.cells 0 rfl) 2
  simp only [List.getElem?_toArray, List.getElem?_cons_zero, List.getElem?_cons_succ] at z2
  have z3 := cell_of (hs.cells 0 rfl) 3
  simp only [List.getElem?_toArray, List.getElem?_cons_zero, List.getElem?_cons_succ] at z3
  have z4 := cell_of (hs.cells 0 rfl) 4
  simp only [List.getElem?_toArray, List.getElem?_cons_zero, List.getElem?_cons_succ] at z4
  have z5 := cell_of (hs.cells 0 rfl) 5
  simp only [List.getElem?_toArray, List.getElem?_cons_zero, List.getElem?_cons_succ] at z5
  have z6 := cell_of (hs.cells 0 rfl) 6
  simp only [List.getElem?_toArray, List.getElem?_cons_zero, List.getElem?_cons_succ] at z6
  have z7 := cell_of (hs.cells 0 rfl) 7
  simp only [List.getElem?_toArray, List.getElem?_cons_zero, List.getElem?_cons_succ] at z7
  have qf := fun j => frozen_of (hs.cells 0 rfl) j
  have hb := lt_of hA
  obtain ⟨hlt, hk⟩ := List.getElem?_eq_some_iff.1 hk
  have hA2 := hs.below.block b hb
  have y0 := arch_cell hA (q % 4) hlt 0 (by decide)
  have y1 := arch_cell hA (q % 4) hlt 1 (by decide)
  have y2 := arch_cell hA (q % 4) hlt 2 (by decide)
  have y3 := arch_cell hA (q % 4) hlt 3 (by decide)
  have y4 := arch_cell hA (q % 4) hlt 4 (by decide)
  have y5 := arch_cell hA (q % 4) hlt 5 (by decide)
  have y6 := arch_cell hA (q % 4) hlt 6 (by decide)
  have y7 := arch_cell hA (q % 4) hlt 7 (by decide)
  obtain ⟨hn, hno⟩ := arch_n h4 hA
  rw [hk] at y0 y1 y2 y3 y4 y5 y6 y7
  obtain ⟨kno, kday, kcomp, ai, ci, ids, kn, ae, ce, es, af, cf, fl, ap, cp, pot⟩ := k
  simp only [roR, List.getElem?_cons_zero, List.getElem?_cons_succ, Nat.add_zero] at y0 y1 y2 y3 y4 y5 y6 y7
  have hsd := hs.drew
  replace hn := (hsd.cell (o := 32) hb).trans hn
  replace hno := (hsd.cell (o := 33) hb).trans hno
  replace y0 := (hsd.cell (o := q % 4 * 8) hb).trans y0
  replace y1 := (hsd.cell (o := q % 4 * 8 + 1) hb).trans y1
  replace y2 := (hsd.cell (o := q % 4 * 8 + 2) hb).trans y2
  replace y3 := (hsd.cell (o := q % 4 * 8 + 3) hb).trans y3
  replace y4 := (hsd.cell (o := q % 4 * 8 + 4) hb).trans y4
  replace y5 := (hsd.cell (o := q % 4 * 8 + 5) hb).trans y5
  replace y6 := (hsd.cell (o := q % 4 * 8 + 6) hb).trans y6
  replace y7 := (hsd.cell (o := q % 4 * 8 + 7) hb).trans y7
  have OWN := Lib.hid (own_any ⟨kno, kday, kcomp, ai, ci, ids, kn, ae, ce, es, af, cf, fl, ap, cp, pot⟩ _ (hok.sep hsd) hsm)
  have HK := Lib.hid hk
  clear hk hok hsm hA hA2 z0 z1 z2 z3 z4 z5 z6 z7 qf
  dsimp only [Ro.val, Ro.co] at *
  have e1 : decide ((N : Int) < (q : Int)) = false := decide_eq_false (by omega)
  have e2 : decide (n ≤ (N : Int) - (q : Int)) = false := decide_eq_false (by omega)
  go_enter Try.func14, Try.ntmps14
  go_wp2_with fail
  refine Mix.region [0, 0, 0, 0, 0, 0, 0, 0, 0, 0, 0, 0, 0, 0, 0, 0, 0, 0, 0, 0, 0, 0, 0] (fun _ => True) (by kernel_rfl) (by kernel_rfl) trivial ?_
  simp only [List.zip_cons_cons, List.zip_nil_right]
  iterate 3 (refine Mix.step0 fun K hK => ?_; go_simp; (try (go_bits; try go_simp)); first | ((with_reducible refine hK _ _ ?_); clear hK K) | ((try (simp only [IntWalk.iteOmega]; try go_simp)); (try go_bits); (with_reducible refine hK _ _ ?_); clear hK K))
  iterate 6 (first | (refine Mix.stepS rfl fun K hK => ?_; go_simp; (with_reducible refine hK _ _ ?_); clear hK K) | (refine Mix.step0 fun K hK => ?_; go_simp; (try (go_bits; try go_simp)); first | ((with_reducible refine hK _ _ ?_); clear hK K) | ((try (simp only [IntWalk.iteOmega]; try go_simp)); (try go_bits); (with_reducible refine hK _ _ ?_); clear hK K)))
  iterate 2 (refine Mix.step0 fun K hK => ?_; go_simp; (try (go_bits; try go_simp)); first | ((with_reducible refine hK _ _ ?_); clear hK K) | ((try (simp only [IntWalk.iteOmega]; try go_simp)); (try go_bits); (with_reducible refine hK _ _ ?_); clear hK K))
  iterate 11 (first | (refine Mix.stepS rfl fun K hK => ?_; go_simp; (with_reducible refine hK _ _ ?_); clear hK K) | (refine Mix.step0 fun K hK => ?_; go_simp; (try (go_bits; try go_simp)); first | ((with_reducible refine hK _ _ ?_); clear hK K) | ((try (simp only [IntWalk.iteOmega]; try go_simp)); (try go_bits); (with_reducible refine hK _ _ ?_); clear hK K)))
  iterate 1 (refine Mix.step0 fun K hK => ?_; go_simp; (try (go_bits; try go_simp)); first | ((with_reducible refine hK _ _ ?_); clear hK K) | ((try (simp only [IntWalk.iteOmega]; try go_simp)); (try go_bits); (with_reducible refine hK _ _ ?_); clear hK K))
  refine Mix.done ?_
  go_wp2_with fail
  refine (OWN.out).mono ?_
  rintro en w1 ⟨r1, hco, rfl, k1⟩
  obtain ⟨xno, xday, xcomp, a1, c1, xids, xn, a2, c2, xes, a3, c3, xfl, a4, c4, xpot⟩ := r1
  have HCO := Lib.hid hco
  replace hs := hsd.join k1
  simp only [List.cons_append, List.nil_append] at hs
  clear y0 y1 y2 y3 y4 y5 y6 y7 hn hno hco hsd k1 OWN
  have z0 := cell_of (hs.cells 1 rfl) 0
  simp only [List.getElem?_toArray, List.getElem?_cons_zero, List.getElem?_cons_succ] at z0
  have z1 := cell_of (hs.cells 1 rfl) 1
  simp only [List.getElem?_toArray, List.getElem?_cons_zero, List.getElem?_cons_succ] at z1
  have z2 := cell_of (hs.cells 1 rfl) 2
  simp only [List.getElem?_toArray, List.getElem?_cons_zero, List.getElem?_cons_succ] at z2
  have z3 := cell_of (hs.cells 1 rfl) 3
  simp only [List.getElem?_toArray, List.getElem?_cons_zero, List.getElem?_cons_succ] at z3
  have z4 := cell_of (hs.cells 1 rfl) 4
  simp only [List.getElem?_toArray, List.getElem?_cons_zero, List.getElem?_cons_succ] at z4
  have z5 := cell_of (hs.cells 1 rfl) 5
  simp only [List.getElem?_toArray, List.getElem?_cons_zero, List.getElem?_cons_succ] at z5
  have z6 := cell_of (hs.cells 1 rfl) 6
  simp only [List.getElem?_toArray, List.getElem?_cons_zero, List.getElem?_cons_succ] at z6
  have z7 := cell_of (hs.cells 1 rfl) 7
  simp only [List.getElem?_toArray, List.getElem?_cons_zero, List.getElem?_cons_succ] at z7
  have qf := fun j => frozen_of (hs.cells 1 rfl) j
  go_wp2_with fail
  replace hs := ((((((((hs.setC 1 rfl 0 (.int .u64 xno) #[.int .u64 xno, .int .i64 0, .bool false, .slice none 0 0, .int .i64 0, .slice none 0 0, .slice none 0 0, .slice none 0 0] rfl).setC 1 rfl 1 (.int .i64 xday) #[.int .u64 xno, .int .i64 xday, .bool false, .slice none 0 0, .int .i64 0, .slice none 0 0, .slice none 0 0, .slice none 0 0] rfl).setC 1 rfl 2 (.bool xcomp) #[.int .u64 xno, .int .i64 xday, .bool xcomp, .slice none 0 0, .int .i64 0, .slice none 0 0, .slice none 0 0, .slice none 0 0] rfl).setC 1 rfl 3 (.slice a1 xids.length c1) #[.int .u64 xno, .int .i64 xday, .bool xcomp, .slice a1 xids.length c1, .int .i64 0, .slice none 0 0, .slice none 0 0, .slice none 0 0] rfl).setC 1 rfl 4 (.int .i64 xn) #[.int .u64 xno, .int .i64 xday, .bool xcomp, .slice a1 xids.length c1, .int .i64 xn, .slice none 0 0, .slice none 0 0, .slice none 0 0] rfl).setC 1 rfl 5 (.slice a2 xes.length c2) #[.int .u64 xno, .int .i64 xday, .bool xcomp, .slice a1 xids.length c1, .int .i64 xn, .slice a2 xes.length c2, .slice none 0 0, .slice none 0 0] rfl).setC 1 rfl 6 (.slice a3 xfl.length c3) #[.int .u64 xno, .int .i64 xday, .bool xcomp, .slice a1 xids.length c1, .int .i64 xn, .slice a2 xes.length c2, .slice a3 xfl.length c3, .slice none 0 0] rfl).setC 1 rfl 7 (.slice a4 xpot.length c4) #[.int .u64 xno, .int .i64 xday, .bool xcomp, .slice a1 xids.length c1, .int .i64 xn, .slice a2 xes.length c2, .slice a3 xfl.length c3, .slice a4 xpot.length c4] rfl)
  clear z0 z1 z2 z3 z4 z5 z6 z7 qf
  have z0 := cell_of (hs.cells 1 rfl) 0
  simp only [List.getElem?_toArray, List.getElem?_cons_zero, List.getElem?_cons_succ] at z0
  have z1 := cell_of (hs.cells 1 rfl) 1
  simp only [List.getElem?_toArray, List.getElem?_cons_zero, List.getElem?_cons_succ] at z1
  have z2 := cell_of (hs.cells 1 rfl) 2
  simp only [List.getElem?_toArray, List.getElem?_cons_zero, List.getElem?_cons_succ] at z2
  have z3 := cell_of (hs.cells 1 rfl) 3
  simp only [List.getElem?_toArray, List.getElem?_cons_zero, List.getElem?_cons_succ] at z3
  have z4 := cell_of (hs.cells 1 rfl) 4
  simp only [List.getElem?_toArray, List.getElem?_cons_zero, List.getElem?_cons_succ] at z4
  have z5 := cell_of (hs.cells 1 rfl) 5
  simp only [List.getElem?_toArray, List.getElem?_cons_zero, List.getElem?_cons_succ] at z5
  have z6 := cell_of (hs.cells 1 rfl) 6
  simp only [List.getElem?_toArray, List.getElem?_cons_zero, List.getElem?_cons_succ] at z6
  have z7 := cell_of (hs.cells 1 rfl) 7
  simp only [List.getElem?_toArray, List.getElem?_cons_zero, List.getElem?_cons_succ] at z7
  exact bodyPost_ret (v := .tuple #[.agg #[.int .u64 xno, .int .i64 xday, .bool xcomp, .slice a1 xids.length c1, .int .i64 xn, .slice a2 xes.length c2, .slice a3 xfl.length c3, .slice a4 xpot.length c4], .bool true]) (by simp [results, Try.results14, go_sem, z0, z1, z2, z3, z4, z5, z6, z7]) rfl ⟨⟨xno, xday, xcomp, a1, c1, xids, xn, a2, c2, xes, a3, c3, xfl, a4, c4, xpot⟩, HCO.out, rfl, hs.takeN 1⟩
end Go.Proofs.Ytfnkmkfkomhhnaa

/-
  Package archive, walked: List.
-/
namespace Go.Proofs.Ytfnkmkfkomhhnaa
open Go Go.RowKit Go.Mem Go.NetP Go.CertP Go.ArchP

theorem Try.infoRov : (Try.prog.info? 39).map (fun i => (i.zero, i.size, i.bytes)) = some (some (.agg #[.int .u64 0, .int .i64 0, .bool false, .slice none 0 0, .int .i64 0, .slice none 0 0, .slice none 0 0, .slice none 0 0]), 8, 128) := by kernel_rfl
/-- Rounds with lists of their own. -/
abbrev bag (rs : List Ro) : Thing := bagT 27 70 2 rs
set_option maxHeartbeats 2000000 in
theorem list_nil (w : World) : Calls Try.prog 13 #[.pointer none] w fun en w' => en = .returned (.slice none 0 0) ∧ w' = w := by
  go_enter Try.func13, Try.ntmps13
  go_wp2_with fail
  go_ret
  exact ⟨rfl, rfl⟩
/-- What is kept, the oldest first. -/
def keptL (ks : List Ro) (D n : Nat) : List Co := (List.range n).map fun i => (ks.getD ((D + 1 + i) % 4) default).co
theorem kept_take (ks : List Ro) (D n i : Nat) (hi : i < n) : (keptL ks D n).take (i + 1) = (keptL ks D n).take i ++ [(ks.getD ((D + 1 + i) % 4) default).co] := by
  have hl : i < (keptL ks D n).length := by simpa [keptL] using hi
  rw [List.take_succ_eq_append_getElem hl]
  simp [keptL]
set_option maxHeartbeats 4000000 in
theorem list_any (b : Nat) (ks : List Ro) (n D : Nat) (w : World) (hA : w.heap[b]? = some (.cells (roR.flat ks ++ [Value.int .u64 n, Value.int .u64 (D + n : Nat)]).toArray 59 (0, 0))) (h4 : ks.length = 4) (hn : n ≤ 4) (hD : D ≤ 4611686018427387905) (hok : ∀ r ∈ ks, r.Ok w) (hsm : ∀ r ∈ ks, r.small) :
    Calls Try.prog 13 #[.pointer (some ⟨b, 0, none⟩)] w fun en w' => ∃ v rs, en = .returned v ∧ rs.map Ro.co = keptL ks D n ∧ Sep w w' [recT roR 39 v rs, bag rs] := by
  obtain ⟨i0, hi0, hz0, hz1, hz2⟩ := info_parts Try.infoRov
  obtain ⟨hn0, hno0⟩ := arch_n h4 hA
  have hb := lt_of hA
  have HA := Lib.hid hA
  have HOK := Lib.hid hok
  have HSM := Lib.hid hsm
  clear hA hok hsm
  go_enter Try.func13, Try.ntmps13
  go_wp2_with fail
  refine wp_loopM [none, none, some 2, some 3, none, none, none, none, none, none, some 10, some 11, some 12, some 13, some 14, some 15, some 16, some 17, some 18, some 19, some 20, some 21, some 22, some 23, some 24, some 25, some 26, some 27, some 28, some 29, some 30, some 31, some 32, some 33, some 34, some 35, none] (fun (r : Nat) (f : Nat → Value) (wr : World) => (fun (vo v : Value) => ∃ (i : Nat) (rs : List Ro), v = .int .u64 i ∧ i ≤ n ∧ r = n - i ∧ rs.map Ro.co = (keptL ks D n).take i ∧ Sep w wr [recT roR 39 vo rs, bag rs]) (f 2) (f 10)) (n) (by kernel_rfl) ?atStart1 ?round1
  case' atStart1 => (try dsimp only [nthV])
  case' round1 =>
    intro gk f wr l hl hrel J1 K1 hJ1 hK1
    (try simp only [mask] at hl)
    generalize f 2 = u2 at hl hrel
    generalize f 10 = u10 at hl hrel
    subst hl
    (try dsimp only at hrel)
  case atStart1 => exact ⟨0, [], rfl, Nat.zero_le _, rfl, rfl, (Sep.bagNil (Sep.start w)).nilRecs roR _⟩
  case round1 =>
    obtain ⟨i, rs, rfl, hi, rfl, hrs, hs⟩ := hrel
    have HRS := Lib.hid hrs
    clear hrs
    by_cases hlt : i < n
    · have hki : (D + 1 + i) % 4 < 4 := Nat.mod_lt _ (by decide)
      obtain ⟨k, hk⟩ : ∃ k, k = (D + 1 + i) % 4 := ⟨_, rfl⟩
      have hkl : k < ks.length := by omega
      have hA := HA.out
      have hsd := hs.drew
      have hn1 := (hsd.cell (o := 32) hb).trans hn0
      have hno1 := (hsd.cell (o := 33) hb).trans hno0
      have y0 := (hsd.cell (o := k * 8) hb).trans (arch_cell hA k hkl 0 (by decide))
      have y1 := (hsd.cell (o := k * 8 + 1) hb).trans (arch_cell hA k hkl 1 (by decide))
      have y2 := (hsd.cell (o := k * 8 + 2) hb).trans (arch_cell hA k hkl 2 (by decide))
      have y3 := (hsd.cell (o := k * 8 + 3) hb).trans (arch_cell hA k hkl 3 (by decide))
      have y4 := (hsd.cell (o := k * 8 + 4) hb).trans (arch_cell hA k hkl 4 (by decide))
      have y5 := (hsd.cell (o := k * 8 + 5) hb).trans (arch_cell hA k hkl 5 (by decide))
      have y6 := (hsd.cell (o := k * 8 + 6) hb).trans (arch_cell hA k hkl 6 (by decide))
      have y7 := (hsd.cell (o := k * 8 + 7) hb).trans (arch_cell hA k hkl 7 (by decide))
      have hkd : ks.getD k default = ks[k] := by simp [hkl]
      obtain ⟨K, hK⟩ : ∃ K, K = ks[k] := ⟨_, rfl⟩
      rw [← hK] at y0 y1 y2 y3 y4 y5 y6 y7 hkd
      have hKm : K ∈ ks := by rw [hK]; exact List.getElem_mem hkl
      have OWN := Lib.hid (own_any K _ ((HOK.out K hKm).sep hsd) (HSM.out K hKm))
      have HKD := Lib.hid (show (keptL ks D n).take (i + 1) = (keptL ks D n).take i ++ [K.co] by rw [kept_take _ _ _ _ hlt, ← hk, hkd])
      have HRL := Lib.hid (show rs.length = i by have := congrArg List.length HRS.out; simpa [keptL, Nat.min_eq_left hi] using this)
      clear hK hKm hkd hA
      rw [hk] at y0 y1 y2 y3 y4 y5 y6 y7
      clear hk hkl
      obtain ⟨kno, kday, kcomp, ai, ci, ids, kn, ae, ce, es, af, cf, fl, ap, cp, pot⟩ := K
      simp only [roR, List.getElem?_cons_zero, List.getElem?_cons_succ, Nat.add_zero] at y0 y1 y2 y3 y4 y5 y6 y7
      dsimp only [Ro.val] at OWN
      obtain ⟨vl, cl, rfl⟩ := (hs.rdRecs 0 rfl).shape
      rw [HRL.out] at hs hsd ⊢
      go_wp2_with fail
      refine Mix.region [1, 0, 0, 0, 0, 0, 0, 0, 0, 0, 0, 0, 0, 0, 0, 0, 0, 0, 0, 2, 2, 2, 0] (fun _ => True) (by kernel_rfl) (by kernel_rfl) trivial ?_
      simp only [List.zip_cons_cons, List.zip_nil_right]
      iterate 1 (refine Mix.step1 fun K hK => ?_; go_simp; (try (go_bits; try go_simp)); first | ((with_reducible refine hK _ _ ?_); clear hK K) | ((try (simp only [IntWalk.iteOmega]; try go_simp)); (try go_bits); (with_reducible refine hK _ _ ?_); clear hK K))
      iterate 18 (refine Mix.step0 fun K hK => ?_; go_simp; (try (go_bits; try go_simp)); first | ((with_reducible refine hK _ _ ?_); clear hK K) | ((try (simp only [IntWalk.iteOmega]; try go_simp)); (try go_bits); (with_reducible refine hK _ _ ?_); clear hK K))
      refine Mix.step2n (by first | rfl | simp [Region.wanted, yielded]) fun K hK => ?_
      go_wp2_with fail
      refine (OWN.out).mono ?_
      rintro en w1 ⟨r1, hco, rfl, k1⟩
      have HCO := Lib.hid hco
      obtain ⟨xno, xday, xcomp, a1, c1, xids, xn, a2, c2, xes, a3, c3, xfl, a4, c4, xpot⟩ := r1
      have hs2 := hsd.join k1
      simp only [List.cons_append, List.nil_append] at hs2
      clear hsd hs hco k1 OWN y0 y1 y2 y3 y4 y5 y6 y7 hn1 hno1
      dsimp only [Ro.val]
      go_wp2_with fail
      refine Mix.post_mk (C := (fun _ => True)) trivial (hK _ _ ?_)
      clear hK K
      refine Mix.step2n (by first | rfl | simp [Region.wanted, yielded]) fun K hK => ?_
      go_wp2_with fail
      have hsa := hs2.alloc (.cells #[.int .u64 xno, .int .i64 xday, .bool xcomp, .slice a1 xids.length c1, .int .i64 xn, .slice a2 xes.length c2, .slice a3 xfl.length c3, .slice a4 xpot.length c4] 39)
      have hBB : (w1.alloc (.cells #[.int .u64 xno, .int .i64 xday, .bool xcomp, .slice a1 xids.length c1, .int .i64 xn, .slice a2 xes.length c2, .slice a3 xfl.length c3, .slice a4 xpot.length c4] 39)).heap[w1.heap.size]? = some (.cells #[.int .u64 xno, .int .i64 xday, .bool xcomp, .slice a1 xids.length c1, .int .i64 xn, .slice a2 xes.length c2, .slice a3 xfl.length c3, .slice a4 xpot.length c4] 39 (0, 0)) := heap_alloc_new w1 _
      clear hs2
      refine Mix.post_mk (C := (fun _ => True)) trivial (hK _ _ ?_)
      clear hK K
      refine Mix.step2n (by first | rfl | simp [Region.wanted, yielded]) fun K hK => ?_
      refine wpList_appRecB roR rfl (.tmp 13) (.tmp 33) 22 rfl 39 i0 _ 128 Try.underlying22 hi0 hz0 hz1 hz2 rfl _ rs ⟨xno, xday, xcomp, a1, c1, xids, xn, a2, c2, xes, a3, c3, xfl, a4, c4, xpot⟩ hsa 1 rfl w1.heap.size _ rfl hBB rfl rfl (by rw [HRL.out]; (try simp only [maxLen]); omega) (by rw [HRL.out]; omega) ?_
      intro vo w4 hs4 HSH
      simp only [List.set_cons_succ, List.set_cons_zero] at hs4
      have hs5 : Sep w w4 [recT roR 39 vo (rs ++ [⟨xno, xday, xcomp, a1, c1, xids, xn, a2, c2, xes, a3, c3, xfl, a4, c4, xpot⟩]), bag (rs ++ [⟨xno, xday, xcomp, a1, c1, xids, xn, a2, c2, xes, a3, c3, xfl, a4, c4, xpot⟩])] := Sep.bagAdd1 hs4
      have HR2 := Lib.hid (show (rs ++ [(⟨xno, xday, xcomp, a1, c1, xids, xn, a2, c2, xes, a3, c3, xfl, a4, c4, xpot⟩ : Ro)]).map Ro.co = (keptL ks D n).take (i + 1) by rw [List.map_append, HRS.out, HKD.out, ← HCO.out]; rfl)
      clear hsa hBB hs4
      generalize rs ++ [(⟨xno, xday, xcomp, a1, c1, xids, xn, a2, c2, xes, a3, c3, xfl, a4, c4, xpot⟩ : Ro)] = rs2 at hs5 HR2
      go_wp2_with fail
      refine Mix.post_mk (C := (fun _ => True)) trivial (hK _ _ ?_)
      clear hK K
      iterate 1 (refine Mix.step0 fun K hK => ?_; go_simp; (try (go_bits; try go_simp)); first | ((with_reducible refine hK _ _ ?_); clear hK K) | ((try (simp only [IntWalk.iteOmega]; try go_simp)); (try go_bits); (with_reducible refine hK _ _ ?_); clear hK K))
      refine Mix.done ?_
      go_wp2_with fail
      refine Round.intro (n - (i + 1)) ?measure2 (by kernel_rfl) (hJ1 _ _ _ ?rel2)
      case' rel2 => (try dsimp only [nthV])
      case measure2 => omega
      case rel2 => exact ⟨i + 1, rs2, by go_num, hlt, rfl, HR2.out, hs5⟩
    · obtain rfl : i = n := by omega
      go_wp2_with fail
      go_ret
      exact ⟨_, rfl, rs, by rw [HRS.out, List.take_of_length_le (by simp [keptL])], hs⟩
end Go.Proofs.Ytfnkmkfkomhhnaa

/-
  The chapter's example, walked.
-/
namespace Go.Proofs.Ytfnkmkfkomhhnaa
open Go Go.RowKit Go.Mem Go.NetP Go.CertP Go.ArchP

/-- How many are kept behind i Adds. -/
def capN : Nat → Int
  | 0 => 0
  | i + 1 => cap4 (capN i)
theorem capN_le : ∀ i, 0 ≤ capN i ∧ capN i ≤ 4
  | 0 => by simp [capN]
  | i + 1 => cap4_le (capN_le i)
theorem bare_may (g : Nat) : mayC (bareR g).co = true := by rfl
theorem bare_small (g : Nat) : (bareR g).small := by simp [bareR, Ro.small]
theorem small_co {r q : Ro} (h : r.co = q.co) (hq : q.small) : r.small := by
  simp only [Ro.co, Co.mk.injEq] at h
  obtain ⟨_, _, _, h1, _, h2, h3, h4⟩ := h
  unfold Ro.small at *
  rw [h1, h2, h3, h4]; exact hq
theorem small_no {r q : Ro} {x : Int} (h : r.co = { q.co with no := x }) (hq : q.small) : r.small := small_co (q := { q with no := x }) h hq
/-- What the example's archive is behind i Adds. -/
def GoodN (ks : List Ro) (i : Nat) : Prop := ks.length = 4 ∧ (∀ r ∈ ks, r.small) ∧ (2 ≤ i → ∃ k, ks[2]? = some k ∧ k.no = 2)
theorem good_start : GoodN (List.replicate 4 default) 0 := ⟨rfl, fun r hr => by rw [List.eq_of_mem_replicate hr]; simp [default, Ro.small], fun h => by omega⟩
theorem good_put {ks : List Ro} {i g : Nat} {r : Ro} (h : GoodN ks i) (hi : i < 5) (hr : r.co = { (bareR g).co with no := (i : Int) + 1 }) : GoodN (ks.set ((i + 1) % 4) r) (i + 1) := by
  refine ⟨by rw [List.length_set]; exact h.1, fun q hq => ?_, fun h2 => ?_⟩
  · rcases List.mem_or_eq_of_mem_set hq with hq | rfl
    · exact h.2.1 q hq
    · exact small_no hr (bare_small g)
  · have h4 := h.1
    by_cases h1 : i = 1
    · subst h1
      refine ⟨r, by simp [h4], ?_⟩
      have := congrArg Co.no hr
      simpa [Ro.co] using this
    · obtain ⟨k, hk, hn⟩ := h.2.2 (by omega)
      refine ⟨k, ?_, hn⟩
      rw [List.getElem?_set_ne (by omega)]; exact hk
set_option maxHeartbeats 4000000 in
theorem works_any (w : World) : Calls Try.prog 8 #[] w fun en w' => en = .returned (.bool true) ∧ Below w.heap.size w w' := by
  go_enter Try.func8, Try.ntmps8
  go_wp2_with fail
  refine (new_any _).mono ?_
  rintro en w1 ⟨b, rfl, hs⟩
  go_wp2_with fail
  refine wp_loopM [some 0, none, some 2, some 3, some 4, none, none, none, none, none, some 10, some 11, some 12, some 13, some 14, some 15, some 16, some 17, some 18, some 19, some 20, some 21, some 22, some 23, some 24, some 25, some 26, some 27, some 28, none, none, none, none, none, none, none, none, none, none, none, none, none, none, none, none, none, none, none, none, none, none, none, none, none, none, none, none, none, none, none] (fun (r : Nat) (f : Nat → Value) (wr : World) => (fun (v : Value) => ∃ (i : Nat) (ks : List Ro), v = .int .i64 i ∧ i ≤ 5 ∧ r = 5 - i ∧ GoodN ks i ∧ Sep w wr [arcT b ks (capN i) i]) (f 2)) (5) (by kernel_rfl) ?atStart3 ?round3
  case' atStart3 => (try dsimp only [nthV])
  case' round3 =>
    intro gk f wr l hl hrel J1 K1 hJ1 hK1
    (try simp only [mask] at hl)
    generalize f 2 = u2 at hl hrel
    subst hl
    (try dsimp only at hrel)
  case atStart3 => exact ⟨0, _, rfl, by omega, rfl, good_start, hs⟩
  case round3 =>
    clear hs
    obtain ⟨i, ks, rfl, hi, rfl, hg, hs⟩ := hrel
    by_cases hlt : i < 5
    · go_wp2_with fail
      refine (bare_any _).mono ?_
      rintro en w2 ⟨g, rfl, k1⟩
      have ADD := Lib.hid (add_yes ((hs.join k1)) 1 b ks (capN i) i rfl hg.1 (capN_le i) (bareR g) (bare_ok (hs.join k1) 0 rfl) (bare_may g) (by omega))
      have HG := Lib.hid (fun r hr => good_put (r := r) (g := g) hg hlt hr)
      clear k1 hs hg
      go_wp2_with fail
      refine (ADD.out).mono ?_
      rintro en w3 ⟨rfl, r1, hco, hs3⟩
      have hg2 := Lib.hid (HG.out r1 hco)
      replace hs3 := hs3.omit 0
      simp only [List.cons_append, List.nil_append, List.set_cons_succ, List.set_cons_zero, List.eraseIdx_cons_zero] at hs3
      clear hco ADD HG
      have e1 : (((i : Int) + 1) != ((i : Int) + 1)) = false := by simp
      go_wp2_with fail
      refine Round.intro (5 - (i + 1)) ?measure4 (by kernel_rfl) (hJ1 _ _ _ ?rel4)
      case' rel4 => (try dsimp only [nthV])
      case measure4 => omega
      case rel4 => exact ⟨i + 1, _, by go_num, hlt, rfl, hg2.out, hs3⟩
    · obtain rfl : i = 5 := by omega
      have hc : capN 5 = 4 := by rfl
      rw [hc] at hs
      obtain ⟨g4, gs, g2⟩ := hg
      obtain ⟨k, hk, hk2⟩ := g2 (by omega)
      have hkm : k ∈ ks := List.mem_of_getElem? hk
      have HKS := Lib.hid (gs k hkm)
      have HGS := Lib.hid gs
      have HK := Lib.hid hk
      have HK2 := Lib.hid hk2
      clear gs hk hk2 hc g2
      go_wp2_with fail
      obtain ⟨an, ano⟩ := arch_n g4 (Sep.arch (i := 0) hs rfl).1
      have G1 := Lib.hid (get_old b 4 5 1 _ (lt_of (Sep.arch (i := 0) hs rfl).1) an ano (by omega) (by omega) (by omega))
      clear an ano
      refine (G1.out).mono ?_
      rintro en w2 ⟨rfl, hb⟩
      replace hs := hs.belowStep hb
      clear hb G1
      dsimp only [zeroV]
      go_wp2_with fail
      replace hs := hs.alloc (.cells #[.int .u64 0, .int .i64 0, .bool false, .slice none 0 0, .int .i64 0, .slice none 0 0, .slice none 0 0, .slice none 0 0] 39)
      have G2 := Lib.hid (get_yes b ks 4 5 2 _ (Sep.arch (i := 0) hs rfl).1 g4 (by omega) (by omega) (by omega) k HK.out ((Sep.arch (i := 0) hs rfl).2 k hkm) HKS.out)
      refine (G2.out).mono ?_
      rintro en w3 ⟨r1, hco, rfl, k1⟩
      obtain ⟨xno, xday, xcomp, a1, c1, xids, xn, a2, c2, xes, a3, c3, xfl, a4, c4, xpot⟩ := r1
      have hx : xno = 2 := by have := congrArg Co.no hco; rw [← HK2.out]; simpa [Ro.co] using this
      subst hx
      replace hs := hs.join k1
      clear k1 hco G2
      simp only [List.cons_append, List.nil_append] at hs
      dsimp only [Ro.val]
      go_wp2_with fail
      replace hs := hs.alloc (.cells #[.int .u64 2, .int .i64 xday, .bool xcomp, .slice a1 xids.length c1, .int .i64 xn, .slice a2 xes.length c2, .slice a3 xfl.length c3, .slice a4 xpot.length c4] 39)
      have G3 := Lib.hid (list_any b ks 4 1 _ (Sep.arch (i := 1) hs rfl).1 g4 (by omega) (by omega) (Sep.arch (i := 1) hs rfl).2 HGS.out)
      refine (G3.out).mono ?_
      rintro en w4 ⟨u, rs, rfl, hrs, k1⟩
      have hrl : rs.length = 4 := by have := congrArg List.length hrs; simpa [keptL] using this
      obtain ⟨al, cl, rfl⟩ := (k1.rdRecs 0 rfl).shape
      rw [hrl]
      replace hs := hs.belowStep k1.below
      clear hrs hrl k1 G3
      obtain ⟨an, ano⟩ := arch_n g4 (Sep.arch (i := 1) hs rfl).1
      go_wp2_with fail
      refine (no_any b _ _ ano).mono ?_
      rintro en w5 ⟨rfl, rfl⟩
      go_wp2_with fail
      go_ret
      exact ⟨rfl, hs.below⟩
end Go.Proofs.Ytfnkmkfkomhhnaa
