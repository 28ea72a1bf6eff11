/-
  Package archive, walked: put.
-/
import Derived.Test.YtfnkmkfkomhhnaaVW2
namespace Go.Proofs.Ytfnkmkfkomhhnaa
open Go Go.RowKit Go.Mem Go.NetP Go.CertP Go.ArchP

set_option maxHeartbeats 4000000 in
theorem put_any {w0 w : World} {L : List Thing} (hs : Sep w0 w L) (i b : Nat) (ks : List Ro) (n no : Int) (hi : L[i]? = some (arcT b ks n no)) (h4 : ks.length = 4) (hn : 0 ≤ n ∧ n ≤ 4) (r : Ro) (N : Nat) (hN : r.no = N) (hNl : N ≤ 4611686018427387905) (h : r.Ok w) (hsm : r.small) :
    Calls Try.prog 23 #[.pointer (some ⟨b, 0, none⟩), r.val] w fun en w' => (∃ u, en = .returned u) ∧ ∃ r', r'.co = r.co ∧ Sep w0 w' (L.set i (arcT b (ks.set (N % 4) r') (cap4 n) N)) := by
  obtain ⟨rno, day, comp, ai, ci, ids, rn, ae, ce, es, af, cf, fl, ap, cp, pot⟩ := r
  dsimp only at hN
  subst hN
  have hw := ((Sep.start w).newCells #[.int .u64 N, .int .i64 day, .bool comp, .slice ai ids.length ci, .int .i64 rn, .slice ae es.length ce, .slice af fl.length cf, .slice ap pot.length cp] 39).drew
  have hs1 := (hs.newCells #[.int .u64 N, .int .i64 day, .bool comp, .slice ai ids.length ci, .int .i64 rn, .slice ae es.length ce, .slice af fl.length cf, .slice ap pot.length cp] 39).drew
  have OWN := Lib.hid (fun W hW => own_any ⟨(N : Int), day, comp, ai, ci, ids, rn, ae, ce, es, af, cf, fl, ap, cp, pot⟩ W hW hsm)
  have HOK := Lib.hid (h.sep hw)
  have hi1 : (cellsT w.heap.size #[.int .u64 N, .int .i64 day, .bool comp, .slice ai ids.length ci, .int .i64 rn, .slice ae es.length ce, .slice af fl.length cf, .slice ap pot.length cp] 39 :: L)[i + 1]? = some (arcT b ks n no) := by simpa using hi
  have HI := Lib.hid hi1
  clear hi hi1 h hsm
  dsimp only [Ro.val, Ro.co] at *
  have n0 := cell_of (hw.cells 0 rfl) 0
  simp only [List.getElem?_toArray, List.getElem?_cons_zero, List.getElem?_cons_succ] at n0
  have n1 := cell_of (hw.cells 0 rfl) 1
  simp only [List.getElem?_toArray, List.getElem?_cons_zero, List.getElem?_cons_succ] at n1
  have n2 := cell_of (hw.cells 0 rfl) 2
  simp only [List.getElem?_toArray, List.getElem?_cons_zero, List.getElem?_cons_succ] at n2
  have n3 := cell_of (hw.cells 0 rfl) 3
  simp only [List.getElem?_toArray, List.getElem?_cons_zero, List.getElem?_cons_succ] at n3
  have n4 := cell_of (hw.cells 0 rfl) 4
  simp only [List.getElem?_toArray, List.getElem?_cons_zero, List.getElem?_cons_succ] at n4
  have n5 := cell_of (hw.cells 0 rfl) 5
  simp only [List.getElem?_toArray, List.getElem?_cons_zero, List.getElem?_cons_succ] at n5
  have n6 := cell_of (hw.cells 0 rfl) 6
  simp only [List.getElem?_toArray, List.getElem?_cons_zero, List.getElem?_cons_succ] at n6
  have n7 := cell_of (hw.cells 0 rfl) 7
  simp only [List.getElem?_toArray, List.getElem?_cons_zero, List.getElem?_cons_succ] at n7
  have hCW := n0
  have hk4 : N % 4 < 4 := Nat.mod_lt _ (by decide)
  go_enter Try.func23, Try.ntmps23
  go_wp2_with fail
  refine Mix.region [1, 1, 1, 1, 0, 2, 1, 1, 0, 2] (fun W : World => W.cell? ⟨w.heap.size, 0, none⟩ = some (.int .u64 N)) (by kernel_rfl) (by kernel_rfl) hCW ?_
  simp only [List.zip_cons_cons, List.zip_nil_right]
  (refine Mix.step1 fun K hK => ?_; go_simp; (try (go_bits; try go_simp)); first | ((with_reducible refine hK _ _ ?_); clear hK K) | ((try (simp only [IntWalk.iteOmega]; try go_simp)); (try go_bits); (with_reducible refine hK _ _ ?_); clear hK K))
  (refine Mix.step1 fun K hK => ?_; go_simp; (try (go_bits; try go_simp)); first | ((with_reducible refine hK _ _ ?_); clear hK K) | ((try (simp only [IntWalk.iteOmega]; try go_simp)); (try go_bits); (with_reducible refine hK _ _ ?_); clear hK K))
  (refine Mix.step1 fun K hK => ?_; go_simp; refine ⟨fun W => ?_, hK _ _ ?_⟩; (intro hW1; (try intro hW2); (try intro hW3); (try intro hW4); (try intro hW5); (try intro hW6); (try intro hW7); (try intro hW8); go_simp); clear hK K)
  (refine Mix.step1 fun K hK => ?_; go_simp; (try (go_bits; try go_simp)); first | ((with_reducible refine hK _ _ ?_); clear hK K) | ((try (simp only [IntWalk.iteOmega]; try go_simp)); (try go_bits); (with_reducible refine hK _ _ ?_); clear hK K))
  iterate 1 (refine Mix.step0 fun K hK => ?_; go_simp; (try (go_bits; try go_simp)); first | ((with_reducible refine hK _ _ ?_); clear hK K) | ((try (simp only [IntWalk.iteOmega]; try go_simp)); (try go_bits); (with_reducible refine hK _ _ ?_); clear hK K))
  refine Mix.step2n (by first | rfl | simp [Region.wanted, yielded]) fun K hK => ?_
  go_wp2_with fail
  refine (OWN.out _ HOK.out).mono ?_
  rintro en w1 ⟨r1, hco, rfl, k1⟩
  obtain ⟨xno, xday, xcomp, a1, c1, xids, xn, a2, c2, xes, a3, c3, xfl, a4, c4, xpot⟩ := r1
  replace hco := hco.symm
  simp only [Co.mk.injEq] at hco
  obtain ⟨rfl, rfl, rfl, rfl, rfl, rfl, rfl, rfl⟩ := hco
  have hs2 := hs1.belowStep k1.below
  have hs3 := Sep.archPut hs1 (i + 1) HI.out k1 (N % 4) (by omega)
  dsimp only [] at hs3
  simp only [List.set_cons_succ] at hs3
  have hA := (Sep.arch hs2 HI.out).1
  have qf := fun j => frozen_of hA j
  have y0 := arch_cell hA (N % 4) (by omega) 0 (by decide)
  have y1 := arch_cell hA (N % 4) (by omega) 1 (by decide)
  have y2 := arch_cell hA (N % 4) (by omega) 2 (by decide)
  have y3 := arch_cell hA (N % 4) (by omega) 3 (by decide)
  have y4 := arch_cell hA (N % 4) (by omega) 4 (by decide)
  have y5 := arch_cell hA (N % 4) (by omega) 5 (by decide)
  have y6 := arch_cell hA (N % 4) (by omega) 6 (by decide)
  have y7 := arch_cell hA (N % 4) (by omega) 7 (by decide)
  simp only [roR, List.getElem?_cons_zero, List.getElem?_cons_succ, Nat.add_zero] at y0 y1 y2 y3 y4 y5 y6 y7
  clear n0 n1 n2 n3 n4 n5 n6 n7
  have hCW := cell_of (hs2.cells 0 rfl) 0
  simp only [List.getElem?_toArray, List.getElem?_cons_zero, List.getElem?_cons_succ] at hCW
  clear hA hs1 hw
  go_wp2_with fail
  refine Mix.post_mk (C := (fun W : World => W.cell? ⟨w.heap.size, 0, none⟩ = some (.int .u64 N))) (by first | exact hCW | exact HCW.out _) (hK _ _ ?_)
  clear hK K
  (refine Mix.step1 fun K hK => ?_; go_simp; (try (go_bits; try go_simp)); first | ((with_reducible refine hK _ _ ?_); clear hK K) | ((try (simp only [IntWalk.iteOmega]; try go_simp)); (try go_bits); (with_reducible refine hK _ _ ?_); clear hK K))
  (refine Mix.step1 fun K hK => ?_; go_simp; (try (go_bits; try go_simp)); first | ((with_reducible refine hK _ _ ?_); clear hK K) | ((try (simp only [IntWalk.iteOmega]; try go_simp)); (try go_bits); (with_reducible refine hK _ _ ?_); clear hK K))
  iterate 1 (refine Mix.step0 fun K hK => ?_; go_simp; (try (go_bits; try go_simp)); first | ((with_reducible refine hK _ _ ?_); clear hK K) | ((try (simp only [IntWalk.iteOmega]; try go_simp)); (try go_bits); (with_reducible refine hK _ _ ?_); clear hK K))
  refine Mix.step2n (by first | rfl | simp [Region.wanted, yielded]) fun K hK => ?_
  go_wp2_with fail
  have hX := hCW
  clear hCW hs2
  have hCW := cell_of (hs3.cells 0 rfl) 0
  simp only [List.getElem?_toArray, List.getElem?_cons_zero, List.getElem?_cons_succ] at hCW
  refine Mix.post_mk (C := (fun W : World => W.cell? ⟨w.heap.size, 0, none⟩ = some (.int .u64 N))) (by first | exact hCW | exact HCW.out _) (hK _ _ ?_)
  clear hK K
  refine Mix.done ?_
  clear hX y0 y1 y2 y3 y4 y5 y6 y7 qf hCW k1
  obtain ⟨A, hA⟩ : ∃ A, A = ks.set (N % 4) ⟨(N : Int), day, comp, a1, c1, ids, rn, a2, c2, es, a3, c3, fl, a4, c4, pot⟩ := ⟨_, rfl⟩
  rw [← hA] at hs3
  have hAl : A.length = 4 := by rw [hA, List.length_set]; exact h4
  have HA := Lib.hid hA
  clear hA
  have hil : i < L.length := by have := (List.getElem?_eq_some_iff.1 HI.out).1; simpa using this
  clear HI OWN HOK
  revert hs3
  generalize World.setCell (World.setCell _ _ _) _ _ = W3
  intro hs3
  have hs4 := hs3.drew
  have hi2 : (cellsT w.heap.size #[.int .u64 N, .int .i64 day, .bool comp, .slice ai ids.length ci, .int .i64 rn, .slice ae es.length ce, .slice af fl.length cf, .slice ap pot.length cp] 39 :: L.set i (arcT b A n no))[i + 1]? = some (arcT b A n no) := by simp [hil]
  have hA2 := (Sep.arch hs4 hi2).1
  obtain ⟨an, ano⟩ := arch_n hAl hA2
  have qf := fun j => frozen_of hA2 j
  have hCW := cell_of (hs4.cells 0 rfl) 0
  simp only [List.getElem?_toArray, List.getElem?_cons_zero, List.getElem?_cons_succ] at hCW
  clear hA2
  by_cases hm : n + 1 ≤ 4
  · have HE := Lib.hid (show (n + 1) = cap4 n by unfold cap4; rw [if_pos hm])
    go_wp2_with fail
    refine Mix.region [0, 1, 0, 0, 0, 0, 0, 0, 1, 1, 0, 0, 2, 0, 0, 2] (fun W : World => W.cell? ⟨w.heap.size, 0, none⟩ = some (.int .u64 N)) (by kernel_rfl) (by kernel_rfl) hCW ?_
    simp only [List.zip_cons_cons, List.zip_nil_right]
    iterate 1 (refine Mix.step0 fun K hK => ?_; go_simp; (try (go_bits; try go_simp)); first | ((with_reducible refine hK _ _ ?_); clear hK K) | ((try (simp only [IntWalk.iteOmega]; try go_simp)); (try go_bits); (with_reducible refine hK _ _ ?_); clear hK K))
    (refine Mix.step1 fun K hK => ?_; go_simp; (try (go_bits; try go_simp)); first | ((with_reducible refine hK _ _ ?_); clear hK K) | ((try (simp only [IntWalk.iteOmega]; try go_simp)); (try go_bits); (with_reducible refine hK _ _ ?_); clear hK K))
    iterate 6 (refine Mix.step0 fun K hK => ?_; go_simp; (try (go_bits; try go_simp)); first | ((with_reducible refine hK _ _ ?_); clear hK K) | ((try (simp only [IntWalk.iteOmega]; try go_simp)); (try go_bits); (with_reducible refine hK _ _ ?_); clear hK K))
    (refine Mix.step1 fun K hK => ?_; go_simp; (try (go_bits; try go_simp)); first | ((with_reducible refine hK _ _ ?_); clear hK K) | ((try (simp only [IntWalk.iteOmega]; try go_simp)); (try go_bits); (with_reducible refine hK _ _ ?_); clear hK K))
    (refine Mix.step1 fun K hK => ?_; go_simp; refine ⟨fun W => ?_, hK _ _ ?_⟩; (intro hW1; (try intro hW2); (try intro hW3); (try intro hW4); (try intro hW5); (try intro hW6); (try intro hW7); (try intro hW8); go_simp); clear hK K)
    iterate 2 (refine Mix.step0 fun K hK => ?_; go_simp; (try (go_bits; try go_simp)); first | ((with_reducible refine hK _ _ ?_); clear hK K) | ((try (simp only [IntWalk.iteOmega]; try go_simp)); (try go_bits); (with_reducible refine hK _ _ ?_); clear hK K))
    refine Mix.step2n (by first | rfl | simp [Region.wanted, yielded]) fun K hK => ?_
    go_wp2_with fail
    have hs5 := Sep.archN hAl hs3 (i + 1) hi2 (n + 1)
    simp only [List.set_cons_succ, List.set_set] at hs5
    have hs5d := hs5.drew
    have hi3 : (cellsT w.heap.size #[.int .u64 N, .int .i64 day, .bool comp, .slice ai ids.length ci, .int .i64 rn, .slice ae es.length ce, .slice af fl.length cf, .slice ap pot.length cp] 39 :: L.set i (arcT b A (n + 1) no))[i + 1]? = some (arcT b A (n + 1) no) := by simp [hil]
    have hA3 := (Sep.arch hs5d hi3).1
    clear an ano qf hCW hs4
    obtain ⟨an, ano⟩ := arch_n hAl hA3
    have qf := fun j => frozen_of hA3 j
    have hCW := cell_of (hs5d.cells 0 rfl) 0
    simp only [List.getElem?_toArray, List.getElem?_cons_zero, List.getElem?_cons_succ] at hCW
    clear hA3 hs5d
    go_wp2_with fail
    refine Mix.post_mk (C := (fun W : World => W.cell? ⟨w.heap.size, 0, none⟩ = some (.int .u64 N))) (by first | exact hCW | exact HCW.out _) (hK _ _ ?_)
    clear hK K
    iterate 2 (refine Mix.step0 fun K hK => ?_; go_simp; (try (go_bits; try go_simp)); first | ((with_reducible refine hK _ _ ?_); clear hK K) | ((try (simp only [IntWalk.iteOmega]; try go_simp)); (try go_bits); (with_reducible refine hK _ _ ?_); clear hK K))
    refine Mix.step2n (by first | rfl | simp [Region.wanted, yielded]) fun K hK => ?_
    go_wp2_with fail
    have hs6 := (Sep.archNo hAl hs5 (i + 1) hi3 (N : Int)).drew
    simp only [List.set_cons_succ, List.set_set] at hs6
    clear an ano qf hCW hs5
    have hCW := cell_of (hs6.cells 0 rfl) 0
    simp only [List.getElem?_toArray, List.getElem?_cons_zero, List.getElem?_cons_succ] at hCW
    refine Mix.post_mk (C := (fun W : World => W.cell? ⟨w.heap.size, 0, none⟩ = some (.int .u64 N))) (by first | exact hCW | exact HCW.out _) (hK _ _ ?_)
    clear hK K
    refine Mix.done ?_
    have hs7 := hs6.tail
    rw [HA.out] at hs7
    go_wp2_with fail
    refine bodyPost_end (results_none rfl _ _ _) rfl ?_
    exact ⟨⟨_, rfl⟩, ⟨(N : Int), day, comp, a1, c1, ids, rn, a2, c2, es, a3, c3, fl, a4, c4, pot⟩, rfl, by rw [← HE.out]; exact hs7⟩
  · have HE := Lib.hid (show (4) = cap4 n by unfold cap4; rw [if_neg hm])
    go_wp2_with fail
    refine Mix.region [0, 1, 0, 0, 0, 0, 0, 0, 1, 1, 0, 0, 2, 0, 0, 2] (fun W : World => W.cell? ⟨w.heap.size, 0, none⟩ = some (.int .u64 N)) (by kernel_rfl) (by kernel_rfl) hCW ?_
    simp only [List.zip_cons_cons, List.zip_nil_right]
    iterate 1 (refine Mix.step0 fun K hK => ?_; go_simp; (try (go_bits; try go_simp)); first | ((with_reducible refine hK _ _ ?_); clear hK K) | ((try (simp only [IntWalk.iteOmega]; try go_simp)); (try go_bits); (with_reducible refine hK _ _ ?_); clear hK K))
    (refine Mix.step1 fun K hK => ?_; go_simp; (try (go_bits; try go_simp)); first | ((with_reducible refine hK _ _ ?_); clear hK K) | ((try (simp only [IntWalk.iteOmega]; try go_simp)); (try go_bits); (with_reducible refine hK _ _ ?_); clear hK K))
    iterate 6 (refine Mix.step0 fun K hK => ?_; go_simp; (try (go_bits; try go_simp)); first | ((with_reducible refine hK _ _ ?_); clear hK K) | ((try (simp only [IntWalk.iteOmega]; try go_simp)); (try go_bits); (with_reducible refine hK _ _ ?_); clear hK K))
    (refine Mix.step1 fun K hK => ?_; go_simp; (try (go_bits; try go_simp)); first | ((with_reducible refine hK _ _ ?_); clear hK K) | ((try (simp only [IntWalk.iteOmega]; try go_simp)); (try go_bits); (with_reducible refine hK _ _ ?_); clear hK K))
    (refine Mix.step1 fun K hK => ?_; go_simp; refine ⟨fun W => ?_, hK _ _ ?_⟩; (intro hW1; (try intro hW2); (try intro hW3); (try intro hW4); (try intro hW5); (try intro hW6); (try intro hW7); (try intro hW8); go_simp); clear hK K)
    iterate 2 (refine Mix.step0 fun K hK => ?_; go_simp; (try (go_bits; try go_simp)); first | ((with_reducible refine hK _ _ ?_); clear hK K) | ((try (simp only [IntWalk.iteOmega]; try go_simp)); (try go_bits); (with_reducible refine hK _ _ ?_); clear hK K))
    refine Mix.step2n (by first | rfl | simp [Region.wanted, yielded]) fun K hK => ?_
    go_wp2_with fail
    have hs5 := Sep.archN hAl hs3 (i + 1) hi2 (4)
    simp only [List.set_cons_succ, List.set_set] at hs5
    have hs5d := hs5.drew
    have hi3 : (cellsT w.heap.size #[.int .u64 N, .int .i64 day, .bool comp, .slice ai ids.length ci, .int .i64 rn, .slice ae es.length ce, .slice af fl.length cf, .slice ap pot.length cp] 39 :: L.set i (arcT b A (4) no))[i + 1]? = some (arcT b A (4) no) := by simp [hil]
    have hA3 := (Sep.arch hs5d hi3).1
    clear an ano qf hCW hs4
    obtain ⟨an, ano⟩ := arch_n hAl hA3
    have qf := fun j => frozen_of hA3 j
    have hCW := cell_of (hs5d.cells 0 rfl) 0
    simp only [List.getElem?_toArray, List.getElem?_cons_zero, List.getElem?_cons_succ] at hCW
    clear hA3 hs5d
    go_wp2_with fail
    refine Mix.post_mk (C := (fun W : World => W.cell? ⟨w.heap.size, 0, none⟩ = some (.int .u64 N))) (by first | exact hCW | exact HCW.out _) (hK _ _ ?_)
    clear hK K
    iterate 2 (refine Mix.step0 fun K hK => ?_; go_simp; (try (go_bits; try go_simp)); first | ((with_reducible refine hK _ _ ?_); clear hK K) | ((try (simp only [IntWalk.iteOmega]; try go_simp)); (try go_bits); (with_reducible refine hK _ _ ?_); clear hK K))
    refine Mix.step2n (by first | rfl | simp [Region.wanted, yielded]) fun K hK => ?_
    go_wp2_with fail
    have hs6 := (Sep.archNo hAl hs5 (i + 1) hi3 (N : Int)).drew
    simp only [List.set_cons_succ, List.set_set] at hs6
    clear an ano qf hCW hs5
    have hCW := cell_of (hs6.cells 0 rfl) 0
    simp only [List.getElem?_toArray, List.getElem?_cons_zero, List.getElem?_cons_succ] at hCW
    refine Mix.post_mk (C := (fun W : World => W.cell? ⟨w.heap.size, 0, none⟩ = some (.int .u64 N))) (by first | exact hCW | exact HCW.out _) (hK _ _ ?_)
    clear hK K
    refine Mix.done ?_
    have hs7 := hs6.tail
    rw [HA.out] at hs7
    go_wp2_with fail
    refine bodyPost_end (results_none rfl _ _ _) rfl ?_
    exact ⟨⟨_, rfl⟩, ⟨(N : Int), day, comp, a1, c1, ids, rn, a2, c2, es, a3, c3, fl, a4, c4, pot⟩, rfl, by rw [← HE.out]; exact hs7⟩
end Go.Proofs.Ytfnkmkfkomhhnaa
