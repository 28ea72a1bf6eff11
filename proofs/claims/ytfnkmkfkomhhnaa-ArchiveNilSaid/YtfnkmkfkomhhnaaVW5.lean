/-
  Package archive, walked: Get.
-/
import Derived.Test.YtfnkmkfkomhhnaaVW4
namespace Go.Proofs.Ytfnkmkfkomhhnaa
open Go Go.RowKit Go.Mem Go.NetP Go.CertP Go.ArchP

/-- A round that says nothing, as a value. -/
def zeroV : Value := .agg #[.int .u64 0, .int .i64 0, .bool false, .slice none 0 0, .int .i64 0, .slice none 0 0, .slice none 0 0, .slice none 0 0]
set_option maxHeartbeats 2000000 in
theorem get_nil (q : Int) (w : World) : Calls Try.prog 14 #[.pointer none, .int .u64 q] w fun en w' => en = .returned (.tuple #[zeroV, .bool false]) ∧ Below w.heap.size w w' := by
  have hs := (Sep.start w).newCells #[.int .u64 0, .int .i64 0, .bool false, .slice none 0 0, .int .i64 0, .slice none 0 0, .slice none 0 0, .slice none 0 0] 39
  have z0 := cell_of (hs.cells 0 rfl) 0
  simp only [List.getElem?_toArray, List.getElem?_cons_zero, List.getElem?_cons_succ] at z0
  have z1 := cell_of (hs.cells 0 rfl) 1
  simp only [List.getElem?_toArray, List.getElem?_cons_zero, List.getElem?_cons_succ] at z1
  have z2 := cell_of (hs.cells 0 rfl) 2
  simp only [List.getElem?_toArray, List.getElem?_cons_zero, List.getElem?_cons_succ] at z2
  have z3 := cell_of (hs.cells 0 rfl) 3
  simp only [List.getElem?_toArray, List.getElem?_cons_zero, List.getElem?_cons_succ] at z3
  have z4 := cell_of (hs.cells 0 rfl) 4
  simp only [List.getElem?_toArray, List.getElem?_cons_zero, List.getElem?_cons_succ] at z4
  have z5 := cell_of (hs.cells 0 rfl) 5
  simp only [List.getElem?_toArray, List.getElem?_cons_zero, List.getElem?_cons_succ] at z5
  have z6 := cell_of (hs.cells 0 rfl) 6
  simp only [List.getElem?_toArray, List.getElem?_cons_zero, List.getElem?_cons_succ] at z6
  have z7 := cell_of (hs.cells 0 rfl) 7
  simp only [List.getElem?_toArray, List.getElem?_cons_zero, List.getElem?_cons_succ] at z7
  have qf := fun j => frozen_of (hs.cells 0 rfl) j
  go_enter Try.func14, Try.ntmps14
  go_wp2_with fail
  refine Mix.region [0, 0, 0, 0, 0, 0, 0, 0, 0, 0, 0, 0, 0, 0, 0, 0, 0, 0, 0, 0, 0, 0, 0] (fun _ => True) (by kernel_rfl) (by kernel_rfl) trivial ?_
  simp only [List.zip_cons_cons, List.zip_nil_right]
  iterate 3 (refine Mix.step0 fun K hK => ?_; go_simp; (try (go_bits; try go_simp)); first | ((with_reducible refine hK _ _ ?_); clear hK K) | ((try (simp only [IntWalk.iteOmega]; try go_simp)); (try go_bits); (with_reducible refine hK _ _ ?_); clear hK K))
  iterate 6 (first | (refine Mix.stepS rfl fun K hK => ?_; go_simp; (with_reducible refine hK _ _ ?_); clear hK K) | (refine Mix.step0 fun K hK => ?_; go_simp; (try (go_bits; try go_simp)); first | ((with_reducible refine hK _ _ ?_); clear hK K) | ((try (simp only [IntWalk.iteOmega]; try go_simp)); (try go_bits); (with_reducible refine hK _ _ ?_); clear hK K)))
  iterate 2 (refine Mix.step0 fun K hK => ?_; go_simp; (try (go_bits; try go_simp)); first | ((with_reducible refine hK _ _ ?_); clear hK K) | ((try (simp only [IntWalk.iteOmega]; try go_simp)); (try go_bits); (with_reducible refine hK _ _ ?_); clear hK K))
  iterate 11 (first | (refine Mix.stepS rfl fun K hK => ?_; go_simp; (with_reducible refine hK _ _ ?_); clear hK K) | (refine Mix.step0 fun K hK => ?_; go_simp; (try (go_bits; try go_simp)); first | ((with_reducible refine hK _ _ ?_); clear hK K) | ((try (simp only [IntWalk.iteOmega]; try go_simp)); (try go_bits); (with_reducible refine hK _ _ ?_); clear hK K)))
  iterate 1 (refine Mix.step0 fun K hK => ?_; go_simp; (try (go_bits; try go_simp)); first | ((with_reducible refine hK _ _ ?_); clear hK K) | ((try (simp only [IntWalk.iteOmega]; try go_simp)); (try go_bits); (with_reducible refine hK _ _ ?_); clear hK K))
  refine Mix.done ?_
  have hsd := hs.drew
  clear z0 z1 z2 z3 z4 z5 z6 z7 qf
  have z0 := cell_of (hsd.cells 0 rfl) 0
  simp only [List.getElem?_toArray, List.getElem?_cons_zero, List.getElem?_cons_succ] at z0
  have z1 := cell_of (hsd.cells 0 rfl) 1
  simp only [List.getElem?_toArray, List.getElem?_cons_zero, List.getElem?_cons_succ] at z1
  have z2 := cell_of (hsd.cells 0 rfl) 2
  simp only [List.getElem?_toArray, List.getElem?_cons_zero, List.getElem?_cons_succ] at z2
  have z3 := cell_of (hsd.cells 0 rfl) 3
  simp only [List.getElem?_toArray, List.getElem?_cons_zero, List.getElem?_cons_succ] at z3
  have z4 := cell_of (hsd.cells 0 rfl) 4
  simp only [List.getElem?_toArray, List.getElem?_cons_zero, List.getElem?_cons_succ] at z4
  have z5 := cell_of (hsd.cells 0 rfl) 5
  simp only [List.getElem?_toArray, List.getElem?_cons_zero, List.getElem?_cons_succ] at z5
  have z6 := cell_of (hsd.cells 0 rfl) 6
  simp only [List.getElem?_toArray, List.getElem?_cons_zero, List.getElem?_cons_succ] at z6
  have z7 := cell_of (hsd.cells 0 rfl) 7
  simp only [List.getElem?_toArray, List.getElem?_cons_zero, List.getElem?_cons_succ] at z7
  have qf := fun j => frozen_of (hsd.cells 0 rfl) j
  go_wp2_with fail
  exact bodyPost_ret (v := .tuple #[zeroV, .bool false]) (by simp [zeroV, results, Try.results14, go_sem, z0, z1, z2, z3, z4, z5, z6, z7]) rfl ⟨rfl, hsd.below⟩
set_option maxHeartbeats 2000000 in
theorem get_over (b : Nat) (n : Int) (N q : Nat) (w : World) (hb : b < w.heap.size) (hn : w.cell? ⟨b, 32, none⟩ = some (.int .u64 n)) (hno : w.cell? ⟨b, 33, none⟩ = some (.int .u64 N)) (hq : N < q) :
    Calls Try.prog 14 #[.pointer (some ⟨b, 0, none⟩), .int .u64 q] w fun en w' => en = .returned (.tuple #[zeroV, .bool false]) ∧ Below w.heap.size w w' := by
  have hs := (Sep.start w).newCells #[.int .u64 0, .int .i64 0, .bool false, .slice none 0 0, .int .i64 0, .slice none 0 0, .slice none 0 0, .slice none 0 0] 39
  have z0 := cell_of (hs.cells 0 rfl) 0
  simp only [List.getElem?_toArray, List.getElem?_cons_zero, List.getElem?_cons_succ] at z0
  have z1 := cell_of (hs.cells 0 rfl) 1
  simp only [List.getElem?_toArray, List.getElem?_cons_zero, List.getElem?_cons_succ] at z1
  have z2 := cell_of (hs.cells 0 rfl) 2
  simp only [List.getElem?_toArray, List.getElem?_cons_zero, List.getElem?_cons_succ] at z2
  have z3 := cell_of (hs.cells 0 rfl) 3
  simp only [List.getElem?_toArray, List.getElem?_cons_zero, List.getElem?_cons_succ] at z3
  have z4 := cell_of (hs.cells 0 rfl) 4
  simp only [List.getElem?_toArray, List.getElem?_cons_zero, List.getElem?_cons_succ] at z4
  have z5 := cell_of (hs.cells 0 rfl) 5
  simp only [List.getElem?_toArray, List.getElem?_cons_zero, List.getElem?_cons_succ] at z5
  have z6 := cell_of (hs.cells 0 rfl) 6
  simp only [List.getElem?_toArray, List.getElem?_cons_zero, List.getElem?_cons_succ] at z6
  have z7 := cell_of (hs.cells 0 rfl) 7
  simp only [List.getElem?_toArray, List.getElem?_cons_zero, List.getElem?_cons_succ] at z7
  have qf := fun j => frozen_of (hs.cells 0 rfl) j
  replace hn := (hs.cell (o := 32) hb).trans hn
  replace hno := (hs.cell (o := 33) hb).trans hno
  have e1 : decide ((N : Int) < (q : Int)) = true := decide_eq_true (by omega)
  go_enter Try.func14, Try.ntmps14
  go_wp2_with fail
  refine Mix.region [0, 0, 0, 0, 0, 0, 0, 0, 0, 0, 0, 0, 0, 0, 0, 0, 0, 0, 0, 0, 0, 0, 0] (fun _ => True) (by kernel_rfl) (by kernel_rfl) trivial ?_
  simp only [List.zip_cons_cons, List.zip_nil_right]
  iterate 3 (refine Mix.step0 fun K hK => ?_; go_simp; (try (go_bits; try go_simp)); first | ((with_reducible refine hK _ _ ?_); clear hK K) | ((try (simp only [IntWalk.iteOmega]; try go_simp)); (try go_bits); (with_reducible refine hK _ _ ?_); clear hK K))
  iterate 6 (first | (refine Mix.stepS rfl fun K hK => ?_; go_simp; (with_reducible refine hK _ _ ?_); clear hK K) | (refine Mix.step0 fun K hK => ?_; go_simp; (try (go_bits; try go_simp)); first | ((with_reducible refine hK _ _ ?_); clear hK K) | ((try (simp only [IntWalk.iteOmega]; try go_simp)); (try go_bits); (with_reducible refine hK _ _ ?_); clear hK K)))
  iterate 2 (refine Mix.step0 fun K hK => ?_; go_simp; (try (go_bits; try go_simp)); first | ((with_reducible refine hK _ _ ?_); clear hK K) | ((try (simp only [IntWalk.iteOmega]; try go_simp)); (try go_bits); (with_reducible refine hK _ _ ?_); clear hK K))
  iterate 11 (first | (refine Mix.stepS rfl fun K hK => ?_; go_simp; (with_reducible refine hK _ _ ?_); clear hK K) | (refine Mix.step0 fun K hK => ?_; go_simp; (try (go_bits; try go_simp)); first | ((with_reducible refine hK _ _ ?_); clear hK K) | ((try (simp only [IntWalk.iteOmega]; try go_simp)); (try go_bits); (with_reducible refine hK _ _ ?_); clear hK K)))
  iterate 1 (refine Mix.step0 fun K hK => ?_; go_simp; (try (go_bits; try go_simp)); first | ((with_reducible refine hK _ _ ?_); clear hK K) | ((try (simp only [IntWalk.iteOmega]; try go_simp)); (try go_bits); (with_reducible refine hK _ _ ?_); clear hK K))
  refine Mix.done ?_
  have hsd := hs.drew
  clear z0 z1 z2 z3 z4 z5 z6 z7 qf hn hno
  have z0 := cell_of (hsd.cells 0 rfl) 0
  simp only [List.getElem?_toArray, List.getElem?_cons_zero, List.getElem?_cons_succ] at z0
  have z1 := cell_of (hsd.cells 0 rfl) 1
  simp only [List.getElem?_toArray, List.getElem?_cons_zero, List.getElem?_cons_succ] at z1
  have z2 := cell_of (hsd.cells 0 rfl) 2
  simp only [List.getElem?_toArray, List.getElem?_cons_zero, List.getElem?_cons_succ] at z2
  have z3 := cell_of (hsd.cells 0 rfl) 3
  simp only [List.getElem?_toArray, List.getElem?_cons_zero, List.getElem?_cons_succ] at z3
  have z4 := cell_of (hsd.cells 0 rfl) 4
  simp only [List.getElem?_toArray, List.getElem?_cons_zero, List.getElem?_cons_succ] at z4
  have z5 := cell_of (hsd.cells 0 rfl) 5
  simp only [List.getElem?_toArray, List.getElem?_cons_zero, List.getElem?_cons_succ] at z5
  have z6 := cell_of (hsd.cells 0 rfl) 6
  simp only [List.getElem?_toArray, List.getElem?_cons_zero, List.getElem?_cons_succ] at z6
  have z7 := cell_of (hsd.cells 0 rfl) 7
  simp only [List.getElem?_toArray, List.getElem?_cons_zero, List.getElem?_cons_succ] at z7
  have qf := fun j => frozen_of (hsd.cells 0 rfl) j
  go_wp2_with fail
  exact bodyPost_ret (v := .tuple #[zeroV, .bool false]) (by simp [zeroV, results, Try.results14, go_sem, z0, z1, z2, z3, z4, z5, z6, z7]) rfl ⟨rfl, hsd.below⟩
set_option maxHeartbeats 2000000 in
theorem get_old (b : Nat) (n : Int) (N q : Nat) (w : World) (hb : b < w.heap.size) (hn : w.cell? ⟨b, 32, none⟩ = some (.int .u64 n)) (hno : w.cell? ⟨b, 33, none⟩ = some (.int .u64 N)) (hq : q ≤ N) (hN : N ≤ 4611686018427387905) (hqn : n ≤ (N : Int) - q) :
    Calls Try.prog 14 #[.pointer (some ⟨b, 0, none⟩), .int .u64 q] w fun en w' => en = .returned (.tuple #[zeroV, .bool false]) ∧ Below w.heap.size w w' := by
  have hs := (Sep.start w).newCells #[.int .u64 0, .int .i64 0, .bool false, .slice none 0 0, .int .i64 0, .slice none 0 0, .slice none 0 0, .slice none 0 0] 39
  have z0 := cell_of (hs.cells 0 rfl) 0
  simp only [List.getElem?_toArray, List.getElem?_cons_zero, List.getElem?_cons_succ] at z0
  have z1 := cell_of (hs.cells 0 rfl) 1
  simp only [List.getElem?_toArray, List.getElem?_cons_zero, List.getElem?_cons_succ] at z1
  have z2 := cell_of (hs.cells 0 rfl) 2
  simp only [List.getElem?_toArray, List.getElem?_cons_zero, List.getElem?_cons_succ] at z2
  have z3 := cell_of (hs.cells 0 rfl) 3
  simp only [List.getElem?_toArray, List.getElem?_cons_zero, List.getElem?_cons_succ] at z3
  have z4 := cell_of (hs.cells 0 rfl) 4
  simp only [List.getElem?_toArray, List.getElem?_cons_zero, List.getElem?_cons_succ] at z4
  have z5 := cell_of (hs.cells 0 rfl) 5
  simp only [List.getElem?_toArray, List.getElem?_cons_zero, List.getElem?_cons_succ] at z5
  have z6 := cell_of (hs.cells 0 rfl) 6
  simp only [List.getElem?_toArray, List.getElem?_cons_zero, List.getElem?_cons_succ] at z6
  have z7 := cell_of (hs.cells 0 rfl) 7
  simp only [List.getElem?_toArray, List.getElem?_cons_zero, List.getElem?_cons_succ] at z7
  have qf := fun j => frozen_of (hs.cells 0 rfl) j
  replace hn := (hs.cell (o := 32) hb).trans hn
  replace hno := (hs.cell (o := 33) hb).trans hno
  have e1 : decide ((N : Int) < (q : Int)) = false := decide_eq_false (by omega)
  have e2 : decide (n ≤ (N : Int) - (q : Int)) = true := decide_eq_true (by omega)
  go_enter Try.func14, Try.ntmps14
  go_wp2_with fail
  refine Mix.region [0, 0, 0, 0, 0, 0, 0, 0, 0, 0, 0, 0, 0, 0, 0, 0, 0, 0, 0, 0, 0, 0, 0] (fun _ => True) (by kernel_rfl) (by kernel_rfl) trivial ?_
  simp only [List.zip_cons_cons, List.zip_nil_right]
  iterate 3 (refine Mix.step0 fun K hK => ?_; go_simp; (try (go_bits; try go_simp)); first | ((with_reducible refine hK _ _ ?_); clear hK K) | ((try (simp only [IntWalk.iteOmega]; try go_simp)); (try go_bits); (with_reducible refine hK _ _ ?_); clear hK K))
  iterate 6 (first | (refine Mix.stepS rfl fun K hK => ?_; go_simp; (with_reducible refine hK _ _ ?_); clear hK K) | (refine Mix.step0 fun K hK => ?_; go_simp; (try (go_bits; try go_simp)); first | ((with_reducible refine hK _ _ ?_); clear hK K) | ((try (simp only [IntWalk.iteOmega]; try go_simp)); (try go_bits); (with_reducible refine hK _ _ ?_); clear hK K)))
  iterate 2 (refine Mix.step0 fun K hK => ?_; go_simp; (try (go_bits; try go_simp)); first | ((with_reducible refine hK _ _ ?_); clear hK K) | ((try (simp only [IntWalk.iteOmega]; try go_simp)); (try go_bits); (with_reducible refine hK _ _ ?_); clear hK K))
  iterate 11 (first | (refine Mix.stepS rfl fun K hK => ?_; go_simp; (with_reducible refine hK _ _ ?_); clear hK K) | (refine Mix.step0 fun K hK => ?_; go_simp; (try (go_bits; try go_simp)); first | ((with_reducible refine hK _ _ ?_); clear hK K) | ((try (simp only [IntWalk.iteOmega]; try go_simp)); (try go_bits); (with_reducible refine hK _ _ ?_); clear hK K)))
  iterate 1 (refine Mix.step0 fun K hK => ?_; go_simp; (try (go_bits; try go_simp)); first | ((with_reducible refine hK _ _ ?_); clear hK K) | ((try (simp only [IntWalk.iteOmega]; try go_simp)); (try go_bits); (with_reducible refine hK _ _ ?_); clear hK K))
  refine Mix.done ?_
  have hsd := hs.drew
  clear z0 z1 z2 z3 z4 z5 z6 z7 qf hn hno
  have z0 := cell_of (hsd.cells 0 rfl) 0
  simp only [List.getElem?_toArray, List.getElem?_cons_zero, List.getElem?_cons_succ] at z0
  have z1 := cell_of (hsd.cells 0 rfl) 1
  simp only [List.getElem?_toArray, List.getElem?_cons_zero, List.getElem?_cons_succ] at z1
  have z2 := cell_of (hsd.cells 0 rfl) 2
  simp only [List.getElem?_toArray, List.getElem?_cons_zero, List.getElem?_cons_succ] at z2
  have z3 := cell_of (hsd.cells 0 rfl) 3
  simp only [List.getElem?_toArray, List.getElem?_cons_zero, List.getElem?_cons_succ] at z3
  have z4 := cell_of (hsd.cells 0 rfl) 4
  simp only [List.getElem?_toArray, List.getElem?_cons_zero, List.getElem?_cons_succ] at z4
  have z5 := cell_of (hsd.cells 0 rfl) 5
  simp only [List.getElem?_toArray, List.getElem?_cons_zero, List.getElem?_cons_succ] at z5
  have z6 := cell_of (hsd.cells 0 rfl) 6
  simp only [List.getElem?_toArray, List.getElem?_cons_zero, List.getElem?_cons_succ] at z6
  have z7 := cell_of (hsd.cells 0 rfl) 7
  simp only [List.getElem?_toArray, List.getElem?_cons_zero, List.getElem?_cons_succ] at z7
  have qf := fun j => frozen_of (hsd.cells 0 rfl) j
  go_wp2_with fail
  exact bodyPost_ret (v := .tuple #[zeroV, .bool false]) (by simp [zeroV, results, Try.results14, go_sem, z0, z1, z2, z3, z4, z5, z6, z7]) rfl ⟨rfl, hsd.below⟩
set_option maxHeartbeats 4000000 in
theorem get_yes (b : Nat) (ks : List Ro) (n : Int) (N q : Nat) (w : World) (hA : w.heap[b]? = some (.cells (roR.flat ks ++ [Value.int .u64 n, Value.int .u64 N]).toArray 59 (0, 0))) (h4 : ks.length = 4) (hq : q ≤ N) (hN : N ≤ 4611686018427387905) (hqn : (N : Int) - q < n) (k : Ro) (hk : ks[q % 4]? = some k) (hok : k.Ok w) (hsm : k.small) :
    Calls Try.prog 14 #[.pointer (some ⟨b, 0, none⟩), .int .u64 q] w fun en w' => ∃ r', r'.co = k.co ∧ en = .returned (.tuple #[r'.val, .bool true]) ∧ Sep w w' [ownT r'] := by
  have hs := (Sep.start w).newCells #[.int .u64 0, .int .i64 0, .bool false, .slice none 0 0, .int .i64 0, .slice none 0 0, .slice none 0 0, .slice none 0 0] 39
  have z0 := cell_of (hs.cells 0 rfl) 0
  simp only [List.getElem?_toArray, List.getElem?_cons_zero, List.getElem?_cons_succ] at z0
  have z1 := cell_of (hs.cells 0 rfl) 1
  simp only [List.getElem?_toArray, List.getElem?_cons_zero, List.getElem?_cons_succ] at z1
  have z2 := cell_of (hs.cells 0 rfl) 2
  simp only [List.getElem?_toArray, List.getElem?_cons_zero, List.getElem?_cons_succ] at z2
  have z3 := cell_of (hs.cells 0 rfl) 3
  simp only [List.getElem?_toArray, List.getElem?_cons_zero, List.getElem?_cons_succ] at z3
  have z4 := cell_of (hs.cells 0 rfl) 4
  simp only [List.getElem?_toArray, List.getElem?_cons_zero, List.getElem?_cons_succ] at z4
  have z5 := cell_of (hs.cells 0 rfl) 5
  simp only [List.getElem?_toArray, List.getElem?_cons_zero, List.getElem?_cons_succ] at z5
  have z6 := cell_of (hs.cells 0 rfl) 6
  simp only [List.getElem?_toArray, List.getElem?_cons_zero, List.getElem?_cons_succ] at z6
  have z7 := cell_of (hs.cells 0 rfl) 7
  simp only [List.getElem?_toArray, List.getElem?_cons_zero, List.getElem?_cons_succ] at z7
  have qf := fun j => frozen_of (hs.cells 0 rfl) j
  have hb := lt_of hA
  obtain ⟨hlt, hk⟩ := List.getElem?_eq_some_iff.1 hk
  have hA2 := hs.below.block b hb
  have y0 := arch_cell hA (q % 4) hlt 0 (by decide)
  have y1 := arch_cell hA (q % 4) hlt 1 (by decide)
  have y2 := arch_cell hA (q % 4) hlt 2 (by decide)
  have y3 := arch_cell hA (q % 4) hlt 3 (by decide)
  have y4 := arch_cell hA (q % 4) hlt 4 (by decide)
  have y5 := arch_cell hA (q % 4) hlt 5 (by decide)
  have y6 := arch_cell hA (q % 4) hlt 6 (by decide)
  have y7 := arch_cell hA (q % 4) hlt 7 (by decide)
  obtain ⟨hn, hno⟩ := arch_n h4 hA
  rw [hk] at y0 y1 y2 y3 y4 y5 y6 y7
  obtain ⟨kno, kday, kcomp, ai, ci, ids, kn, ae, ce, es, af, cf, fl, ap, cp, pot⟩ := k
  simp only [roR, List.getElem?_cons_zero, List.getElem?_cons_succ, Nat.add_zero] at y0 y1 y2 y3 y4 y5 y6 y7
  have hsd := hs.drew
  replace hn := (hsd.cell (o := 32) hb).trans hn
  replace hno := (hsd.cell (o := 33) hb).trans hno
  replace y0 := (hsd.cell (o := q % 4 * 8) hb).trans y0
  replace y1 := (hsd.cell (o := q % 4 * 8 + 1) hb).trans y1
  replace y2 := (hsd.cell (o := q % 4 * 8 + 2) hb).trans y2
  replace y3 := (hsd.cell (o := q % 4 * 8 + 3) hb).trans y3
  replace y4 := (hsd.cell (o := q % 4 * 8 + 4) hb).trans y4
  replace y5 := (hsd.cell (o := q % 4 * 8 + 5) hb).trans y5
  replace y6 := (hsd.cell (o := q % 4 * 8 + 6) hb).trans y6
  replace y7 := (hsd.cell (o := q % 4 * 8 + 7) hb).trans y7
  have OWN := Lib.hid (own_any ⟨kno, kday, kcomp, ai, ci, ids, kn, ae, ce, es, af, cf, fl, ap, cp, pot⟩ _ (hok.sep hsd) hsm)
  have HK := Lib.hid hk
  clear hk hok hsm hA hA2 z0 z1 z2 z3 z4 z5 z6 z7 qf
  dsimp only [Ro.val, Ro.co] at *
  have e1 : decide ((N : Int) < (q : Int)) = false := decide_eq_false (by omega)
  have e2 : decide (n ≤ (N : Int) - (q : Int)) = false := decide_eq_false (by omega)
  go_enter Try.func14, Try.ntmps14
  go_wp2_with fail
  refine Mix.region [0, 0, 0, 0, 0, 0, 0, 0, 0, 0, 0, 0, 0, 0, 0, 0, 0, 0, 0, 0, 0, 0, 0] (fun _ => True) (by kernel_rfl) (by kernel_rfl) trivial ?_
  simp only [List.zip_cons_cons, List.zip_nil_right]
  iterate 3 (refine Mix.step0 fun K hK => ?_; go_simp; (try (go_bits; try go_simp)); first | ((with_reducible refine hK _ _ ?_); clear hK K) | ((try (simp only [IntWalk.iteOmega]; try go_simp)); (try go_bits); (with_reducible refine hK _ _ ?_); clear hK K))
  iterate 6 (first | (refine Mix.stepS rfl fun K hK => ?_; go_simp; (with_reducible refine hK _ _ ?_); clear hK K) | (refine Mix.step0 fun K hK => ?_; go_simp; (try (go_bits; try go_simp)); first | ((with_reducible refine hK _ _ ?_); clear hK K) | ((try (simp only [IntWalk.iteOmega]; try go_simp)); (try go_bits); (with_reducible refine hK _ _ ?_); clear hK K)))
  iterate 2 (refine Mix.step0 fun K hK => ?_; go_simp; (try (go_bits; try go_simp)); first | ((with_reducible refine hK _ _ ?_); clear hK K) | ((try (simp only [IntWalk.iteOmega]; try go_simp)); (try go_bits); (with_reducible refine hK _ _ ?_); clear hK K))
  iterate 11 (first | (refine Mix.stepS rfl fun K hK => ?_; go_simp; (with_reducible refine hK _ _ ?_); clear hK K) | (refine Mix.step0 fun K hK => ?_; go_simp; (try (go_bits; try go_simp)); first | ((with_reducible refine hK _ _ ?_); clear hK K) | ((try (simp only [IntWalk.iteOmega]; try go_simp)); (try go_bits); (with_reducible refine hK _ _ ?_); clear hK K)))
  iterate 1 (refine Mix.step0 fun K hK => ?_; go_simp; (try (go_bits; try go_simp)); first | ((with_reducible refine hK _ _ ?_); clear hK K) | ((try (simp only [IntWalk.iteOmega]; try go_simp)); (try go_bits); (with_reducible refine hK _ _ ?_); clear hK K))
  refine Mix.done ?_
  go_wp2_with fail
  refine (OWN.out).mono ?_
  rintro en w1 ⟨r1, hco, rfl, k1⟩
  obtain ⟨xno, xday, xcomp, a1, c1, xids, xn, a2, c2, xes, a3, c3, xfl, a4, c4, xpot⟩ := r1
  have HCO := Lib.hid hco
  replace hs := hsd.join k1
  simp only [List.cons_append, List.nil_append] at hs
  clear y0 y1 y2 y3 y4 y5 y6 y7 hn hno hco hsd k1 OWN
  have z0 := cell_of (hs.cells 1 rfl) 0
  simp only [List.getElem?_toArray, List.getElem?_cons_zero, List.getElem?_cons_succ] at z0
  have z1 := cell_of (hs.cells 1 rfl) 1
  simp only [List.getElem?_toArray, List.getElem?_cons_zero, List.getElem?_cons_succ] at z1
  have z2 := cell_of (hs.cells 1 rfl) 2
  simp only [List.getElem?_toArray, List.getElem?_cons_zero, List.getElem?_cons_succ] at z2
  have z3 := cell_of (hs.cells 1 rfl) 3
  simp only [List.getElem?_toArray, List.getElem?_cons_zero, List.getElem?_cons_succ] at z3
  have z4 := cell_of (hs.cells 1 rfl) 4
  simp only [List.getElem?_toArray, List.getElem?_cons_zero, List.getElem?_cons_succ] at z4
  have z5 := cell_of (hs.cells 1 rfl) 5
  simp only [List.getElem?_toArray, List.getElem?_cons_zero, List.getElem?_cons_succ] at z5
  have z6 := cell_of (hs.cells 1 rfl) 6
  simp only [List.getElem?_toArray, List.getElem?_cons_zero, List.getElem?_cons_succ] at z6
  have z7 := cell_of (hs.cells 1 rfl) 7
  simp only [List.getElem?_toArray, List.getElem?_cons_zero, List.getElem?_cons_succ] at z7
  have qf := fun j => frozen_of (hs.cells 1 rfl) j
  go_wp2_with fail
  replace hs := ((((((((hs.setC 1 rfl 0 (.int .u64 xno) #[.int .u64 xno, .int .i64 0, .bool false, .slice none 0 0, .int .i64 0, .slice none 0 0, .slice none 0 0, .slice none 0 0] rfl).setC 1 rfl 1 (.int .i64 xday) #[.int .u64 xno, .int .i64 xday, .bool false, .slice none 0 0, .int .i64 0, .slice none 0 0, .slice none 0 0, .slice none 0 0] rfl).setC 1 rfl 2 (.bool xcomp) #[.int .u64 xno, .int .i64 xday, .bool xcomp, .slice none 0 0, .int .i64 0, .slice none 0 0, .slice none 0 0, .slice none 0 0] rfl).setC 1 rfl 3 (.slice a1 xids.length c1) #[.int .u64 xno, .int .i64 xday, .bool xcomp, .slice a1 xids.length c1, .int .i64 0, .slice none 0 0, .slice none 0 0, .slice none 0 0] rfl).setC 1 rfl 4 (.int .i64 xn) #[.int .u64 xno, .int .i64 xday, .bool xcomp, .slice a1 xids.length c1, .int .i64 xn, .slice none 0 0, .slice none 0 0, .slice none 0 0] rfl).setC 1 rfl 5 (.slice a2 xes.length c2) #[.int .u64 xno, .int .i64 xday, .bool xcomp, .slice a1 xids.length c1, .int .i64 xn, .slice a2 xes.length c2, .slice none 0 0, .slice none 0 0] rfl).setC 1 rfl 6 (.slice a3 xfl.length c3) #[.int .u64 xno, .int .i64 xday, .bool xcomp, .slice a1 xids.length c1, .int .i64 xn, .slice a2 xes.length c2, .slice a3 xfl.length c3, .slice none 0 0] rfl).setC 1 rfl 7 (.slice a4 xpot.length c4) #[.int .u64 xno, .int .i64 xday, .bool xcomp, .slice a1 xids.length c1, .int .i64 xn, .slice a2 xes.length c2, .slice a3 xfl.length c3, .slice a4 xpot.length c4] rfl)
  clear z0 z1 z2 z3 z4 z5 z6 z7 qf
  have z0 := cell_of (hs.cells 1 rfl) 0
  simp only [List.getElem?_toArray, List.getElem?_cons_zero, List.getElem?_cons_succ] at z0
  have z1 := cell_of (hs.cells 1 rfl) 1
  simp only [List.getElem?_toArray, List.getElem?_cons_zero, List.getElem?_cons_succ] at z1
  have z2 := cell_of (hs.cells 1 rfl) 2
  simp only [List.getElem?_toArray, List.getElem?_cons_zero, List.getElem?_cons_succ] at z2
  have z3 := cell_of (hs.cells 1 rfl) 3
  simp only [List.getElem?_toArray, List.getElem?_cons_zero, List.getElem?_cons_succ] at z3
  have z4 := cell_of (hs.cells 1 rfl) 4
  simp only [List.getElem?_toArray, List.getElem?_cons_zero, List.getElem?_cons_succ] at z4
  have z5 := cell_of (hs.cells 1 rfl) 5
  simp only [List.getElem?_toArray, List.getElem?_cons_zero, List.getElem?_cons_succ] at z5
  have z6 := cell_of (hs.cells 1 rfl) 6
  simp only [List.getElem?_toArray, List.getElem?_cons_zero, List.getElem?_cons_succ] at z6
  have z7 := cell_of (hs.cells 1 rfl) 7
  simp only [List.getElem?_toArray, List.getElem?_cons_zero, List.getElem?_cons_succ] at z7
  exact bodyPost_ret (v := .tuple #[.agg #[.int .u64 xno, .int .i64 xday, .bool xcomp, .slice a1 xids.length c1, .int .i64 xn, .slice a2 xes.length c2, .slice a3 xfl.length c3, .slice a4 xpot.length c4], .bool true]) (by simp [results, Try.results14, go_sem, z0, z1, z2, z3, z4, z5, z6, z7]) rfl ⟨⟨xno, xday, xcomp, a1, c1, xids, xn, a2, c2, xes, a3, c3, xfl, a4, c4, xpot⟩, HCO.out, rfl, hs.takeN 1⟩
end Go.Proofs.Ytfnkmkfkomhhnaa
