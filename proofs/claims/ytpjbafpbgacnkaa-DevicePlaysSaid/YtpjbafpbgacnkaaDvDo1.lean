/-
  Do: flushes, arms, offs.
-/
import Derived.Test.YtpjbafpbgacnkaaDvRef5
set_option linter.unusedVariables false
set_option linter.unusedSimpArgs false
namespace Go.Proofs.Ytpjbafpbgacnkaa
open Go Go.RowKit Go.Mem Go.DevP
attribute [local go_sem] Oper.semAt_some
/-- A step, as it comes in. -/
abbrev stV (q k n c e : Int) (sh : Bool) (pv : Value) : Value := .agg #[.int .i64 q, .int .i64 k, .int .i64 n, .int .u8 c, .int .u8 e, .bool sh, pv]
abbrev stT (B : Nat) (q k n c e : Int) (sh : Bool) (pv : Value) : Thing := cellsT B #[.int .i64 q, .int .i64 k, .int .i64 n, .int .u8 c, .int .u8 e, .bool sh, pv] 35
def DoP (w0 w' : World) (b rb : Nat) (d' : Dv) (en : Ending) : Prop := en = .returned (.bool true) ∧ Sep w0 w' [devT b d', refT rb d']
section
variable {w0 w : World} {b rb : Nat} {d : Dv} {k n c e : Int} {sh : Bool} {pa : Option Addr} {pn pc : Nat}
theorem do_flush (hs0 : Sep w0 w [devT b d, refT rb d]) (hg : d.Good) :
    Calls Try.prog 11 #[.pointer (some ⟨b, 0, none⟩), .pointer (some ⟨rb, 0, none⟩), stV 2 k n c e sh (.slice pa pn pc)] w fun en w' => DoP w0 w' b rb d.flushD en := by
  have hs := hs0.newCells #[.int .i64 2, .int .i64 k, .int .i64 n, .int .u8 c, .int .u8 e, .bool sh, .slice pa pn pc] 35
  obtain ⟨B1, hB1⟩ : ∃ B1, B1 = w.heap.size := ⟨_, rfl⟩
  rw [← hB1] at hs
  have t0 := cell_of (hs.cells 0 rfl) 0
  have t1 := cell_of (hs.cells 0 rfl) 1
  have t2 := cell_of (hs.cells 0 rfl) 2
  have t3 := cell_of (hs.cells 0 rfl) 3
  have t4 := cell_of (hs.cells 0 rfl) 4
  have t5 := cell_of (hs.cells 0 rfl) 5
  have t6 := cell_of (hs.cells 0 rfl) 6
  simp only [List.getElem?_toArray, List.getElem?_cons_zero, List.getElem?_cons_succ] at t0 t1 t2 t3 t4 t5 t6
  clear hs0
  have HG := Lib.hid hg
  clear hg
  go_enter Try.func11, Try.ntmps11
  go_wp2_with fail
  rw [← hB1]
  clear hB1
  refine (flush_any hs (i := 1) rfl HG.out).mono ?_
  rintro en w1 ⟨rfl, hs1⟩
  clear hs t0 t1 t2 t3 t4 t5 t6
  (try simp only [List.set_cons_succ, List.set_cons_zero] at hs1)
  have HR := Lib.hid (rflush_any hs1 (i := 2) rfl HG.out)
  clear hs1
  obtain ⟨E, hE⟩ : ∃ E, E = d.flushE := ⟨_, rfl⟩
  rw [← hE] at HR ⊢
  clear hE
  go_wp2_with fail
  refine HR.out.mono ?_
  rintro en w2 ⟨rfl, hs2⟩
  (try simp only [List.set_cons_succ, List.set_cons_zero] at hs2)
  have HS := Lib.hid hs2.tail
  clear hs2
  go_wp2_with fail
  go_ret
  exact ⟨rfl, HS.out⟩
theorem do_off (hs0 : Sep w0 w [devT b d, refT rb d]) :
    Calls Try.prog 11 #[.pointer (some ⟨b, 0, none⟩), .pointer (some ⟨rb, 0, none⟩), stV 5 k n c e sh (.slice pa pn pc)] w fun en w' => DoP w0 w' b rb d.offD en := by
  have hs := hs0.newCells #[.int .i64 5, .int .i64 k, .int .i64 n, .int .u8 c, .int .u8 e, .bool sh, .slice pa pn pc] 35
  obtain ⟨B1, hB1⟩ : ∃ B1, B1 = w.heap.size := ⟨_, rfl⟩
  rw [← hB1] at hs
  have t0 := cell_of (hs.cells 0 rfl) 0
  have t1 := cell_of (hs.cells 0 rfl) 1
  have t2 := cell_of (hs.cells 0 rfl) 2
  have t3 := cell_of (hs.cells 0 rfl) 3
  have t4 := cell_of (hs.cells 0 rfl) 4
  have t5 := cell_of (hs.cells 0 rfl) 5
  have t6 := cell_of (hs.cells 0 rfl) 6
  simp only [List.getElem?_toArray, List.getElem?_cons_zero, List.getElem?_cons_succ] at t0 t1 t2 t3 t4 t5 t6
  clear hs0
  go_enter Try.func11, Try.ntmps11
  go_wp2_with fail
  rw [← hB1]
  clear hB1
  refine (off_any hs (i := 1) rfl).mono ?_
  rintro en w1 ⟨rfl, hs1⟩
  clear hs t0 t1 t2 t3 t4 t5 t6
  (try simp only [List.set_cons_succ, List.set_cons_zero] at hs1)
  have HR := Lib.hid (roff_any hs1 (i := 2) rfl)
  clear hs1
  obtain ⟨E, hE⟩ : ∃ E, E = onE d.off := ⟨_, rfl⟩
  rw [← hE] at HR ⊢
  clear hE
  go_wp2_with fail
  refine HR.out.mono ?_
  rintro en w2 ⟨rfl, hs2⟩
  (try simp only [List.set_cons_succ, List.set_cons_zero] at hs2)
  have HS := Lib.hid hs2.tail
  clear hs2
  go_wp2_with fail
  go_ret
  exact ⟨rfl, HS.out⟩
theorem do_arm (hs0 : Sep w0 w [devT b d, refT rb d]) :
    Calls Try.prog 11 #[.pointer (some ⟨b, 0, none⟩), .pointer (some ⟨rb, 0, none⟩), stV 4 k n c e sh (.slice pa pn pc)] w fun en w' => DoP w0 w' b rb (d.armD n) en := by
  have hs := hs0.newCells #[.int .i64 4, .int .i64 k, .int .i64 n, .int .u8 c, .int .u8 e, .bool sh, .slice pa pn pc] 35
  obtain ⟨B1, hB1⟩ : ∃ B1, B1 = w.heap.size := ⟨_, rfl⟩
  rw [← hB1] at hs
  have t0 := cell_of (hs.cells 0 rfl) 0
  have t1 := cell_of (hs.cells 0 rfl) 1
  have t2 := cell_of (hs.cells 0 rfl) 2
  have t3 := cell_of (hs.cells 0 rfl) 3
  have t4 := cell_of (hs.cells 0 rfl) 4
  have t5 := cell_of (hs.cells 0 rfl) 5
  have t6 := cell_of (hs.cells 0 rfl) 6
  simp only [List.getElem?_toArray, List.getElem?_cons_zero, List.getElem?_cons_succ] at t0 t1 t2 t3 t4 t5 t6
  clear hs0
  go_enter Try.func11, Try.ntmps11
  go_wp2_with fail
  rw [← hB1]
  clear hB1
  generalize World.alloc w _ = W1 at hs t0 t1 t2 t3 t4 t5 t6 ⊢
  clear t0 t1 t3 t4 t5 t6
  replace hs := hs.drew
  have hCW : (fun W : World => W.cell? ⟨B1, 2, none⟩ = some (.int .i64 n)) W1.drew := t2
  refine Mix.region [0, 0, 0, 2, 1, 1, 1, 2, 0, 0] (fun W : World => W.cell? ⟨B1, 2, none⟩ = some (.int .i64 n)) (by kernel_rfl) (by kernel_rfl) hCW ?_
  simp only [List.zip_cons_cons, List.zip_nil_right]
  iterate 3 (refine Mix.step0 fun K hK => ?_; go_simp; (try (go_bits; try go_simp)); first | ((with_reducible refine hK _ _ ?_); clear hK K) | ((try (simp only [IntWalk.iteOmega]; try go_simp)); (try go_bits); (with_reducible refine hK _ _ ?_); clear hK K))
  refine Mix.step2n (by first | rfl | simp [Region.wanted, yielded]) fun K hK => ?_
  go_wp2_with fail
  refine (arm_any hs (i := 1) rfl n).mono ?_
  rintro en w1 ⟨rfl, hs1⟩
  (try simp only [List.set_cons_succ, List.set_cons_zero] at hs1)
  have hCW : (fun W : World => W.cell? ⟨B1, 2, none⟩ = some (.int .i64 n)) w1 := cell_of (hs1.cells 0 rfl) 2
  have HR := Lib.hid (rarm_any hs1 (i := 2) rfl n)
  clear hs hs1
  obtain ⟨E, hE⟩ : ∃ E, E = onE d.off := ⟨_, rfl⟩
  rw [← hE] at HR ⊢
  clear hE
  go_wp2_with fail
  refine Mix.post_mk (C := (fun W : World => W.cell? ⟨B1, 2, none⟩ = some (.int .i64 n))) (by first | exact hCW | exact HCW.out _) (hK _ _ ?_)
  clear hK K
  (refine Mix.step1 fun K hK => ?_; go_simp; (try (go_bits; try go_simp)); first | ((with_reducible refine hK _ _ ?_); clear hK K) | ((try (simp only [IntWalk.iteOmega]; try go_simp)); (try go_bits); (with_reducible refine hK _ _ ?_); clear hK K))
  (refine Mix.step1 fun K hK => ?_; go_simp; (try (go_bits; try go_simp)); first | ((with_reducible refine hK _ _ ?_); clear hK K) | ((try (simp only [IntWalk.iteOmega]; try go_simp)); (try go_bits); (with_reducible refine hK _ _ ?_); clear hK K))
  (refine Mix.step1 fun K hK => ?_; go_simp; refine ⟨fun W => ?_, hK _ _ ?_⟩; (intro hW1; (try intro hW2); (try intro hW3); (try intro hW4); (try intro hW5); (try intro hW6); (try intro hW7); (try intro hW8); go_simp); clear hK K)
  refine Mix.step2n (by first | rfl | simp [Region.wanted, yielded]) fun K hK => ?_
  go_wp2_with fail
  refine HR.out.mono ?_
  rintro en w2 ⟨rfl, hs2⟩
  (try simp only [List.set_cons_succ, List.set_cons_zero] at hs2)
  have hCW : (fun W : World => W.cell? ⟨B1, 2, none⟩ = some (.int .i64 n)) w2 := cell_of (hs2.cells 0 rfl) 2
  have HS := Lib.hid hs2.tail
  clear hs2
  go_wp2_with fail
  refine Mix.post_mk (C := (fun W : World => W.cell? ⟨B1, 2, none⟩ = some (.int .i64 n))) (by first | exact hCW | exact HCW.out _) (hK _ _ ?_)
  clear hK K
  iterate 2 (refine Mix.step0 fun K hK => ?_; go_simp; (try (go_bits; try go_simp)); first | ((with_reducible refine hK _ _ ?_); clear hK K) | ((try (simp only [IntWalk.iteOmega]; try go_simp)); (try go_bits); (with_reducible refine hK _ _ ?_); clear hK K))
  refine Mix.done ?_
  go_wp2_with fail
  go_ret
  exact ⟨rfl, HS.out⟩
theorem do_none (hs0 : Sep w0 w [devT b d, refT rb d]) {q : Int} (h1 : q ≠ 1) (h2 : q ≠ 2) (h3 : q ≠ 3) (h4 : q ≠ 4) (h5 : q ≠ 5) (h6 : q ≠ 6) :
    Calls Try.prog 11 #[.pointer (some ⟨b, 0, none⟩), .pointer (some ⟨rb, 0, none⟩), stV q k n c e sh (.slice pa pn pc)] w fun en w' => DoP w0 w' b rb d en := by
  have hs := hs0.newCells #[.int .i64 q, .int .i64 k, .int .i64 n, .int .u8 c, .int .u8 e, .bool sh, .slice pa pn pc] 35
  obtain ⟨B1, hB1⟩ : ∃ B1, B1 = w.heap.size := ⟨_, rfl⟩
  rw [← hB1] at hs
  have t0 := cell_of (hs.cells 0 rfl) 0
  have t1 := cell_of (hs.cells 0 rfl) 1
  have t2 := cell_of (hs.cells 0 rfl) 2
  have t3 := cell_of (hs.cells 0 rfl) 3
  have t4 := cell_of (hs.cells 0 rfl) 4
  have t5 := cell_of (hs.cells 0 rfl) 5
  have t6 := cell_of (hs.cells 0 rfl) 6
  simp only [List.getElem?_toArray, List.getElem?_cons_zero, List.getElem?_cons_succ] at t0 t1 t2 t3 t4 t5 t6
  clear hs0
  have HS := Lib.hid hs.tail
  have q1 : (q == 1) = false := by simpa using h1
  have q2 : (q == 2) = false := by simpa using h2
  have q3 : (q == 3) = false := by simpa using h3
  have q4 : (q == 4) = false := by simpa using h4
  have q5 : (q == 5) = false := by simpa using h5
  have q6 : (q == 6) = false := by simpa using h6
  clear hs h1 h2 h3 h4 h5 h6
  go_enter Try.func11, Try.ntmps11
  go_wp2_with fail
  go_ret
  exact ⟨rfl, HS.out⟩
end
end Go.Proofs.Ytpjbafpbgacnkaa
