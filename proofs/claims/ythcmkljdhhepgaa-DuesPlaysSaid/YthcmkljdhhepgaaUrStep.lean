/-
  One step by both, walked.
-/
import Derived.Test.YthcmkljdhhepgaaUrW5
import Derived.Test.YthcmkljdhhepgaaUdStep
set_option linter.unusedVariables false
set_option linter.unusedSimpArgs false
namespace Go.DuesP
open Go Go.BuildP Go.MoneyP
/-- What a step leaves. -/
def stepS (xs : List Du) (nx : Int) (s : St) : List Du :=
  if s.q = 1 then addS xs nx ⟨nx, s.a, s.b, s.x, s.w, s.u, false⟩ else if s.q = 2 then turnS (heldF true) xs s.id else if s.q = 3 then turnS (heldF false) xs s.id else if s.q = 4 then turnS cancelF xs s.id else if s.q = 5 then turnS (payF s.x) xs s.id else if s.q = 6 then expS xs s.u else xs
def stepN (xs : List Du) (nx : Int) (s : St) : Int := if s.q = 1 then addN xs nx ⟨nx, s.a, s.b, s.x, s.w, s.u, false⟩ else nx
theorem GoodS.step {xs : List Du} {nx : Int} (h : GoodS xs nx) (s : St) : GoodS (stepS xs nx s) (stepN xs nx s) := by
  unfold stepS stepN
  by_cases h1 : s.q = 1
  · rw [if_pos h1, if_pos h1]; exact h.addS rfl
  · rw [if_neg h1, if_neg h1]
    split
    · exact h.turn (fine_held true) _
    · split
      · exact h.turn (fine_held false) _
      · split
        · exact h.turn fine_cancel _
        · split
          · exact h.turn (fine_pay _) _
          · split
            · exact h.exp _
            · exact h
end Go.DuesP
namespace Go.Proofs.Ythcmkljdhhepgaa
open Go Go.RowKit Go.Mem Go.MoneyP Go.NetP Go.BuildP Go.DuesP Go.Maps Go.Shelf
attribute [local go_sem] Oper.semAt_some
/-- A step as it lies alone. -/
abbrev stD (B : Nat) (s : St) : Thing := cellsT B #[.int .i64 s.q, .int .u64 s.id, .int .i64 s.a, .int .i64 s.b, .int .i64 s.x, .int .i64 s.w, .int .i64 s.u] 48
/-- What a step by both says and leaves. -/
def StepD (w0 : World) (b c : Nat) (xs : List Du) (nx : Int) (s : St) (R : List Thing) (en : Ending) (w' : World) : Prop :=
  en = .returned (.bool true) ∧ Sep w0 w' (duesT b (stepS xs nx s) (stepN xs nx s) :: refD c (stepS xs nx s) (stepN xs nx s) :: R)
set_option maxRecDepth 100000 in
set_option maxHeartbeats 8000000 in
theorem step_any {w0 w : World} {b c : Nat} {xs : List Du} {nx : Int} {R : List Thing} (hs : Sep w0 w (duesT b xs nx :: refD c xs nx :: R)) (hg : GoodS xs nx) (s : St) (hok : s.Ok) :
    Calls Try.prog 22 #[.pointer (some ⟨b, 0, none⟩), .pointer (some ⟨c, 0, none⟩), .agg #[.int .i64 s.q, .int .u64 s.id, .int .i64 s.a, .int .i64 s.b, .int .i64 s.x, .int .i64 s.w, .int .i64 s.u]] w fun en w' => StepD w0 b c xs nx s R en w' := by
  obtain ⟨hi0, hi1⟩ := hok
  have HG := Lib.hid hg
  obtain ⟨q, id, a, b2, x, we, u⟩ := s
  dsimp only at hi0 hi1 ⊢
  have hb := hs.newCells #[.int .i64 q, .int .u64 id, .int .i64 a, .int .i64 b2, .int .i64 x, .int .i64 we, .int .i64 u] 48
  obtain ⟨BS, hBS⟩ : ∃ BS, BS = w.heap.size := ⟨_, rfl⟩
  have hb : Sep w0 _ (stD w.heap.size ⟨q, id, a, b2, x, we, u⟩ :: duesT b xs nx :: refD c xs nx :: R) := hb
  rw [← hBS] at hb
  clear hs hg
  go_enter Try.func22, Try.ntmps22
  go_upto_region 1 with fail
  rw [← hBS]
  clear hBS
  generalize World.alloc w _ = wb at hb ⊢
  have c0 := cell_of (hb.cells 0 rfl) 0
  have c1 := cell_of (hb.cells 0 rfl) 1
  have c2 := cell_of (hb.cells 0 rfl) 2
  have c3 := cell_of (hb.cells 0 rfl) 3
  have c4 := cell_of (hb.cells 0 rfl) 4
  have c5 := cell_of (hb.cells 0 rfl) 5
  have c6 := cell_of (hb.cells 0 rfl) 6
  simp only [List.getElem?_toArray, List.getElem?_cons_zero, List.getElem?_cons_succ] at c0 c1 c2 c3 c4 c5 c6
  by_cases d1 : q = 1
  · subst d1
    have hs1 : Sep w0 wb (stD BS ⟨1, id, a, b2, x, we, u⟩ :: duesT b xs nx :: refD c xs nx :: R) := hb
    obtain ⟨d, hd⟩ : ∃ d : Du, d = ⟨nx, a, b2, x, we, u, false⟩ := ⟨_, rfl⟩
    have HDD := Lib.hid hd
    obtain ⟨E, hE⟩ : ∃ E, E = addE xs nx d := ⟨_, rfl⟩
    obtain ⟨I, hI⟩ : ∃ I, I = addI xs nx d := ⟨_, rfl⟩
    have HC := Lib.hid (duesAdd_any hs1 (i := 1) rfl HG.out a b2 x we u)
    have HEE := Lib.hid hE
    have HII := Lib.hid hI
    unfold AddD at HC
    rw [← hd, ← hE, ← hI] at HC
    have N1 : (E == E) = true := by simp
    have N2 : (I == I) = true := by simp
    clear hs1 hb hd hE hI
    go_wp2_with fail
    refine HC.out.mono ?_
    rintro en w3 ⟨rfl, hs2⟩
    have hs2 : Sep w0 w3 (stD BS ⟨1, id, a, b2, x, we, u⟩ :: duesT b (addS xs nx d) (addN xs nx d) :: refD c xs nx :: R) := hs2
    clear c0 c1 c2 c3 c4 c5 c6 HC
    have c2 := cell_of (hs2.cells 0 rfl) 2
    have c3 := cell_of (hs2.cells 0 rfl) 3
    have c4 := cell_of (hs2.cells 0 rfl) 4
    have c5 := cell_of (hs2.cells 0 rfl) 5
    have c6 := cell_of (hs2.cells 0 rfl) 6
    simp only [List.getElem?_toArray, List.getElem?_cons_zero, List.getElem?_cons_succ] at c2 c3 c4 c5 c6
    have HR := Lib.hid (rAdd_any hs2 (i := 2) rfl HG.out a b2 x we u)
    unfold RAddD at HR
    rw [← HDD.out, ← HEE.out, ← HII.out] at HR
    clear hs2
    go_wp2_with fail
    refine HR.out.mono ?_
    rintro en w4 ⟨rfl, hs3⟩
    have hs3 : Sep w0 w4 (stD BS ⟨1, id, a, b2, x, we, u⟩ :: duesT b (addS xs nx d) (addN xs nx d) :: refD c (addS xs nx d) (addN xs nx d) :: R) := hs3
    have HT := Lib.hid hs3.tail
    clear hs3 HR c2 c3 c4 c5 c6
    go_wp2_with fail
    go_ret
    refine ⟨rfl, ?_⟩
    have h := HT.out
    rw [HDD.out] at h
    exact h
  · have e1 : (q == 1) = false := by simpa using d1
    by_cases d2 : q = 2
    · subst d2
      have hs1 : Sep w0 wb (stD BS ⟨2, id, a, b2, x, we, u⟩ :: duesT b xs nx :: refD c xs nx :: R) := hb
      obtain ⟨E, hE⟩ : ∃ E, E = turnE (heldF true) xs id := ⟨_, rfl⟩
      obtain ⟨ys, hys⟩ : ∃ ys, ys = turnS (heldF true) xs id := ⟨_, rfl⟩
      have HYS := Lib.hid hys
      have HEE := Lib.hid hE
      have HC := Lib.hid (hold_u hs1.drew (i := 1) rfl HG.out id hi0 hi1)
      unfold TurnD at HC
      rw [← hE, ← hys] at HC
      have hCW : (fun W : World => W.cell? ⟨BS, 1, none⟩ = some (.int .u64 id) ∧ W.cell? ⟨BS, 4, none⟩ = some (.int .i64 x)) wb.drew := ⟨c1, c4⟩
      clear hs1 hE hys hb
      have NX : (E == E) = true := by simp
      go_wp2_with fail
      refine Mix.region [0, 0, 0, 2, 1, 1, 1, 2, 0, 0] (fun W : World => W.cell? ⟨BS, 1, none⟩ = some (.int .u64 id) ∧ W.cell? ⟨BS, 4, none⟩ = some (.int .i64 x)) (by kernel_rfl) (by kernel_rfl) hCW ?_
      simp only [List.zip_cons_cons, List.zip_nil_right]
      iterate 3 (refine Mix.step0 fun K hK => ?_; go_simp; (try (go_bits; try go_simp)); first | ((with_reducible refine hK _ _ ?_); clear hK K) | ((try (simp only [IntWalk.iteOmega]; try go_simp)); (try go_bits); (with_reducible refine hK _ _ ?_); clear hK K))
      refine Mix.step2n (by first | rfl | simp [Region.wanted, yielded]) fun K hK => ?_
      go_wp2_with fail
      refine HC.out.mono ?_
      rintro en w3 ⟨rfl, hs2⟩
      have hs2 : Sep w0 w3 (stD BS ⟨2, id, a, b2, x, we, u⟩ :: duesT b ys nx :: refD c xs nx :: R) := hs2
      have c1 := cell_of (hs2.cells 0 rfl) 1
      have c4 := cell_of (hs2.cells 0 rfl) 4
      simp only [List.getElem?_toArray, List.getElem?_cons_zero, List.getElem?_cons_succ] at c1 c4
      have HD := Lib.hid (rhold_u hs2 (i := 2) rfl HG.out id)
      unfold RTurnD at HD
      rw [← HEE.out, ← HYS.out] at HD
      have hCW : (fun W : World => W.cell? ⟨BS, 1, none⟩ = some (.int .u64 id) ∧ W.cell? ⟨BS, 4, none⟩ = some (.int .i64 x)) w3 := ⟨c1, c4⟩
      clear hs2 HC
      go_wp2_with fail
      refine Mix.post_mk (C := (fun W : World => W.cell? ⟨BS, 1, none⟩ = some (.int .u64 id) ∧ W.cell? ⟨BS, 4, none⟩ = some (.int .i64 x))) (by first | exact hCW | exact HCW.out _) (hK _ _ ?_)
      clear hK K
      (refine Mix.step1 fun K hK => ?_; go_simp; (try (go_bits; try go_simp)); first | ((with_reducible refine hK _ _ ?_); clear hK K) | ((try (simp only [IntWalk.iteOmega]; try go_simp)); (try go_bits); (with_reducible refine hK _ _ ?_); clear hK K))
      (refine Mix.step1 fun K hK => ?_; go_simp; (try (go_bits; try go_simp)); first | ((with_reducible refine hK _ _ ?_); clear hK K) | ((try (simp only [IntWalk.iteOmega]; try go_simp)); (try go_bits); (with_reducible refine hK _ _ ?_); clear hK K))
      (refine Mix.step1 fun K hK => ?_; go_simp; refine ⟨fun W => ?_, hK _ _ ?_⟩; (intro hW1; (try intro hW2); (try intro hW3); (try intro hW4); (try intro hW5); (try intro hW6); (try intro hW7); (try intro hW8); go_simp); clear hK K)
      refine Mix.step2n (by first | rfl | simp [Region.wanted, yielded]) fun K hK => ?_
      go_wp2_with fail
      refine HD.out.mono ?_
      rintro en w4 ⟨rfl, hs3⟩
      have hs3 : Sep w0 w4 (stD BS ⟨2, id, a, b2, x, we, u⟩ :: duesT b ys nx :: refD c ys nx :: R) := hs3
      have HT := Lib.hid hs3.tail
      clear c1 c4
      have c1 := cell_of (hs3.cells 0 rfl) 1
      have c4 := cell_of (hs3.cells 0 rfl) 4
      simp only [List.getElem?_toArray, List.getElem?_cons_zero, List.getElem?_cons_succ] at c1 c4
      have hCW : (fun W : World => W.cell? ⟨BS, 1, none⟩ = some (.int .u64 id) ∧ W.cell? ⟨BS, 4, none⟩ = some (.int .i64 x)) w4 := ⟨c1, c4⟩
      clear hs3 HD c1 c4
      go_wp2_with fail
      refine Mix.post_mk (C := (fun W : World => W.cell? ⟨BS, 1, none⟩ = some (.int .u64 id) ∧ W.cell? ⟨BS, 4, none⟩ = some (.int .i64 x))) (by first | exact hCW | exact HCW.out _) (hK _ _ ?_)
      clear hK K
      iterate 2 (refine Mix.step0 fun K hK => ?_; go_simp; (try (go_bits; try go_simp)); first | ((with_reducible refine hK _ _ ?_); clear hK K) | ((try (simp only [IntWalk.iteOmega]; try go_simp)); (try go_bits); (with_reducible refine hK _ _ ?_); clear hK K))
      refine Mix.done ?_
      go_wp2_with fail
      go_ret
      refine ⟨rfl, ?_⟩
      have h := HT.out
      rw [HYS.out] at h
      exact h
    · have e2 : (q == 2) = false := by simpa using d2
      by_cases d3 : q = 3
      · subst d3
        have hs1 : Sep w0 wb (stD BS ⟨3, id, a, b2, x, we, u⟩ :: duesT b xs nx :: refD c xs nx :: R) := hb
        obtain ⟨E, hE⟩ : ∃ E, E = turnE (heldF false) xs id := ⟨_, rfl⟩
        obtain ⟨ys, hys⟩ : ∃ ys, ys = turnS (heldF false) xs id := ⟨_, rfl⟩
        have HYS := Lib.hid hys
        have HEE := Lib.hid hE
        have HC := Lib.hid (release_u hs1.drew (i := 1) rfl HG.out id hi0 hi1)
        unfold TurnD at HC
        rw [← hE, ← hys] at HC
        have hCW : (fun W : World => W.cell? ⟨BS, 1, none⟩ = some (.int .u64 id) ∧ W.cell? ⟨BS, 4, none⟩ = some (.int .i64 x)) wb.drew := ⟨c1, c4⟩
        clear hs1 hE hys hb
        have NX : (E == E) = true := by simp
        go_wp2_with fail
        refine Mix.region [0, 0, 0, 2, 1, 1, 1, 2, 0, 0] (fun W : World => W.cell? ⟨BS, 1, none⟩ = some (.int .u64 id) ∧ W.cell? ⟨BS, 4, none⟩ = some (.int .i64 x)) (by kernel_rfl) (by kernel_rfl) hCW ?_
        simp only [List.zip_cons_cons, List.zip_nil_right]
        iterate 3 (refine Mix.step0 fun K hK => ?_; go_simp; (try (go_bits; try go_simp)); first | ((with_reducible refine hK _ _ ?_); clear hK K) | ((try (simp only [IntWalk.iteOmega]; try go_simp)); (try go_bits); (with_reducible refine hK _ _ ?_); clear hK K))
        refine Mix.step2n (by first | rfl | simp [Region.wanted, yielded]) fun K hK => ?_
        go_wp2_with fail
        refine HC.out.mono ?_
        rintro en w3 ⟨rfl, hs2⟩
        have hs2 : Sep w0 w3 (stD BS ⟨3, id, a, b2, x, we, u⟩ :: duesT b ys nx :: refD c xs nx :: R) := hs2
        have c1 := cell_of (hs2.cells 0 rfl) 1
        have c4 := cell_of (hs2.cells 0 rfl) 4
        simp only [List.getElem?_toArray, List.getElem?_cons_zero, List.getElem?_cons_succ] at c1 c4
        have HD := Lib.hid (rrelease_u hs2 (i := 2) rfl HG.out id)
        unfold RTurnD at HD
        rw [← HEE.out, ← HYS.out] at HD
        have hCW : (fun W : World => W.cell? ⟨BS, 1, none⟩ = some (.int .u64 id) ∧ W.cell? ⟨BS, 4, none⟩ = some (.int .i64 x)) w3 := ⟨c1, c4⟩
        clear hs2 HC
        go_wp2_with fail
        refine Mix.post_mk (C := (fun W : World => W.cell? ⟨BS, 1, none⟩ = some (.int .u64 id) ∧ W.cell? ⟨BS, 4, none⟩ = some (.int .i64 x))) (by first | exact hCW | exact HCW.out _) (hK _ _ ?_)
        clear hK K
        (refine Mix.step1 fun K hK => ?_; go_simp; (try (go_bits; try go_simp)); first | ((with_reducible refine hK _ _ ?_); clear hK K) | ((try (simp only [IntWalk.iteOmega]; try go_simp)); (try go_bits); (with_reducible refine hK _ _ ?_); clear hK K))
        (refine Mix.step1 fun K hK => ?_; go_simp; (try (go_bits; try go_simp)); first | ((with_reducible refine hK _ _ ?_); clear hK K) | ((try (simp only [IntWalk.iteOmega]; try go_simp)); (try go_bits); (with_reducible refine hK _ _ ?_); clear hK K))
        (refine Mix.step1 fun K hK => ?_; go_simp; refine ⟨fun W => ?_, hK _ _ ?_⟩; (intro hW1; (try intro hW2); (try intro hW3); (try intro hW4); (try intro hW5); (try intro hW6); (try intro hW7); (try intro hW8); go_simp); clear hK K)
        refine Mix.step2n (by first | rfl | simp [Region.wanted, yielded]) fun K hK => ?_
        go_wp2_with fail
        refine HD.out.mono ?_
        rintro en w4 ⟨rfl, hs3⟩
        have hs3 : Sep w0 w4 (stD BS ⟨3, id, a, b2, x, we, u⟩ :: duesT b ys nx :: refD c ys nx :: R) := hs3
        have HT := Lib.hid hs3.tail
        clear c1 c4
        have c1 := cell_of (hs3.cells 0 rfl) 1
        have c4 := cell_of (hs3.cells 0 rfl) 4
        simp only [List.getElem?_toArray, List.getElem?_cons_zero, List.getElem?_cons_succ] at c1 c4
        have hCW : (fun W : World => W.cell? ⟨BS, 1, none⟩ = some (.int .u64 id) ∧ W.cell? ⟨BS, 4, none⟩ = some (.int .i64 x)) w4 := ⟨c1, c4⟩
        clear hs3 HD c1 c4
        go_wp2_with fail
        refine Mix.post_mk (C := (fun W : World => W.cell? ⟨BS, 1, none⟩ = some (.int .u64 id) ∧ W.cell? ⟨BS, 4, none⟩ = some (.int .i64 x))) (by first | exact hCW | exact HCW.out _) (hK _ _ ?_)
        clear hK K
        iterate 2 (refine Mix.step0 fun K hK => ?_; go_simp; (try (go_bits; try go_simp)); first | ((with_reducible refine hK _ _ ?_); clear hK K) | ((try (simp only [IntWalk.iteOmega]; try go_simp)); (try go_bits); (with_reducible refine hK _ _ ?_); clear hK K))
        refine Mix.done ?_
        go_wp2_with fail
        go_ret
        refine ⟨rfl, ?_⟩
        have h := HT.out
        rw [HYS.out] at h
        exact h
      · have e3 : (q == 3) = false := by simpa using d3
        by_cases d4 : q = 4
        · subst d4
          have hs1 : Sep w0 wb (stD BS ⟨4, id, a, b2, x, we, u⟩ :: duesT b xs nx :: refD c xs nx :: R) := hb
          obtain ⟨E, hE⟩ : ∃ E, E = turnE cancelF xs id := ⟨_, rfl⟩
          obtain ⟨ys, hys⟩ : ∃ ys, ys = turnS cancelF xs id := ⟨_, rfl⟩
          have HYS := Lib.hid hys
          have HEE := Lib.hid hE
          have HC := Lib.hid (cancel_u hs1.drew (i := 1) rfl HG.out id hi0 hi1)
          unfold TurnD at HC
          rw [← hE, ← hys] at HC
          have hCW : (fun W : World => W.cell? ⟨BS, 1, none⟩ = some (.int .u64 id) ∧ W.cell? ⟨BS, 4, none⟩ = some (.int .i64 x)) wb.drew := ⟨c1, c4⟩
          clear hs1 hE hys hb
          have NX : (E == E) = true := by simp
          go_wp2_with fail
          refine Mix.region [0, 0, 0, 2, 1, 1, 1, 2, 0, 0] (fun W : World => W.cell? ⟨BS, 1, none⟩ = some (.int .u64 id) ∧ W.cell? ⟨BS, 4, none⟩ = some (.int .i64 x)) (by kernel_rfl) (by kernel_rfl) hCW ?_
          simp only [List.zip_cons_cons, List.zip_nil_right]
          iterate 3 (refine Mix.step0 fun K hK => ?_; go_simp; (try (go_bits; try go_simp)); first | ((with_reducible refine hK _ _ ?_); clear hK K) | ((try (simp only [IntWalk.iteOmega]; try go_simp)); (try go_bits); (with_reducible refine hK _ _ ?_); clear hK K))
          refine Mix.step2n (by first | rfl | simp [Region.wanted, yielded]) fun K hK => ?_
          go_wp2_with fail
          refine HC.out.mono ?_
          rintro en w3 ⟨rfl, hs2⟩
          have hs2 : Sep w0 w3 (stD BS ⟨4, id, a, b2, x, we, u⟩ :: duesT b ys nx :: refD c xs nx :: R) := hs2
          have c1 := cell_of (hs2.cells 0 rfl) 1
          have c4 := cell_of (hs2.cells 0 rfl) 4
          simp only [List.getElem?_toArray, List.getElem?_cons_zero, List.getElem?_cons_succ] at c1 c4
          have HD := Lib.hid (rcancel_u hs2 (i := 2) rfl HG.out id)
          unfold RTurnD at HD
          rw [← HEE.out, ← HYS.out] at HD
          have hCW : (fun W : World => W.cell? ⟨BS, 1, none⟩ = some (.int .u64 id) ∧ W.cell? ⟨BS, 4, none⟩ = some (.int .i64 x)) w3 := ⟨c1, c4⟩
          clear hs2 HC
          go_wp2_with fail
          refine Mix.post_mk (C := (fun W : World => W.cell? ⟨BS, 1, none⟩ = some (.int .u64 id) ∧ W.cell? ⟨BS, 4, none⟩ = some (.int .i64 x))) (by first | exact hCW | exact HCW.out _) (hK _ _ ?_)
          clear hK K
          (refine Mix.step1 fun K hK => ?_; go_simp; (try (go_bits; try go_simp)); first | ((with_reducible refine hK _ _ ?_); clear hK K) | ((try (simp only [IntWalk.iteOmega]; try go_simp)); (try go_bits); (with_reducible refine hK _ _ ?_); clear hK K))
          (refine Mix.step1 fun K hK => ?_; go_simp; (try (go_bits; try go_simp)); first | ((with_reducible refine hK _ _ ?_); clear hK K) | ((try (simp only [IntWalk.iteOmega]; try go_simp)); (try go_bits); (with_reducible refine hK _ _ ?_); clear hK K))
          (refine Mix.step1 fun K hK => ?_; go_simp; refine ⟨fun W => ?_, hK _ _ ?_⟩; (intro hW1; (try intro hW2); (try intro hW3); (try intro hW4); (try intro hW5); (try intro hW6); (try intro hW7); (try intro hW8); go_simp); clear hK K)
          refine Mix.step2n (by first | rfl | simp [Region.wanted, yielded]) fun K hK => ?_
          go_wp2_with fail
          refine HD.out.mono ?_
          rintro en w4 ⟨rfl, hs3⟩
          have hs3 : Sep w0 w4 (stD BS ⟨4, id, a, b2, x, we, u⟩ :: duesT b ys nx :: refD c ys nx :: R) := hs3
          have HT := Lib.hid hs3.tail
          clear c1 c4
          have c1 := cell_of (hs3.cells 0 rfl) 1
          have c4 := cell_of (hs3.cells 0 rfl) 4
          simp only [List.getElem?_toArray, List.getElem?_cons_zero, List.getElem?_cons_succ] at c1 c4
          have hCW : (fun W : World => W.cell? ⟨BS, 1, none⟩ = some (.int .u64 id) ∧ W.cell? ⟨BS, 4, none⟩ = some (.int .i64 x)) w4 := ⟨c1, c4⟩
          clear hs3 HD c1 c4
          go_wp2_with fail
          refine Mix.post_mk (C := (fun W : World => W.cell? ⟨BS, 1, none⟩ = some (.int .u64 id) ∧ W.cell? ⟨BS, 4, none⟩ = some (.int .i64 x))) (by first | exact hCW | exact HCW.out _) (hK _ _ ?_)
          clear hK K
          iterate 2 (refine Mix.step0 fun K hK => ?_; go_simp; (try (go_bits; try go_simp)); first | ((with_reducible refine hK _ _ ?_); clear hK K) | ((try (simp only [IntWalk.iteOmega]; try go_simp)); (try go_bits); (with_reducible refine hK _ _ ?_); clear hK K))
          refine Mix.done ?_
          go_wp2_with fail
          go_ret
          refine ⟨rfl, ?_⟩
          have h := HT.out
          rw [HYS.out] at h
          exact h
        · have e4 : (q == 4) = false := by simpa using d4
          by_cases d5 : q = 5
          · subst d5
            have hs1 : Sep w0 wb (stD BS ⟨5, id, a, b2, x, we, u⟩ :: duesT b xs nx :: refD c xs nx :: R) := hb
            obtain ⟨E, hE⟩ : ∃ E, E = turnE (payF x) xs id := ⟨_, rfl⟩
            obtain ⟨ys, hys⟩ : ∃ ys, ys = turnS (payF x) xs id := ⟨_, rfl⟩
            have HYS := Lib.hid hys
            have HEE := Lib.hid hE
            have HC := Lib.hid (pay_u hs1.drew (i := 1) rfl HG.out id hi0 hi1 x)
            unfold TurnD at HC
            rw [← hE, ← hys] at HC
            have hCW : (fun W : World => W.cell? ⟨BS, 1, none⟩ = some (.int .u64 id) ∧ W.cell? ⟨BS, 4, none⟩ = some (.int .i64 x)) wb.drew := ⟨c1, c4⟩
            clear hs1 hE hys hb
            have NX : (E == E) = true := by simp
            go_wp2_with fail
            refine Mix.region [0, 0, 0, 0, 0, 2, 1, 1, 1, 1, 1, 2, 0, 0] (fun W : World => W.cell? ⟨BS, 1, none⟩ = some (.int .u64 id) ∧ W.cell? ⟨BS, 4, none⟩ = some (.int .i64 x)) (by kernel_rfl) (by kernel_rfl) hCW ?_
            simp only [List.zip_cons_cons, List.zip_nil_right]
            iterate 5 (refine Mix.step0 fun K hK => ?_; go_simp; (try (go_bits; try go_simp)); first | ((with_reducible refine hK _ _ ?_); clear hK K) | ((try (simp only [IntWalk.iteOmega]; try go_simp)); (try go_bits); (with_reducible refine hK _ _ ?_); clear hK K))
            refine Mix.step2n (by first | rfl | simp [Region.wanted, yielded]) fun K hK => ?_
            go_wp2_with fail
            refine HC.out.mono ?_
            rintro en w3 ⟨rfl, hs2⟩
            have hs2 : Sep w0 w3 (stD BS ⟨5, id, a, b2, x, we, u⟩ :: duesT b ys nx :: refD c xs nx :: R) := hs2
            have c1 := cell_of (hs2.cells 0 rfl) 1
            have c4 := cell_of (hs2.cells 0 rfl) 4
            simp only [List.getElem?_toArray, List.getElem?_cons_zero, List.getElem?_cons_succ] at c1 c4
            have HD := Lib.hid (rpay_u hs2 (i := 2) rfl HG.out id x)
            unfold RTurnD at HD
            rw [← HEE.out, ← HYS.out] at HD
            have hCW : (fun W : World => W.cell? ⟨BS, 1, none⟩ = some (.int .u64 id) ∧ W.cell? ⟨BS, 4, none⟩ = some (.int .i64 x)) w3 := ⟨c1, c4⟩
            clear hs2 HC
            go_wp2_with fail
            refine Mix.post_mk (C := (fun W : World => W.cell? ⟨BS, 1, none⟩ = some (.int .u64 id) ∧ W.cell? ⟨BS, 4, none⟩ = some (.int .i64 x))) (by first | exact hCW | exact HCW.out _) (hK _ _ ?_)
            clear hK K
            (refine Mix.step1 fun K hK => ?_; go_simp; (try (go_bits; try go_simp)); first | ((with_reducible refine hK _ _ ?_); clear hK K) | ((try (simp only [IntWalk.iteOmega]; try go_simp)); (try go_bits); (with_reducible refine hK _ _ ?_); clear hK K))
            (refine Mix.step1 fun K hK => ?_; go_simp; (try (go_bits; try go_simp)); first | ((with_reducible refine hK _ _ ?_); clear hK K) | ((try (simp only [IntWalk.iteOmega]; try go_simp)); (try go_bits); (with_reducible refine hK _ _ ?_); clear hK K))
            (refine Mix.step1 fun K hK => ?_; go_simp; refine ⟨fun W => ?_, hK _ _ ?_⟩; (intro hW1; (try intro hW2); (try intro hW3); (try intro hW4); (try intro hW5); (try intro hW6); (try intro hW7); (try intro hW8); go_simp); clear hK K)
            (refine Mix.step1 fun K hK => ?_; go_simp; (try (go_bits; try go_simp)); first | ((with_reducible refine hK _ _ ?_); clear hK K) | ((try (simp only [IntWalk.iteOmega]; try go_simp)); (try go_bits); (with_reducible refine hK _ _ ?_); clear hK K))
            (refine Mix.step1 fun K hK => ?_; go_simp; refine ⟨fun W => ?_, hK _ _ ?_⟩; (intro hW1; (try intro hW2); (try intro hW3); (try intro hW4); (try intro hW5); (try intro hW6); (try intro hW7); (try intro hW8); go_simp); clear hK K)
            refine Mix.step2n (by first | rfl | simp [Region.wanted, yielded]) fun K hK => ?_
            go_wp2_with fail
            refine HD.out.mono ?_
            rintro en w4 ⟨rfl, hs3⟩
            have hs3 : Sep w0 w4 (stD BS ⟨5, id, a, b2, x, we, u⟩ :: duesT b ys nx :: refD c ys nx :: R) := hs3
            have HT := Lib.hid hs3.tail
            clear c1 c4
            have c1 := cell_of (hs3.cells 0 rfl) 1
            have c4 := cell_of (hs3.cells 0 rfl) 4
            simp only [List.getElem?_toArray, List.getElem?_cons_zero, List.getElem?_cons_succ] at c1 c4
            have hCW : (fun W : World => W.cell? ⟨BS, 1, none⟩ = some (.int .u64 id) ∧ W.cell? ⟨BS, 4, none⟩ = some (.int .i64 x)) w4 := ⟨c1, c4⟩
            clear hs3 HD c1 c4
            go_wp2_with fail
            refine Mix.post_mk (C := (fun W : World => W.cell? ⟨BS, 1, none⟩ = some (.int .u64 id) ∧ W.cell? ⟨BS, 4, none⟩ = some (.int .i64 x))) (by first | exact hCW | exact HCW.out _) (hK _ _ ?_)
            clear hK K
            iterate 2 (refine Mix.step0 fun K hK => ?_; go_simp; (try (go_bits; try go_simp)); first | ((with_reducible refine hK _ _ ?_); clear hK K) | ((try (simp only [IntWalk.iteOmega]; try go_simp)); (try go_bits); (with_reducible refine hK _ _ ?_); clear hK K))
            refine Mix.done ?_
            go_wp2_with fail
            go_ret
            refine ⟨rfl, ?_⟩
            have h := HT.out
            rw [HYS.out] at h
            exact h
          · have e5 : (q == 5) = false := by simpa using d5
            by_cases d6 : q = 6
            · subst d6
              have hs1 : Sep w0 wb (stD BS ⟨6, id, a, b2, x, we, u⟩ :: duesT b xs nx :: refD c xs nx :: R) := hb
              have HC := Lib.hid (duesExpire_any hs1.drew (i := 1) rfl HG.out u)
              have hCW : (fun W : World => W.cell? ⟨BS, 6, none⟩ = some (.int .i64 u)) wb.drew := c6
              clear hs1 hb
              go_wp2_with fail
              refine Mix.region [0, 0, 0, 2, 1, 1, 1, 2, 2, 0] (fun W : World => W.cell? ⟨BS, 6, none⟩ = some (.int .i64 u)) (by kernel_rfl) (by kernel_rfl) hCW ?_
              simp only [List.zip_cons_cons, List.zip_nil_right]
              iterate 3 (refine Mix.step0 fun K hK => ?_; go_simp; (try (go_bits; try go_simp)); first | ((with_reducible refine hK _ _ ?_); clear hK K) | ((try (simp only [IntWalk.iteOmega]; try go_simp)); (try go_bits); (with_reducible refine hK _ _ ?_); clear hK K))
              refine Mix.step2n (by first | rfl | simp [Region.wanted, yielded]) fun K hK => ?_
              go_wp2_with fail
              refine HC.out.mono ?_
              rintro en w3 ⟨v1, rfl, hs2⟩
              have hs2 : Sep w0 w3 (intsT .u64 28 v1 (expI xs u) :: stD BS ⟨6, id, a, b2, x, we, u⟩ :: duesT b (expS xs u) nx :: refD c xs nx :: R) := hs2
              clear c0 c1 c2 c3 c4 c5 c6 HC hCW
              have c6 := cell_of (hs2.cells 1 rfl) 6
              simp only [List.getElem?_toArray, List.getElem?_cons_zero, List.getElem?_cons_succ] at c6
              have HD := Lib.hid (rExpire_any hs2 (i := 3) rfl HG.out u)
              have hCW : (fun W : World => W.cell? ⟨BS, 6, none⟩ = some (.int .i64 u)) w3 := c6
              clear hs2
              go_wp2_with fail
              refine Mix.post_mk (C := (fun W : World => W.cell? ⟨BS, 6, none⟩ = some (.int .i64 u))) (by first | exact hCW | exact HCW.out _) (hK _ _ ?_)
              clear hK K
              (refine Mix.step1 fun K hK => ?_; go_simp; (try (go_bits; try go_simp)); first | ((with_reducible refine hK _ _ ?_); clear hK K) | ((try (simp only [IntWalk.iteOmega]; try go_simp)); (try go_bits); (with_reducible refine hK _ _ ?_); clear hK K))
              (refine Mix.step1 fun K hK => ?_; go_simp; (try (go_bits; try go_simp)); first | ((with_reducible refine hK _ _ ?_); clear hK K) | ((try (simp only [IntWalk.iteOmega]; try go_simp)); (try go_bits); (with_reducible refine hK _ _ ?_); clear hK K))
              (refine Mix.step1 fun K hK => ?_; go_simp; refine ⟨fun W => ?_, hK _ _ ?_⟩; (intro hW1; (try intro hW2); (try intro hW3); (try intro hW4); (try intro hW5); (try intro hW6); (try intro hW7); (try intro hW8); go_simp); clear hK K)
              refine Mix.step2n (by first | rfl | simp [Region.wanted, yielded]) fun K hK => ?_
              go_wp2_with fail
              refine HD.out.mono ?_
              rintro en w4 ⟨v2, rfl, hs3⟩
              have hs3 : Sep w0 w4 (intsT .u64 28 v2 (expI xs u) :: intsT .u64 28 v1 (expI xs u) :: stD BS ⟨6, id, a, b2, x, we, u⟩ :: duesT b (expS xs u) nx :: refD c (expS xs u) nx :: R) := hs3
              clear c6 hCW HD
              have c6 := cell_of (hs3.cells 2 rfl) 6
              simp only [List.getElem?_toArray, List.getElem?_cons_zero, List.getElem?_cons_succ] at c6
              have hCW : (fun W : World => W.cell? ⟨BS, 6, none⟩ = some (.int .i64 u)) w4 := c6
              have HI := Lib.hid (ids_any (expI xs u) v1 v2 w4 (hs3.rdInts 1 rfl) (hs3.rdInts 0 rfl))
              have HS3 := Lib.hid hs3
              clear hs3
              go_wp2_with fail
              refine Mix.post_mk (C := (fun W : World => W.cell? ⟨BS, 6, none⟩ = some (.int .i64 u))) (by first | exact hCW | exact HCW.out _) (hK _ _ ?_)
              clear hK K
              refine Mix.step2n (by first | rfl | simp [Region.wanted, yielded]) fun K hK => ?_
              go_wp2_with fail
              refine HI.out.mono ?_
              rintro en w5 ⟨rfl, hbl⟩
              have hs4 := HS3.out.belowStep hbl
              clear c6 hCW HI
              have c6 := cell_of (hs4.cells 2 rfl) 6
              simp only [List.getElem?_toArray, List.getElem?_cons_zero, List.getElem?_cons_succ] at c6
              have hCW : (fun W : World => W.cell? ⟨BS, 6, none⟩ = some (.int .i64 u)) w5 := c6
              have HT := Lib.hid hs4.tail.tail.tail
              clear hs4 hbl c6
              go_wp2_with fail
              refine Mix.post_mk (C := (fun W : World => W.cell? ⟨BS, 6, none⟩ = some (.int .i64 u))) (by first | exact hCW | exact HCW.out _) (hK _ _ ?_)
              clear hK K
              iterate 1 (refine Mix.step0 fun K hK => ?_; go_simp; (try (go_bits; try go_simp)); first | ((with_reducible refine hK _ _ ?_); clear hK K) | ((try (simp only [IntWalk.iteOmega]; try go_simp)); (try go_bits); (with_reducible refine hK _ _ ?_); clear hK K))
              refine Mix.done ?_
              go_wp2_with fail
              go_ret
              exact ⟨rfl, HT.out⟩
            · have e6 : (q == 6) = false := by simpa using d6
              have HT := Lib.hid (show Sep w0 wb (duesT b (stepS xs nx ⟨q, id, a, b2, x, we, u⟩) (stepN xs nx ⟨q, id, a, b2, x, we, u⟩) :: refD c (stepS xs nx ⟨q, id, a, b2, x, we, u⟩) (stepN xs nx ⟨q, id, a, b2, x, we, u⟩) :: R) by
                unfold stepS stepN
                rw [if_neg d1, if_neg d2, if_neg d3, if_neg d4, if_neg d5, if_neg d6, if_neg d1]
                exact hb.tail)
              clear hb
              go_wp2_with fail
              go_ret
              exact ⟨rfl, HT.out⟩
end Go.Proofs.Ythcmkljdhhepgaa
