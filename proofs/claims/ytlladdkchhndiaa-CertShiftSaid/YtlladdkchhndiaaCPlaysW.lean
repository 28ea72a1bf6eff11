/-
  The reference's Gap; the laws CertPlays, CertBest, walked.
-/
import Derived.Test.YtlladdkchhndiaaCW5
namespace Go.Proofs.Ytlladdkchhndiaa
open Go Go.RowKit Go.Mem Go.NetP Go.RestP Go.CertP Go.Shelf

set_option maxHeartbeats 2000000 in
theorem rgap_any (n : Int) (a : Option Addr) (c : Nat) (es : List Ed) (vf : Value) (fl : List Int) (vp : Value) (pot : List Int) (vx : Value) (x : List Int) (w : World) (h : RdG edR w (.slice a es.length c) es) (hf : Rd .i64 w vf fl) (hp : Rd .i64 w vp pot) (hx : Rd .i64 w vx x) :
    Calls Try.prog 9 #[.agg #[.int .i64 n, .slice a es.length c], .agg #[vf, vp], vx] w fun en w' => en = .returned (.tuple #[.int .i64 (gapV n es fl pot x), .bool (gapB n es fl pot x)]) ∧ Below w.heap.size w w' := by
  obtain ⟨af, cf, rfl⟩ := hf.shape
  obtain ⟨ap, cp, rfl⟩ := hp.shape
  obtain ⟨ax, cx, rfl⟩ := hx.shape
  have hs := ((Sep.start w).newCells #[.int .i64 n, .slice a es.length c] 24).newCells #[.slice af fl.length cf, .slice ap pot.length cp] 27
  simp only [World.size_alloc] at hs
  cases hch : checkB n es fl pot
  · have HG := Lib.hid (show gapV n es fl pot x = 0 ∧ gapB n es fl pot x = false by simp [gapV, gapB, hch])
    have HCH := Lib.hid hch
    clear hch
    go_enter Try.func9, Try.ntmps9
    go_wp2_with fail
    refine (rcheck_any n a c es _ fl _ pot _ (hs.rdG h) (hs.rd hf) (hs.rd hp)).mono ?_
    rintro en w2 ⟨rfl, hb⟩
    rw [HCH.out]
    replace hs := hs.belowStep hb
    clear hb
    go_wp2_with fail
    go_ret2
    exact ⟨by rw [HG.out.1, HG.out.2]; rfl, hs.below⟩
  · cases hfl : flowsB n es x
    · have HG := Lib.hid (show gapV n es fl pot x = 0 ∧ gapB n es fl pot x = false by simp [gapV, gapB, hfl])
      have HFL := Lib.hid hfl
      have HCH := Lib.hid hch
      clear hfl hch
      go_enter Try.func9, Try.ntmps9
      go_wp2_with fail
      refine (rcheck_any n a c es _ fl _ pot _ (hs.rdG h) (hs.rd hf) (hs.rd hp)).mono ?_
      rintro en w2 ⟨rfl, hb⟩
      rw [HCH.out]
      replace hs := hs.belowStep hb
      clear hb
      have n0 := cell_of (hs.cells 1 rfl) 0
      have n1 := cell_of (hs.cells 1 rfl) 1
      have c0 := cell_of (hs.cells 0 rfl) 0
      have c1 := cell_of (hs.cells 0 rfl) 1
      simp only [List.getElem?_toArray, List.getElem?_cons_zero, List.getElem?_cons_succ] at n0 n1 c0 c1
      go_wp2_with fail
      refine (rflows_any n a c es _ x _ (hs.rdG h) (hs.rd hx)).mono ?_
      rintro en w1 ⟨rfl, hb⟩
      rw [HFL.out]
      replace hs := hs.belowStep hb
      clear hb
      go_wp2_with fail
      go_ret2
      exact ⟨by rw [HG.out.1, HG.out.2]; rfl, hs.below⟩
    · obtain ⟨D, hD⟩ : ∃ D, D = costV n es x := ⟨_, rfl⟩
      obtain ⟨F, hF⟩ : ∃ F, F = costV n es fl := ⟨_, rfl⟩
      have hd := cost_diff (flows_within hfl) (flows_within (check_flows hch).2.1)
      have hd1 := cost_bound2 (flows_within hfl)
      have hd2 := cost_bound2 (flows_within (check_flows hch).2.1)
      rw [← hD, ← hF] at hd
      rw [← hD] at hd1
      rw [← hF] at hd2
      have HG := Lib.hid (show gapV n es fl pot x = D - F ∧ gapB n es fl pot x = true by
        have : gapB n es fl pot x = true := by simp [gapB, hfl, hch]
        exact ⟨by unfold gapV; rw [if_pos this, hD, hF], this⟩)
      have HDD := Lib.hid hD
      have HFF := Lib.hid hF
      have HCH := Lib.hid hch
      have HFL := Lib.hid hfl
      obtain ⟨g0, g1⟩ := hd
      obtain ⟨g2, g3⟩ := hd1
      obtain ⟨g4, g5⟩ := hd2
      clear hD hF hch hfl
      go_enter Try.func9, Try.ntmps9
      go_wp2_with fail
      refine (rcheck_any n a c es _ fl _ pot _ (hs.rdG h) (hs.rd hf) (hs.rd hp)).mono ?_
      rintro en w2 ⟨rfl, hb⟩
      rw [HCH.out]
      replace hs := hs.belowStep hb
      clear hb
      have n0 := cell_of (hs.cells 1 rfl) 0
      have n1 := cell_of (hs.cells 1 rfl) 1
      have c0 := cell_of (hs.cells 0 rfl) 0
      have c1 := cell_of (hs.cells 0 rfl) 1
      simp only [List.getElem?_toArray, List.getElem?_cons_zero, List.getElem?_cons_succ] at n0 n1 c0 c1
      go_wp2_with fail
      refine (rflows_any n a c es _ x _ (hs.rdG h) (hs.rd hx)).mono ?_
      rintro en w1 ⟨rfl, hb⟩
      rw [HFL.out]
      replace hs := hs.belowStep hb
      clear hb
      clear n0 n1 c0 c1
      have n0 := cell_of (hs.cells 1 rfl) 0
      have n1 := cell_of (hs.cells 1 rfl) 1
      have c0 := cell_of (hs.cells 0 rfl) 0
      have c1 := cell_of (hs.cells 0 rfl) 1
      simp only [List.getElem?_toArray, List.getElem?_cons_zero, List.getElem?_cons_succ] at n0 n1 c0 c1
      clear c1
      go_wp2_with fail
      have hCW := (show (fun W : World => W.cell? ⟨w.heap.size, 0, none⟩ = some (.int .i64 n) ∧ W.cell? ⟨w.heap.size, 1, none⟩ = some (.slice a es.length c) ∧ W.cell? ⟨w.heap.size + 1, 0, none⟩ = some (.slice af fl.length cf)) _ from ⟨n0, n1, c0⟩)
      refine Mix.region [0, 0, 2, 1, 1, 1, 2, 0, 0, 0] (fun W : World => W.cell? ⟨w.heap.size, 0, none⟩ = some (.int .i64 n) ∧ W.cell? ⟨w.heap.size, 1, none⟩ = some (.slice a es.length c) ∧ W.cell? ⟨w.heap.size + 1, 0, none⟩ = some (.slice af fl.length cf)) (by kernel_rfl) (by kernel_rfl) hCW ?_
      simp only [List.zip_cons_cons, List.zip_nil_right]
      iterate 2 (refine Mix.step0 fun K hK => ?_; go_simp; (try (go_bits; try go_simp)); first | ((with_reducible refine hK _ _ ?_); clear hK K) | ((try (simp only [IntWalk.iteOmega]; try go_simp)); (try go_bits); (with_reducible refine hK _ _ ?_); clear hK K))
      refine Mix.step2n (by first | rfl | simp [Region.wanted, yielded]) fun K hK => ?_
      go_wp2_with fail
      replace hs := hs.drew
      refine (rcost_any n a c es _ x _ (hs.rdG h) (hs.rd hx)).mono ?_
      rintro en w5 ⟨rfl, hb⟩
      rw [← HDD.out]
      clear hCW n0 n1 c0
      replace hs := hs.belowStep hb
      clear hb
      have n0 := cell_of (hs.cells 1 rfl) 0
      have n1 := cell_of (hs.cells 1 rfl) 1
      have c0 := cell_of (hs.cells 0 rfl) 0
      have c1 := cell_of (hs.cells 0 rfl) 1
      simp only [List.getElem?_toArray, List.getElem?_cons_zero, List.getElem?_cons_succ] at n0 n1 c0 c1
      clear c1
      have hCW := (show (fun W : World => W.cell? ⟨w.heap.size, 0, none⟩ = some (.int .i64 n) ∧ W.cell? ⟨w.heap.size, 1, none⟩ = some (.slice a es.length c) ∧ W.cell? ⟨w.heap.size + 1, 0, none⟩ = some (.slice af fl.length cf)) _ from ⟨n0, n1, c0⟩)
      go_wp2_with fail
      refine Mix.post_mk (C := (fun W : World => W.cell? ⟨w.heap.size, 0, none⟩ = some (.int .i64 n) ∧ W.cell? ⟨w.heap.size, 1, none⟩ = some (.slice a es.length c) ∧ W.cell? ⟨w.heap.size + 1, 0, none⟩ = some (.slice af fl.length cf))) (by first | exact hCW | exact HCW.out _) (hK _ _ ?_)
      clear hK K
      (refine Mix.step1 fun K hK => ?_; go_simp; refine ⟨fun W => ?_, hK _ _ ?_⟩; (intro hW1; (try intro hW2); (try intro hW3); (try intro hW4); (try intro hW5); (try intro hW6); (try intro hW7); (try intro hW8); go_simp); clear hK K)
      (refine Mix.step1 fun K hK => ?_; go_simp; (try (go_bits; try go_simp)); first | ((with_reducible refine hK _ _ ?_); clear hK K) | ((try (simp only [IntWalk.iteOmega]; try go_simp)); (try go_bits); (with_reducible refine hK _ _ ?_); clear hK K))
      (refine Mix.step1 fun K hK => ?_; go_simp; refine ⟨fun W => ?_, hK _ _ ?_⟩; (intro hW1; (try intro hW2); (try intro hW3); (try intro hW4); (try intro hW5); (try intro hW6); (try intro hW7); (try intro hW8); go_simp); clear hK K)
      refine Mix.step2n (by first | rfl | simp [Region.wanted, yielded]) fun K hK => ?_
      go_wp2_with fail
      refine (rcost_any n a c es _ fl _ (hs.rdG h) (hs.rd hf)).mono ?_
      rintro en w6 ⟨rfl, hb⟩
      rw [← HFF.out]
      clear hCW n0 n1 c0
      replace hs := hs.belowStep hb
      clear hb
      have n0 := cell_of (hs.cells 1 rfl) 0
      have n1 := cell_of (hs.cells 1 rfl) 1
      have c0 := cell_of (hs.cells 0 rfl) 0
      have c1 := cell_of (hs.cells 0 rfl) 1
      simp only [List.getElem?_toArray, List.getElem?_cons_zero, List.getElem?_cons_succ] at n0 n1 c0 c1
      clear c1
      have hCW := (show (fun W : World => W.cell? ⟨w.heap.size, 0, none⟩ = some (.int .i64 n) ∧ W.cell? ⟨w.heap.size, 1, none⟩ = some (.slice a es.length c) ∧ W.cell? ⟨w.heap.size + 1, 0, none⟩ = some (.slice af fl.length cf)) _ from ⟨n0, n1, c0⟩)
      go_wp2_with fail
      refine Mix.post_mk (C := (fun W : World => W.cell? ⟨w.heap.size, 0, none⟩ = some (.int .i64 n) ∧ W.cell? ⟨w.heap.size, 1, none⟩ = some (.slice a es.length c) ∧ W.cell? ⟨w.heap.size + 1, 0, none⟩ = some (.slice af fl.length cf))) (by first | exact hCW | exact HCW.out _) (hK _ _ ?_)
      clear hK K
      iterate 3 (refine Mix.step0 fun K hK => ?_; go_simp; (try (go_bits; try go_simp)); first | ((with_reducible refine hK _ _ ?_); clear hK K) | ((try (simp only [IntWalk.iteOmega]; try go_simp)); (try go_bits); (with_reducible refine hK _ _ ?_); clear hK K))
      refine Mix.done ?_
      clear hCW
      go_wp2_with fail
      go_ret2
      exact ⟨by rw [HG.out.1, HG.out.2]; rfl, hs.below⟩
set_option maxRecDepth 100000 in
set_option maxHeartbeats 4000000 in
theorem certPlays_any (n : Int) (a : Option Addr) (c : Nat) (es : List Ed) (vf : Value) (fl : List Int) (vp : Value) (pot : List Int) (vx : Value) (x : List Int) (w : World) (h : RdG edR w (.slice a es.length c) es) (hf : Rd .i64 w vf fl) (hp : Rd .i64 w vp pot) (hx : Rd .i64 w vx x) :
    Calls Try.prog 3 #[.agg #[.int .i64 n, .slice a es.length c], .agg #[vf, vp], vx] w fun en w' => en = .returned (.bool true) ∧ Below w.heap.size w w' := by
  have hlf := hf.le'
  have hlp := hp.le'
  have hlx := hx.le'
  obtain ⟨af, cf, rfl⟩ := hf.shape
  obtain ⟨ap, cp, rfl⟩ := hp.shape
  obtain ⟨ax, cx, rfl⟩ := hx.shape
  have hs := ((Sep.start w).newCells #[.int .i64 n, .slice a es.length c] 24).newCells #[.slice af fl.length cf, .slice ap pot.length cp] 27
  simp only [World.size_alloc] at hs
  by_cases h1 : fewN n es.length = false
  · have HF := Lib.hid h1
    clear h1
    go_enter Try.func3, Try.ntmps3
    go_wp2_with fail
    refine (few_any n a es.length c _ h.le').mono ?_
    rintro en w1 ⟨rfl, hb⟩
    rw [HF.out]
    replace hs := hs.belowStep hb
    clear hb
    (try clear n0 n1 c0 c1)
    have n0 := cell_of (hs.cells 1 rfl) 0
    have n1 := cell_of (hs.cells 1 rfl) 1
    have c0 := cell_of (hs.cells 0 rfl) 0
    have c1 := cell_of (hs.cells 0 rfl) 1
    simp only [List.getElem?_toArray, List.getElem?_cons_zero, List.getElem?_cons_succ] at n0 n1 c0 c1
    go_wp2_with fail
    refine (works_any _).mono ?_
    rintro en wz ⟨rfl, hb⟩
    go_wp2_with fail
    go_ret
    exact ⟨rfl, (hs.belowStep hb).below⟩
  have HF := Lib.hid (show fewN n es.length = true by simpa using h1)
  clear h1
  by_cases h2 : 300 < fl.length
  · have d2 : decide (300 < (fl.length : Int)) = true := decide_eq_true (by omega)
    go_enter Try.func3, Try.ntmps3
    go_wp2_with fail
    refine (few_any n a es.length c _ h.le').mono ?_
    rintro en w1 ⟨rfl, hb⟩
    rw [HF.out]
    replace hs := hs.belowStep hb
    clear hb
    (try clear n0 n1 c0 c1)
    have n0 := cell_of (hs.cells 1 rfl) 0
    have n1 := cell_of (hs.cells 1 rfl) 1
    have c0 := cell_of (hs.cells 0 rfl) 0
    have c1 := cell_of (hs.cells 0 rfl) 1
    simp only [List.getElem?_toArray, List.getElem?_cons_zero, List.getElem?_cons_succ] at n0 n1 c0 c1
    go_wp2_with fail
    refine (works_any _).mono ?_
    rintro en wz ⟨rfl, hb⟩
    go_wp2_with fail
    go_ret
    exact ⟨rfl, (hs.belowStep hb).below⟩
  have d2 : decide (300 < (fl.length : Int)) = false := decide_eq_false (by omega)
  by_cases h3 : 100 < pot.length
  · have d3 : decide (100 < (pot.length : Int)) = true := decide_eq_true (by omega)
    go_enter Try.func3, Try.ntmps3
    go_wp2_with fail
    refine (few_any n a es.length c _ h.le').mono ?_
    rintro en w1 ⟨rfl, hb⟩
    rw [HF.out]
    replace hs := hs.belowStep hb
    clear hb
    (try clear n0 n1 c0 c1)
    have n0 := cell_of (hs.cells 1 rfl) 0
    have n1 := cell_of (hs.cells 1 rfl) 1
    have c0 := cell_of (hs.cells 0 rfl) 0
    have c1 := cell_of (hs.cells 0 rfl) 1
    simp only [List.getElem?_toArray, List.getElem?_cons_zero, List.getElem?_cons_succ] at n0 n1 c0 c1
    go_wp2_with fail
    refine (works_any _).mono ?_
    rintro en wz ⟨rfl, hb⟩
    go_wp2_with fail
    go_ret
    exact ⟨rfl, (hs.belowStep hb).below⟩
  have d3 : decide (100 < (pot.length : Int)) = false := decide_eq_false (by omega)
  by_cases h4 : 300 < x.length
  · have d4 : decide (300 < (x.length : Int)) = true := decide_eq_true (by omega)
    go_enter Try.func3, Try.ntmps3
    go_wp2_with fail
    refine (few_any n a es.length c _ h.le').mono ?_
    rintro en w1 ⟨rfl, hb⟩
    rw [HF.out]
    replace hs := hs.belowStep hb
    clear hb
    (try clear n0 n1 c0 c1)
    have n0 := cell_of (hs.cells 1 rfl) 0
    have n1 := cell_of (hs.cells 1 rfl) 1
    have c0 := cell_of (hs.cells 0 rfl) 0
    have c1 := cell_of (hs.cells 0 rfl) 1
    simp only [List.getElem?_toArray, List.getElem?_cons_zero, List.getElem?_cons_succ] at n0 n1 c0 c1
    go_wp2_with fail
    refine (works_any _).mono ?_
    rintro en wz ⟨rfl, hb⟩
    go_wp2_with fail
    go_ret
    exact ⟨rfl, (hs.belowStep hb).below⟩
  have d4 : decide (300 < (x.length : Int)) = false := decide_eq_false (by omega)
  obtain ⟨G, hG⟩ : ∃ G, G = gapV n es fl pot x := ⟨_, rfl⟩
  obtain ⟨I, hI⟩ : ∃ I, I = gapB n es fl pot x := ⟨_, rfl⟩
  obtain ⟨B, hB⟩ : ∃ B, B = checkB n es fl pot := ⟨_, rfl⟩
  have HG := Lib.hid hG
  have HI := Lib.hid hI
  have HB := Lib.hid hB
  have e1 : (G == G) = true := by simp
  have e2 : (I == I) = true := by simp
  have e3 : (B == B) = true := by simp
  clear hG hI hB h2 h3 h4
  go_enter Try.func3, Try.ntmps3
  go_wp2_with fail
  refine (few_any n a es.length c _ h.le').mono ?_
  rintro en w1 ⟨rfl, hb⟩
  rw [HF.out]
  replace hs := hs.belowStep hb
  clear hb
  (try clear n0 n1 c0 c1)
  have n0 := cell_of (hs.cells 1 rfl) 0
  have n1 := cell_of (hs.cells 1 rfl) 1
  have c0 := cell_of (hs.cells 0 rfl) 0
  have c1 := cell_of (hs.cells 0 rfl) 1
  simp only [List.getElem?_toArray, List.getElem?_cons_zero, List.getElem?_cons_succ] at n0 n1 c0 c1
  go_wp2_with fail
  refine (gap_any n a c es _ fl _ pot _ x _ (hs.rdG h) (hs.rd hf) (hs.rd hp) (hs.rd hx)).mono ?_
  rintro en w2 ⟨rfl, hb⟩
  rw [← HG.out, ← HI.out]
  clear n0 n1 c0 c1
  replace hs := hs.belowStep hb
  clear hb
  have n0 := cell_of (hs.cells 1 rfl) 0
  have n1 := cell_of (hs.cells 1 rfl) 1
  have c0 := cell_of (hs.cells 0 rfl) 0
  have c1 := cell_of (hs.cells 0 rfl) 1
  simp only [List.getElem?_toArray, List.getElem?_cons_zero, List.getElem?_cons_succ] at n0 n1 c0 c1
  go_wp2_with fail
  refine (rgap_any n a c es _ fl _ pot _ x _ (hs.rdG h) (hs.rd hf) (hs.rd hp) (hs.rd hx)).mono ?_
  rintro en w3 ⟨rfl, hb⟩
  rw [← HG.out, ← HI.out]
  clear n0 n1 c0 c1
  replace hs := hs.belowStep hb
  clear hb
  have n0 := cell_of (hs.cells 1 rfl) 0
  have n1 := cell_of (hs.cells 1 rfl) 1
  have c0 := cell_of (hs.cells 0 rfl) 0
  have c1 := cell_of (hs.cells 0 rfl) 1
  simp only [List.getElem?_toArray, List.getElem?_cons_zero, List.getElem?_cons_succ] at n0 n1 c0 c1
  go_wp2_with fail
  have hCW := (show (fun W : World => W.cell? ⟨w.heap.size, 0, none⟩ = some (.int .i64 n) ∧ W.cell? ⟨w.heap.size, 1, none⟩ = some (.slice a es.length c) ∧ W.cell? ⟨w.heap.size + 1, 0, none⟩ = some (.slice af fl.length cf) ∧ W.cell? ⟨w.heap.size + 1, 1, none⟩ = some (.slice ap pot.length cp)) _ from ⟨n0, n1, c0, c1⟩)
  refine Mix.region [0, 0, 2, 1, 1, 2, 0, 0, 0, 0, 0, 0, 0, 0, 0, 0, 0, 0, 2, 0, 0] (fun W : World => W.cell? ⟨w.heap.size, 0, none⟩ = some (.int .i64 n) ∧ W.cell? ⟨w.heap.size, 1, none⟩ = some (.slice a es.length c) ∧ W.cell? ⟨w.heap.size + 1, 0, none⟩ = some (.slice af fl.length cf) ∧ W.cell? ⟨w.heap.size + 1, 1, none⟩ = some (.slice ap pot.length cp)) (by kernel_rfl) (by kernel_rfl) hCW ?_
  simp only [List.zip_cons_cons, List.zip_nil_right]
  iterate 2 (refine Mix.step0 fun K hK => ?_; go_simp; (try (go_bits; try go_simp)); first | ((with_reducible refine hK _ _ ?_); clear hK K) | ((try (simp only [IntWalk.iteOmega]; try go_simp)); (try go_bits); (with_reducible refine hK _ _ ?_); clear hK K))
  refine Mix.step2n (by first | rfl | simp [Region.wanted, yielded]) fun K hK => ?_
  go_wp2_with fail
  replace hs := hs.drew
  refine (check_any n a c es _ fl _ pot _ (hs.rdG h) (hs.rd hf) (hs.rd hp)).mono ?_
  rintro en w4 ⟨rfl, hb⟩
  rw [← HB.out]
  (try clear hCW)
  (try clear n0 n1 c0 c1)
  replace hs := hs.belowStep hb
  clear hb
  have n0 := cell_of (hs.cells 1 rfl) 0
  have n1 := cell_of (hs.cells 1 rfl) 1
  have c0 := cell_of (hs.cells 0 rfl) 0
  have c1 := cell_of (hs.cells 0 rfl) 1
  simp only [List.getElem?_toArray, List.getElem?_cons_zero, List.getElem?_cons_succ] at n0 n1 c0 c1
  have hCW := (show (fun W : World => W.cell? ⟨w.heap.size, 0, none⟩ = some (.int .i64 n) ∧ W.cell? ⟨w.heap.size, 1, none⟩ = some (.slice a es.length c) ∧ W.cell? ⟨w.heap.size + 1, 0, none⟩ = some (.slice af fl.length cf) ∧ W.cell? ⟨w.heap.size + 1, 1, none⟩ = some (.slice ap pot.length cp)) _ from ⟨n0, n1, c0, c1⟩)
  go_wp2_with fail
  refine Mix.post_mk (C := (fun W : World => W.cell? ⟨w.heap.size, 0, none⟩ = some (.int .i64 n) ∧ W.cell? ⟨w.heap.size, 1, none⟩ = some (.slice a es.length c) ∧ W.cell? ⟨w.heap.size + 1, 0, none⟩ = some (.slice af fl.length cf) ∧ W.cell? ⟨w.heap.size + 1, 1, none⟩ = some (.slice ap pot.length cp))) (by first | exact hCW | exact HCW.out _) (hK _ _ ?_)
  clear hK K
  (refine Mix.step1 fun K hK => ?_; go_simp; refine ⟨fun W => ?_, hK _ _ ?_⟩; (intro hW1; (try intro hW2); (try intro hW3); (try intro hW4); (try intro hW5); (try intro hW6); (try intro hW7); (try intro hW8); go_simp); clear hK K)
  (refine Mix.step1 fun K hK => ?_; go_simp; refine ⟨fun W => ?_, hK _ _ ?_⟩; (intro hW1; (try intro hW2); (try intro hW3); (try intro hW4); (try intro hW5); (try intro hW6); (try intro hW7); (try intro hW8); go_simp); clear hK K)
  refine Mix.step2n (by first | rfl | simp [Region.wanted, yielded]) fun K hK => ?_
  go_wp2_with fail
  refine (rcheck_any n a c es _ fl _ pot _ (hs.rdG h) (hs.rd hf) (hs.rd hp)).mono ?_
  rintro en w5 ⟨rfl, hb⟩
  rw [← HB.out]
  (try clear hCW)
  (try clear n0 n1 c0 c1)
  replace hs := hs.belowStep hb
  clear hb
  have n0 := cell_of (hs.cells 1 rfl) 0
  have n1 := cell_of (hs.cells 1 rfl) 1
  have c0 := cell_of (hs.cells 0 rfl) 0
  have c1 := cell_of (hs.cells 0 rfl) 1
  simp only [List.getElem?_toArray, List.getElem?_cons_zero, List.getElem?_cons_succ] at n0 n1 c0 c1
  have hCW := (show (fun W : World => W.cell? ⟨w.heap.size, 0, none⟩ = some (.int .i64 n) ∧ W.cell? ⟨w.heap.size, 1, none⟩ = some (.slice a es.length c) ∧ W.cell? ⟨w.heap.size + 1, 0, none⟩ = some (.slice af fl.length cf) ∧ W.cell? ⟨w.heap.size + 1, 1, none⟩ = some (.slice ap pot.length cp)) _ from ⟨n0, n1, c0, c1⟩)
  go_wp2_with fail
  refine Mix.post_mk (C := (fun W : World => W.cell? ⟨w.heap.size, 0, none⟩ = some (.int .i64 n) ∧ W.cell? ⟨w.heap.size, 1, none⟩ = some (.slice a es.length c) ∧ W.cell? ⟨w.heap.size + 1, 0, none⟩ = some (.slice af fl.length cf) ∧ W.cell? ⟨w.heap.size + 1, 1, none⟩ = some (.slice ap pot.length cp))) (by first | exact hCW | exact HCW.out _) (hK _ _ ?_)
  clear hK K
  iterate 2 (refine Mix.step0 fun K hK => ?_; go_simp; (try (go_bits; try go_simp)); first | ((with_reducible refine hK _ _ ?_); clear hK K) | ((try (simp only [IntWalk.iteOmega]; try go_simp)); (try go_bits); (with_reducible refine hK _ _ ?_); clear hK K))
  iterate 3 (first | (refine Mix.stepS rfl fun K hK => ?_; go_simp; (with_reducible refine hK _ _ ?_); clear hK K) | (refine Mix.step0 fun K hK => ?_; go_simp; (try (go_bits; try go_simp)); first | ((with_reducible refine hK _ _ ?_); clear hK K) | ((try (simp only [IntWalk.iteOmega]; try go_simp)); (try go_bits); (with_reducible refine hK _ _ ?_); clear hK K)))
  iterate 2 (refine Mix.step0 fun K hK => ?_; go_simp; (try (go_bits; try go_simp)); first | ((with_reducible refine hK _ _ ?_); clear hK K) | ((try (simp only [IntWalk.iteOmega]; try go_simp)); (try go_bits); (with_reducible refine hK _ _ ?_); clear hK K))
  iterate 3 (first | (refine Mix.stepS rfl fun K hK => ?_; go_simp; (with_reducible refine hK _ _ ?_); clear hK K) | (refine Mix.step0 fun K hK => ?_; go_simp; (try (go_bits; try go_simp)); first | ((with_reducible refine hK _ _ ?_); clear hK K) | ((try (simp only [IntWalk.iteOmega]; try go_simp)); (try go_bits); (with_reducible refine hK _ _ ?_); clear hK K)))
  iterate 2 (refine Mix.step0 fun K hK => ?_; go_simp; (try (go_bits; try go_simp)); first | ((with_reducible refine hK _ _ ?_); clear hK K) | ((try (simp only [IntWalk.iteOmega]; try go_simp)); (try go_bits); (with_reducible refine hK _ _ ?_); clear hK K))
  refine Mix.step2n (by first | rfl | simp [Region.wanted, yielded]) fun K hK => ?_
  go_wp2_with fail
  refine (works_any _).mono ?_
  rintro en w6 ⟨rfl, hb⟩
  (try clear hCW)
  (try clear n0 n1 c0 c1)
  replace hs := hs.belowStep hb
  clear hb
  have n0 := cell_of (hs.cells 1 rfl) 0
  have n1 := cell_of (hs.cells 1 rfl) 1
  have c0 := cell_of (hs.cells 0 rfl) 0
  have c1 := cell_of (hs.cells 0 rfl) 1
  simp only [List.getElem?_toArray, List.getElem?_cons_zero, List.getElem?_cons_succ] at n0 n1 c0 c1
  have hCW := (show (fun W : World => W.cell? ⟨w.heap.size, 0, none⟩ = some (.int .i64 n) ∧ W.cell? ⟨w.heap.size, 1, none⟩ = some (.slice a es.length c) ∧ W.cell? ⟨w.heap.size + 1, 0, none⟩ = some (.slice af fl.length cf) ∧ W.cell? ⟨w.heap.size + 1, 1, none⟩ = some (.slice ap pot.length cp)) _ from ⟨n0, n1, c0, c1⟩)
  go_wp2_with fail
  refine Mix.post_mk (C := (fun W : World => W.cell? ⟨w.heap.size, 0, none⟩ = some (.int .i64 n) ∧ W.cell? ⟨w.heap.size, 1, none⟩ = some (.slice a es.length c) ∧ W.cell? ⟨w.heap.size + 1, 0, none⟩ = some (.slice af fl.length cf) ∧ W.cell? ⟨w.heap.size + 1, 1, none⟩ = some (.slice ap pot.length cp))) (by first | exact hCW | exact HCW.out _) (hK _ _ ?_)
  clear hK K
  iterate 2 (refine Mix.step0 fun K hK => ?_; go_simp; (try (go_bits; try go_simp)); first | ((with_reducible refine hK _ _ ?_); clear hK K) | ((try (simp only [IntWalk.iteOmega]; try go_simp)); (try go_bits); (with_reducible refine hK _ _ ?_); clear hK K))
  refine Mix.done ?_
  go_wp2_with fail
  go_ret
  exact ⟨rfl, hs.below⟩
set_option maxRecDepth 100000 in
set_option maxHeartbeats 4000000 in
theorem certBest_any (n : Int) (a : Option Addr) (c : Nat) (es : List Ed) (vf : Value) (fl : List Int) (vp : Value) (pot : List Int) (vx : Value) (x : List Int) (w : World) (h : RdG edR w (.slice a es.length c) es) (hf : Rd .i64 w vf fl) (hp : Rd .i64 w vp pot) (hx : Rd .i64 w vx x) :
    Calls Try.prog 4 #[.agg #[.int .i64 n, .slice a es.length c], .agg #[vf, vp], vx] w fun en w' => en = .returned (.bool true) ∧ Below w.heap.size w w' := by
  have hlf := hf.le'
  have hlp := hp.le'
  have hlx := hx.le'
  obtain ⟨af, cf, rfl⟩ := hf.shape
  obtain ⟨ap, cp, rfl⟩ := hp.shape
  obtain ⟨ax, cx, rfl⟩ := hx.shape
  have hs := ((Sep.start w).newCells #[.int .i64 n, .slice a es.length c] 24).newCells #[.slice af fl.length cf, .slice ap pot.length cp] 27
  simp only [World.size_alloc] at hs
  by_cases h1 : fewN n es.length = false
  · have HF := Lib.hid h1
    clear h1
    go_enter Try.func4, Try.ntmps4
    go_wp2_with fail
    refine (few_any n a es.length c _ h.le').mono ?_
    rintro en w1 ⟨rfl, hb⟩
    rw [HF.out]
    replace hs := hs.belowStep hb
    clear hb
    (try clear n0 n1 c0 c1)
    have n0 := cell_of (hs.cells 1 rfl) 0
    have n1 := cell_of (hs.cells 1 rfl) 1
    have c0 := cell_of (hs.cells 0 rfl) 0
    have c1 := cell_of (hs.cells 0 rfl) 1
    simp only [List.getElem?_toArray, List.getElem?_cons_zero, List.getElem?_cons_succ] at n0 n1 c0 c1
    go_wp2_with fail
    refine (works_any _).mono ?_
    rintro en wz ⟨rfl, hb⟩
    go_wp2_with fail
    go_ret
    exact ⟨rfl, (hs.belowStep hb).below⟩
  have HF := Lib.hid (show fewN n es.length = true by simpa using h1)
  clear h1
  by_cases h2 : 300 < fl.length
  · have d2 : decide (300 < (fl.length : Int)) = true := decide_eq_true (by omega)
    go_enter Try.func4, Try.ntmps4
    go_wp2_with fail
    refine (few_any n a es.length c _ h.le').mono ?_
    rintro en w1 ⟨rfl, hb⟩
    rw [HF.out]
    replace hs := hs.belowStep hb
    clear hb
    (try clear n0 n1 c0 c1)
    have n0 := cell_of (hs.cells 1 rfl) 0
    have n1 := cell_of (hs.cells 1 rfl) 1
    have c0 := cell_of (hs.cells 0 rfl) 0
    have c1 := cell_of (hs.cells 0 rfl) 1
    simp only [List.getElem?_toArray, List.getElem?_cons_zero, List.getElem?_cons_succ] at n0 n1 c0 c1
    go_wp2_with fail
    refine (works_any _).mono ?_
    rintro en wz ⟨rfl, hb⟩
    go_wp2_with fail
    go_ret
    exact ⟨rfl, (hs.belowStep hb).below⟩
  have d2 : decide (300 < (fl.length : Int)) = false := decide_eq_false (by omega)
  by_cases h3 : 100 < pot.length
  · have d3 : decide (100 < (pot.length : Int)) = true := decide_eq_true (by omega)
    go_enter Try.func4, Try.ntmps4
    go_wp2_with fail
    refine (few_any n a es.length c _ h.le').mono ?_
    rintro en w1 ⟨rfl, hb⟩
    rw [HF.out]
    replace hs := hs.belowStep hb
    clear hb
    (try clear n0 n1 c0 c1)
    have n0 := cell_of (hs.cells 1 rfl) 0
    have n1 := cell_of (hs.cells 1 rfl) 1
    have c0 := cell_of (hs.cells 0 rfl) 0
    have c1 := cell_of (hs.cells 0 rfl) 1
    simp only [List.getElem?_toArray, List.getElem?_cons_zero, List.getElem?_cons_succ] at n0 n1 c0 c1
    go_wp2_with fail
    refine (works_any _).mono ?_
    rintro en wz ⟨rfl, hb⟩
    go_wp2_with fail
    go_ret
    exact ⟨rfl, (hs.belowStep hb).below⟩
  have d3 : decide (100 < (pot.length : Int)) = false := decide_eq_false (by omega)
  by_cases h4 : 300 < x.length
  · have d4 : decide (300 < (x.length : Int)) = true := decide_eq_true (by omega)
    go_enter Try.func4, Try.ntmps4
    go_wp2_with fail
    refine (few_any n a es.length c _ h.le').mono ?_
    rintro en w1 ⟨rfl, hb⟩
    rw [HF.out]
    replace hs := hs.belowStep hb
    clear hb
    (try clear n0 n1 c0 c1)
    have n0 := cell_of (hs.cells 1 rfl) 0
    have n1 := cell_of (hs.cells 1 rfl) 1
    have c0 := cell_of (hs.cells 0 rfl) 0
    have c1 := cell_of (hs.cells 0 rfl) 1
    simp only [List.getElem?_toArray, List.getElem?_cons_zero, List.getElem?_cons_succ] at n0 n1 c0 c1
    go_wp2_with fail
    refine (works_any _).mono ?_
    rintro en wz ⟨rfl, hb⟩
    go_wp2_with fail
    go_ret
    exact ⟨rfl, (hs.belowStep hb).below⟩
  have d4 : decide (300 < (x.length : Int)) = false := decide_eq_false (by omega)
  cases hch : checkB n es fl pot
  · have HCH := Lib.hid hch
    clear hch h2 h3 h4
    go_enter Try.func4, Try.ntmps4
    go_wp2_with fail
    refine (few_any n a es.length c _ h.le').mono ?_
    rintro en w1 ⟨rfl, hb⟩
    rw [HF.out]
    replace hs := hs.belowStep hb
    clear hb
    (try clear n0 n1 c0 c1)
    have n0 := cell_of (hs.cells 1 rfl) 0
    have n1 := cell_of (hs.cells 1 rfl) 1
    have c0 := cell_of (hs.cells 0 rfl) 0
    have c1 := cell_of (hs.cells 0 rfl) 1
    simp only [List.getElem?_toArray, List.getElem?_cons_zero, List.getElem?_cons_succ] at n0 n1 c0 c1
    go_wp2_with fail
    refine (check_any n a c es _ fl _ pot _ (hs.rdG h) (hs.rd hf) (hs.rd hp)).mono ?_
    rintro en w2 ⟨rfl, hb⟩
    rw [HCH.out]
    clear n0 n1 c0 c1
    replace hs := hs.belowStep hb
    clear hb
    go_wp2_with fail
    refine (works_any _).mono ?_
    rintro en wz ⟨rfl, hb⟩
    go_wp2_with fail
    go_ret
    exact ⟨rfl, (hs.belowStep hb).below⟩
  · cases hfl : flowsB n es x
    · have HCH := Lib.hid hch
      have HRR := Lib.hid (check_flows hch).1
      have HFL := Lib.hid hfl
      clear hch hfl h2 h3 h4
      go_enter Try.func4, Try.ntmps4
      go_wp2_with fail
      refine (few_any n a es.length c _ h.le').mono ?_
      rintro en w1 ⟨rfl, hb⟩
      rw [HF.out]
      replace hs := hs.belowStep hb
      clear hb
      (try clear n0 n1 c0 c1)
      have n0 := cell_of (hs.cells 1 rfl) 0
      have n1 := cell_of (hs.cells 1 rfl) 1
      have c0 := cell_of (hs.cells 0 rfl) 0
      have c1 := cell_of (hs.cells 0 rfl) 1
      simp only [List.getElem?_toArray, List.getElem?_cons_zero, List.getElem?_cons_succ] at n0 n1 c0 c1
      go_wp2_with fail
      refine (check_any n a c es _ fl _ pot _ (hs.rdG h) (hs.rd hf) (hs.rd hp)).mono ?_
      rintro en w2 ⟨rfl, hb⟩
      rw [HCH.out]
      clear n0 n1 c0 c1
      replace hs := hs.belowStep hb
      clear hb
      have n0 := cell_of (hs.cells 1 rfl) 0
      have n1 := cell_of (hs.cells 1 rfl) 1
      have c0 := cell_of (hs.cells 0 rfl) 0
      have c1 := cell_of (hs.cells 0 rfl) 1
      simp only [List.getElem?_toArray, List.getElem?_cons_zero, List.getElem?_cons_succ] at n0 n1 c0 c1
      go_wp2_with fail
      refine (rright_any n a c es _ (hs.rdG h)).mono ?_
      rintro en w3 ⟨rfl, hb⟩
      rw [HRR.out]
      clear n0 n1 c0 c1
      replace hs := hs.belowStep hb
      clear hb
      have n0 := cell_of (hs.cells 1 rfl) 0
      have n1 := cell_of (hs.cells 1 rfl) 1
      have c0 := cell_of (hs.cells 0 rfl) 0
      have c1 := cell_of (hs.cells 0 rfl) 1
      simp only [List.getElem?_toArray, List.getElem?_cons_zero, List.getElem?_cons_succ] at n0 n1 c0 c1
      go_wp2_with fail
      refine (rflows_any n a c es _ x _ (hs.rdG h) (hs.rd hx)).mono ?_
      rintro en w4 ⟨rfl, hb⟩
      rw [HFL.out]
      clear n0 n1 c0 c1
      replace hs := hs.belowStep hb
      clear hb
      go_wp2_with fail
      refine (works_any _).mono ?_
      rintro en wz ⟨rfl, hb⟩
      go_wp2_with fail
      go_ret
      exact ⟨rfl, (hs.belowStep hb).below⟩
    · have HCH := Lib.hid hch
      have HRR := Lib.hid (check_flows hch).1
      have HFF := Lib.hid (check_flows hch).2.1
      have HFL := Lib.hid hfl
      obtain ⟨D, hD⟩ : ∃ D, D = costV n es x := ⟨_, rfl⟩
      obtain ⟨F, hF⟩ : ∃ F, F = costV n es fl := ⟨_, rfl⟩
      have hbest := best hfl hch
      rw [← hD, ← hF] at hbest
      have e1 : decide (F ≤ D) = true := decide_eq_true hbest
      have HD := Lib.hid hD
      have HFV := Lib.hid hF
      clear hch hfl h2 h3 h4 hD hF hbest
      go_enter Try.func4, Try.ntmps4
      go_wp2_with fail
      refine (few_any n a es.length c _ h.le').mono ?_
      rintro en w1 ⟨rfl, hb⟩
      rw [HF.out]
      replace hs := hs.belowStep hb
      clear hb
      (try clear n0 n1 c0 c1)
      have n0 := cell_of (hs.cells 1 rfl) 0
      have n1 := cell_of (hs.cells 1 rfl) 1
      have c0 := cell_of (hs.cells 0 rfl) 0
      have c1 := cell_of (hs.cells 0 rfl) 1
      simp only [List.getElem?_toArray, List.getElem?_cons_zero, List.getElem?_cons_succ] at n0 n1 c0 c1
      go_wp2_with fail
      refine (check_any n a c es _ fl _ pot _ (hs.rdG h) (hs.rd hf) (hs.rd hp)).mono ?_
      rintro en w2 ⟨rfl, hb⟩
      rw [HCH.out]
      clear n0 n1 c0 c1
      replace hs := hs.belowStep hb
      clear hb
      have n0 := cell_of (hs.cells 1 rfl) 0
      have n1 := cell_of (hs.cells 1 rfl) 1
      have c0 := cell_of (hs.cells 0 rfl) 0
      have c1 := cell_of (hs.cells 0 rfl) 1
      simp only [List.getElem?_toArray, List.getElem?_cons_zero, List.getElem?_cons_succ] at n0 n1 c0 c1
      go_wp2_with fail
      refine (rright_any n a c es _ (hs.rdG h)).mono ?_
      rintro en w3 ⟨rfl, hb⟩
      rw [HRR.out]
      clear n0 n1 c0 c1
      replace hs := hs.belowStep hb
      clear hb
      have n0 := cell_of (hs.cells 1 rfl) 0
      have n1 := cell_of (hs.cells 1 rfl) 1
      have c0 := cell_of (hs.cells 0 rfl) 0
      have c1 := cell_of (hs.cells 0 rfl) 1
      simp only [List.getElem?_toArray, List.getElem?_cons_zero, List.getElem?_cons_succ] at n0 n1 c0 c1
      go_wp2_with fail
      refine (rflows_any n a c es _ x _ (hs.rdG h) (hs.rd hx)).mono ?_
      rintro en w4 ⟨rfl, hb⟩
      rw [HFL.out]
      clear n0 n1 c0 c1
      replace hs := hs.belowStep hb
      clear hb
      have n0 := cell_of (hs.cells 1 rfl) 0
      have n1 := cell_of (hs.cells 1 rfl) 1
      have c0 := cell_of (hs.cells 0 rfl) 0
      have c1 := cell_of (hs.cells 0 rfl) 1
      simp only [List.getElem?_toArray, List.getElem?_cons_zero, List.getElem?_cons_succ] at n0 n1 c0 c1
      go_wp2_with fail
      have hCW := (show (fun W : World => W.cell? ⟨w.heap.size, 0, none⟩ = some (.int .i64 n) ∧ W.cell? ⟨w.heap.size, 1, none⟩ = some (.slice a es.length c) ∧ W.cell? ⟨w.heap.size + 1, 0, none⟩ = some (.slice af fl.length cf) ∧ W.cell? ⟨w.heap.size + 1, 1, none⟩ = some (.slice ap pot.length cp)) _ from ⟨n0, n1, c0, c1⟩)
      refine Mix.region [0, 0, 0, 2, 0, 0, 0, 2, 1, 1, 1, 2, 0, 0, 0, 2, 0, 0] (fun W : World => W.cell? ⟨w.heap.size, 0, none⟩ = some (.int .i64 n) ∧ W.cell? ⟨w.heap.size, 1, none⟩ = some (.slice a es.length c) ∧ W.cell? ⟨w.heap.size + 1, 0, none⟩ = some (.slice af fl.length cf) ∧ W.cell? ⟨w.heap.size + 1, 1, none⟩ = some (.slice ap pot.length cp)) (by kernel_rfl) (by kernel_rfl) hCW ?_
      simp only [List.zip_cons_cons, List.zip_nil_right]
      iterate 3 (refine Mix.step0 fun K hK => ?_; go_simp; (try (go_bits; try go_simp)); first | ((with_reducible refine hK _ _ ?_); clear hK K) | ((try (simp only [IntWalk.iteOmega]; try go_simp)); (try go_bits); (with_reducible refine hK _ _ ?_); clear hK K))
      refine Mix.step2n (by first | rfl | simp [Region.wanted, yielded]) fun K hK => ?_
      go_wp2_with fail
      replace hs := hs.drew
      refine (rflows_any n a c es _ fl _ (hs.rdG h) (hs.rd hf)).mono ?_
      rintro en w5 ⟨rfl, hb⟩
      rw [HFF.out]
      (try clear hCW)
      (try clear n0 n1 c0 c1)
      replace hs := hs.belowStep hb
      clear hb
      have n0 := cell_of (hs.cells 1 rfl) 0
      have n1 := cell_of (hs.cells 1 rfl) 1
      have c0 := cell_of (hs.cells 0 rfl) 0
      have c1 := cell_of (hs.cells 0 rfl) 1
      simp only [List.getElem?_toArray, List.getElem?_cons_zero, List.getElem?_cons_succ] at n0 n1 c0 c1
      have hCW := (show (fun W : World => W.cell? ⟨w.heap.size, 0, none⟩ = some (.int .i64 n) ∧ W.cell? ⟨w.heap.size, 1, none⟩ = some (.slice a es.length c) ∧ W.cell? ⟨w.heap.size + 1, 0, none⟩ = some (.slice af fl.length cf) ∧ W.cell? ⟨w.heap.size + 1, 1, none⟩ = some (.slice ap pot.length cp)) _ from ⟨n0, n1, c0, c1⟩)
      go_wp2_with fail
      refine Mix.post_mk (C := (fun W : World => W.cell? ⟨w.heap.size, 0, none⟩ = some (.int .i64 n) ∧ W.cell? ⟨w.heap.size, 1, none⟩ = some (.slice a es.length c) ∧ W.cell? ⟨w.heap.size + 1, 0, none⟩ = some (.slice af fl.length cf) ∧ W.cell? ⟨w.heap.size + 1, 1, none⟩ = some (.slice ap pot.length cp))) (by first | exact hCW | exact HCW.out _) (hK _ _ ?_)
      clear hK K
      iterate 1 (refine Mix.step0 fun K hK => ?_; go_simp; (try (go_bits; try go_simp)); first | ((with_reducible refine hK _ _ ?_); clear hK K) | ((try (simp only [IntWalk.iteOmega]; try go_simp)); (try go_bits); (with_reducible refine hK _ _ ?_); clear hK K))
      iterate 2 (first | (refine Mix.stepS rfl fun K hK => ?_; go_simp; (with_reducible refine hK _ _ ?_); clear hK K) | (refine Mix.step0 fun K hK => ?_; go_simp; (try (go_bits; try go_simp)); first | ((with_reducible refine hK _ _ ?_); clear hK K) | ((try (simp only [IntWalk.iteOmega]; try go_simp)); (try go_bits); (with_reducible refine hK _ _ ?_); clear hK K)))
      refine Mix.step2n (by first | rfl | simp [Region.wanted, yielded]) fun K hK => ?_
      go_wp2_with fail
      refine (rcost_any n a c es _ x _ (hs.rdG h) (hs.rd hx)).mono ?_
      rintro en w6 ⟨rfl, hb⟩
      rw [← HD.out]
      (try clear hCW)
      (try clear n0 n1 c0 c1)
      replace hs := hs.belowStep hb
      clear hb
      have n0 := cell_of (hs.cells 1 rfl) 0
      have n1 := cell_of (hs.cells 1 rfl) 1
      have c0 := cell_of (hs.cells 0 rfl) 0
      have c1 := cell_of (hs.cells 0 rfl) 1
      simp only [List.getElem?_toArray, List.getElem?_cons_zero, List.getElem?_cons_succ] at n0 n1 c0 c1
      have hCW := (show (fun W : World => W.cell? ⟨w.heap.size, 0, none⟩ = some (.int .i64 n) ∧ W.cell? ⟨w.heap.size, 1, none⟩ = some (.slice a es.length c) ∧ W.cell? ⟨w.heap.size + 1, 0, none⟩ = some (.slice af fl.length cf) ∧ W.cell? ⟨w.heap.size + 1, 1, none⟩ = some (.slice ap pot.length cp)) _ from ⟨n0, n1, c0, c1⟩)
      go_wp2_with fail
      refine Mix.post_mk (C := (fun W : World => W.cell? ⟨w.heap.size, 0, none⟩ = some (.int .i64 n) ∧ W.cell? ⟨w.heap.size, 1, none⟩ = some (.slice a es.length c) ∧ W.cell? ⟨w.heap.size + 1, 0, none⟩ = some (.slice af fl.length cf) ∧ W.cell? ⟨w.heap.size + 1, 1, none⟩ = some (.slice ap pot.length cp))) (by first | exact hCW | exact HCW.out _) (hK _ _ ?_)
      clear hK K
      (first | (refine Mix.stepS rfl fun K hK => ?_; go_simp; (with_reducible refine hK _ _ ?_); clear hK K) | (refine Mix.step1 fun K hK => ?_; go_simp; refine ⟨fun W => ?_, hK _ _ ?_⟩; (intro hW1; (try intro hW2); (try intro hW3); (try intro hW4); (try intro hW5); (try intro hW6); (try intro hW7); (try intro hW8); go_simp); clear hK K))
      (first | (refine Mix.stepS rfl fun K hK => ?_; go_simp; (with_reducible refine hK _ _ ?_); clear hK K) | (refine Mix.step1 fun K hK => ?_; go_simp; (try (go_bits; try go_simp)); first | ((with_reducible refine hK _ _ ?_); clear hK K) | ((try (simp only [IntWalk.iteOmega]; try go_simp)); (try go_bits); (with_reducible refine hK _ _ ?_); clear hK K)))
      (first | (refine Mix.stepS rfl fun K hK => ?_; go_simp; (with_reducible refine hK _ _ ?_); clear hK K) | (refine Mix.step1 fun K hK => ?_; go_simp; refine ⟨fun W => ?_, hK _ _ ?_⟩; (intro hW1; (try intro hW2); (try intro hW3); (try intro hW4); (try intro hW5); (try intro hW6); (try intro hW7); (try intro hW8); go_simp); clear hK K))
      refine Mix.step2n (by first | rfl | simp [Region.wanted, yielded]) fun K hK => ?_
      go_wp2_with fail
      refine (rcost_any n a c es _ fl _ (hs.rdG h) (hs.rd hf)).mono ?_
      rintro en w7 ⟨rfl, hb⟩
      rw [← HFV.out]
      (try clear hCW)
      (try clear n0 n1 c0 c1)
      replace hs := hs.belowStep hb
      clear hb
      have n0 := cell_of (hs.cells 1 rfl) 0
      have n1 := cell_of (hs.cells 1 rfl) 1
      have c0 := cell_of (hs.cells 0 rfl) 0
      have c1 := cell_of (hs.cells 0 rfl) 1
      simp only [List.getElem?_toArray, List.getElem?_cons_zero, List.getElem?_cons_succ] at n0 n1 c0 c1
      have hCW := (show (fun W : World => W.cell? ⟨w.heap.size, 0, none⟩ = some (.int .i64 n) ∧ W.cell? ⟨w.heap.size, 1, none⟩ = some (.slice a es.length c) ∧ W.cell? ⟨w.heap.size + 1, 0, none⟩ = some (.slice af fl.length cf) ∧ W.cell? ⟨w.heap.size + 1, 1, none⟩ = some (.slice ap pot.length cp)) _ from ⟨n0, n1, c0, c1⟩)
      go_wp2_with fail
      refine Mix.post_mk (C := (fun W : World => W.cell? ⟨w.heap.size, 0, none⟩ = some (.int .i64 n) ∧ W.cell? ⟨w.heap.size, 1, none⟩ = some (.slice a es.length c) ∧ W.cell? ⟨w.heap.size + 1, 0, none⟩ = some (.slice af fl.length cf) ∧ W.cell? ⟨w.heap.size + 1, 1, none⟩ = some (.slice ap pot.length cp))) (by first | exact hCW | exact HCW.out _) (hK _ _ ?_)
      clear hK K
      iterate 1 (first | (refine Mix.stepS rfl fun K hK => ?_; go_simp; (with_reducible refine hK _ _ ?_); clear hK K) | (refine Mix.step0 fun K hK => ?_; go_simp; (try (go_bits; try go_simp)); first | ((with_reducible refine hK _ _ ?_); clear hK K) | ((try (simp only [IntWalk.iteOmega]; try go_simp)); (try go_bits); (with_reducible refine hK _ _ ?_); clear hK K)))
      iterate 2 (refine Mix.step0 fun K hK => ?_; go_simp; (try (go_bits; try go_simp)); first | ((with_reducible refine hK _ _ ?_); clear hK K) | ((try (simp only [IntWalk.iteOmega]; try go_simp)); (try go_bits); (with_reducible refine hK _ _ ?_); clear hK K))
      refine Mix.step2n (by first | rfl | simp [Region.wanted, yielded]) fun K hK => ?_
      go_wp2_with fail
      refine (works_any _).mono ?_
      rintro en w8 ⟨rfl, hb⟩
      (try clear hCW)
      (try clear n0 n1 c0 c1)
      replace hs := hs.belowStep hb
      clear hb
      have n0 := cell_of (hs.cells 1 rfl) 0
      have n1 := cell_of (hs.cells 1 rfl) 1
      have c0 := cell_of (hs.cells 0 rfl) 0
      have c1 := cell_of (hs.cells 0 rfl) 1
      simp only [List.getElem?_toArray, List.getElem?_cons_zero, List.getElem?_cons_succ] at n0 n1 c0 c1
      have hCW := (show (fun W : World => W.cell? ⟨w.heap.size, 0, none⟩ = some (.int .i64 n) ∧ W.cell? ⟨w.heap.size, 1, none⟩ = some (.slice a es.length c) ∧ W.cell? ⟨w.heap.size + 1, 0, none⟩ = some (.slice af fl.length cf) ∧ W.cell? ⟨w.heap.size + 1, 1, none⟩ = some (.slice ap pot.length cp)) _ from ⟨n0, n1, c0, c1⟩)
      go_wp2_with fail
      refine Mix.post_mk (C := (fun W : World => W.cell? ⟨w.heap.size, 0, none⟩ = some (.int .i64 n) ∧ W.cell? ⟨w.heap.size, 1, none⟩ = some (.slice a es.length c) ∧ W.cell? ⟨w.heap.size + 1, 0, none⟩ = some (.slice af fl.length cf) ∧ W.cell? ⟨w.heap.size + 1, 1, none⟩ = some (.slice ap pot.length cp))) (by first | exact hCW | exact HCW.out _) (hK _ _ ?_)
      clear hK K
      iterate 2 (refine Mix.step0 fun K hK => ?_; go_simp; (try (go_bits; try go_simp)); first | ((with_reducible refine hK _ _ ?_); clear hK K) | ((try (simp only [IntWalk.iteOmega]; try go_simp)); (try go_bits); (with_reducible refine hK _ _ ?_); clear hK K))
      refine Mix.done ?_
      go_wp2_with fail
      go_ret
      exact ⟨rfl, hs.below⟩
end Go.Proofs.Ytlladdkchhndiaa
