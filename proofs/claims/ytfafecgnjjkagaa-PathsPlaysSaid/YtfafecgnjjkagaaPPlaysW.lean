/-
  PathsPlays, walked.
-/
import Derived.Test.YtfafecgnjjkagaaPD
import Derived.Test.YtfafecgnjjkagaaPWk
namespace Go.Proofs.Ytfafecgnjjkagaa
open Go Go.RowKit Go.Mem Go.NetP Go.RestP Go.CertP Go.PathP Go.Shelf
set_option maxRecDepth 100000 in
set_option maxHeartbeats 6000000 in
theorem pathsPlays_any (n : Int) (a : Option Addr) (c : Nat) (es : List Ed) (vf : Value) (fl : List Int) (vp : Value) (pot : List Int) (vz : Value) (zs : List Int) (w : World) (h : RdG edR w (.slice a es.length c) es) (hf : Rd .i64 w vf fl) (hp : Rd .i64 w vp pot) (hz : Rd .i64 w vz zs) :
    Calls Try.prog 3 #[.agg #[.int .i64 n, .slice a es.length c], vf, vp, vz] w fun en w' => en = .returned (.bool true) ∧ Below w.heap.size w w' := by
  have hlf := hf.le'
  have hlp := hp.le'
  have hlz := hz.le'
  obtain ⟨i0, hi0, hz0, hz1, hz2⟩ := info_parts Try.infoI64w
  obtain ⟨j0, hj0, hy0, hy1, hy2⟩ := info_parts Try.infoIntw
  obtain ⟨af, cf, rfl⟩ := hf.shape
  obtain ⟨ap, cp, rfl⟩ := hp.shape
  obtain ⟨az, cz, rfl⟩ := hz.shape
  have hs := (Sep.start w).newCells #[.int .i64 n, .slice a es.length c] 24
  by_cases h1 : fewN n es.length = false
  · have HF := Lib.hid h1
    clear h1
    go_enter Try.func3, Try.ntmps3
    go_wp2_with fail
    refine (few_any n a es.length c _ h.le').mono ?_
    rintro en w1 ⟨rfl, hb⟩
    rw [HF.out]
    replace hs := hs.belowStep hb
    clear hb
    go_wp2_with fail
    refine (pworks_any _).mono ?_
    rintro en wz ⟨rfl, hb⟩
    go_wp2_with fail
    go_ret
    exact ⟨rfl, (hs.belowStep hb).below⟩
  have HF := Lib.hid (show fewN n es.length = true by simpa using h1)
  clear h1
  by_cases h2 : 300 < fl.length
  · have d2 : decide (300 < (fl.length : Int)) = true := decide_eq_true (by omega)
    go_enter Try.func3, Try.ntmps3
    go_wp2_with fail
    refine (few_any n a es.length c _ h.le').mono ?_
    rintro en w1 ⟨rfl, hb⟩
    rw [HF.out]
    replace hs := hs.belowStep hb
    clear hb
    go_wp2_with fail
    refine (pworks_any _).mono ?_
    rintro en wz ⟨rfl, hb⟩
    go_wp2_with fail
    go_ret
    exact ⟨rfl, (hs.belowStep hb).below⟩
  have d2 : decide (300 < (fl.length : Int)) = false := decide_eq_false (by omega)
  by_cases h3 : 100 < pot.length
  · have d3 : decide (100 < (pot.length : Int)) = true := decide_eq_true (by omega)
    go_enter Try.func3, Try.ntmps3
    go_wp2_with fail
    refine (few_any n a es.length c _ h.le').mono ?_
    rintro en w1 ⟨rfl, hb⟩
    rw [HF.out]
    replace hs := hs.belowStep hb
    clear hb
    go_wp2_with fail
    refine (pworks_any _).mono ?_
    rintro en wz ⟨rfl, hb⟩
    go_wp2_with fail
    go_ret
    exact ⟨rfl, (hs.belowStep hb).below⟩
  have d3 : decide (100 < (pot.length : Int)) = false := decide_eq_false (by omega)
  by_cases h4 : 100 < zs.length
  · have d4 : decide (100 < (zs.length : Int)) = true := decide_eq_true (by omega)
    go_enter Try.func3, Try.ntmps3
    go_wp2_with fail
    refine (few_any n a es.length c _ h.le').mono ?_
    rintro en w1 ⟨rfl, hb⟩
    rw [HF.out]
    replace hs := hs.belowStep hb
    clear hb
    go_wp2_with fail
    refine (pworks_any _).mono ?_
    rintro en wz ⟨rfl, hb⟩
    go_wp2_with fail
    go_ret
    exact ⟨rfl, (hs.belowStep hb).below⟩
  have d4 : decide (100 < (zs.length : Int)) = false := decide_eq_false (by omega)
  go_enter Try.func3, Try.ntmps3
  go_wp2_with fail
  refine (few_any n a es.length c _ h.le').mono ?_
  rintro en w1 ⟨rfl, hb⟩
  rw [HF.out]
  replace hs := hs.belowStep hb
  clear hb
  have hsa := hs.litInts .i64 2 [] (by simp [maxLen])
  simp only [List.map_cons, List.map_nil, List.length_cons, List.length_nil, Nat.reduceAdd, World.size_alloc] at hsa
  go_wp2_with (at_builtin; refine wpList_appRd rfl (.tmp 39) (.tmp 40) 25 rfl 2 i0 _ 8 Try.underlying25 hi0 hz0 hz1 hz2 rfl _ [] .i64 _ fl hsa 0 rfl (hsa.rd hf) rfl rfl ?c3 ?c4 ?grow)
  case c3 => (try simp); (try simp only [maxLen]); (try omega)
  case c4 => (try simp); (try simp only [maxLen]); (try omega)
  case grow =>
    intro vo w2 hs2
    (try simp only [List.set_cons_zero, List.nil_append] at hs2)
    clear hs hsa
    have hsb := hs2.litInts .i64 2 [] (by simp [maxLen])
    simp only [List.map_cons, List.map_nil, List.length_cons, List.length_nil, Nat.reduceAdd, World.size_alloc] at hsb
    go_wp2_with (at_builtin; refine wpList_appRd rfl (.tmp 42) (.tmp 43) 25 rfl 2 i0 _ 8 Try.underlying25 hi0 hz0 hz1 hz2 rfl _ [] .i64 _ pot hsb 0 rfl (hsb.rd hp) rfl rfl ?c5 ?c6 ?grow2)
    case c5 => (try simp); (try simp only [maxLen]); (try omega)
    case c6 => (try simp); (try simp only [maxLen]); (try omega)
    case grow2 =>
      intro vq w3 hs
      (try simp only [List.set_cons_zero, List.nil_append] at hs)
      clear hs2 hsb
      obtain ⟨ao, co, rfl⟩ := (hs.rdInts 1 rfl).shape
      obtain ⟨aq, cq, rfl⟩ := (hs.rdInts 0 rfl).shape
      obtain ⟨I, hI⟩ : ∃ I, I = fitsB n es fl pot := ⟨_, rfl⟩
      have HI := Lib.hid hI
      have e2 : (I != I) = false := by cases I <;> rfl
      clear hI h2 h3
      have n0 := cell_of (hs.cells 2 rfl) 0
      have n1 := cell_of (hs.cells 2 rfl) 1
      simp only [List.getElem?_toArray, List.getElem?_cons_zero, List.getElem?_cons_succ] at n0 n1
      go_wp2_with fail
      have hCW : (fun W : World => W.cell? ⟨w.heap.size, 0, none⟩ = some (.int .i64 n) ∧ W.cell? ⟨w.heap.size, 1, none⟩ = some (.slice a es.length c)) _ := ⟨n0, n1⟩
      refine Mix.region [0, 0, 0, 2, 1, 1, 1, 2, 0] (fun W : World => W.cell? ⟨w.heap.size, 0, none⟩ = some (.int .i64 n) ∧ W.cell? ⟨w.heap.size, 1, none⟩ = some (.slice a es.length c)) (by kernel_rfl) (by kernel_rfl) hCW ?_
      simp only [List.zip_cons_cons, List.zip_nil_right]
      iterate 3 (refine Mix.step0 fun K hK => ?_; go_simp; (try (go_bits; try go_simp)); first | ((with_reducible refine hK _ _ ?_); clear hK K) | ((try (simp only [IntWalk.iteOmega]; try go_simp)); (try go_bits); (with_reducible refine hK _ _ ?_); clear hK K))
      refine Mix.step2n (by first | rfl | simp [Region.wanted, yielded]) fun K hK => ?_
      go_wp2_with fail
      replace hs := hs.drew
      refine (pfits_any n a c es _ _ fl pot _ (hs.rdG h) (hs.rdInts 1 rfl) (hs.rdInts 0 rfl)).mono ?_
      rintro en w4 ⟨rfl, hb⟩
      rw [← HI.out]
      clear hCW n0 n1
      replace hs := hs.belowStep hb
      clear hb
      have n0 := cell_of (hs.cells 2 rfl) 0
      have n1 := cell_of (hs.cells 2 rfl) 1
      simp only [List.getElem?_toArray, List.getElem?_cons_zero, List.getElem?_cons_succ] at n0 n1
      have hCW : (fun W : World => W.cell? ⟨w.heap.size, 0, none⟩ = some (.int .i64 n) ∧ W.cell? ⟨w.heap.size, 1, none⟩ = some (.slice a es.length c)) _ := ⟨n0, n1⟩
      go_wp2_with fail
      refine Mix.post_mk (C := (fun W : World => W.cell? ⟨w.heap.size, 0, none⟩ = some (.int .i64 n) ∧ W.cell? ⟨w.heap.size, 1, none⟩ = some (.slice a es.length c))) (by first | exact hCW | exact HCW.out _) (hK _ _ ?_)
      clear hK K
      (refine Mix.step1 fun K hK => ?_; go_simp; refine ⟨fun W => ?_, hK _ _ ?_⟩; (intro hW1; (try intro hW2); (try intro hW3); (try intro hW4); (try intro hW5); (try intro hW6); (try intro hW7); (try intro hW8); go_simp); clear hK K)
      (refine Mix.step1 fun K hK => ?_; go_simp; (try (go_bits; try go_simp)); first | ((with_reducible refine hK _ _ ?_); clear hK K) | ((try (simp only [IntWalk.iteOmega]; try go_simp)); (try go_bits); (with_reducible refine hK _ _ ?_); clear hK K))
      (refine Mix.step1 fun K hK => ?_; go_simp; (try (go_bits; try go_simp)); first | ((with_reducible refine hK _ _ ?_); clear hK K) | ((try (simp only [IntWalk.iteOmega]; try go_simp)); (try go_bits); (with_reducible refine hK _ _ ?_); clear hK K))
      refine Mix.step2n (by first | rfl | simp [Region.wanted, yielded]) fun K hK => ?_
      go_wp2_with fail
      refine (rfits_any n a c es _ fl _ pot _ (hs.rdG h) (hs.rd hf) (hs.rd hp)).mono ?_
      rintro en w5 ⟨rfl, hb⟩
      rw [← HI.out]
      clear hCW n0 n1
      replace hs := hs.belowStep hb
      clear hb
      have n0 := cell_of (hs.cells 2 rfl) 0
      have n1 := cell_of (hs.cells 2 rfl) 1
      simp only [List.getElem?_toArray, List.getElem?_cons_zero, List.getElem?_cons_succ] at n0 n1
      have hCW : (fun W : World => W.cell? ⟨w.heap.size, 0, none⟩ = some (.int .i64 n) ∧ W.cell? ⟨w.heap.size, 1, none⟩ = some (.slice a es.length c)) _ := ⟨n0, n1⟩
      go_wp2_with fail
      refine Mix.post_mk (C := (fun W : World => W.cell? ⟨w.heap.size, 0, none⟩ = some (.int .i64 n) ∧ W.cell? ⟨w.heap.size, 1, none⟩ = some (.slice a es.length c))) (by first | exact hCW | exact HCW.out _) (hK _ _ ?_)
      clear hK K
      iterate 1 (refine Mix.step0 fun K hK => ?_; go_simp; (try (go_bits; try go_simp)); first | ((with_reducible refine hK _ _ ?_); clear hK K) | ((try (simp only [IntWalk.iteOmega]; try go_simp)); (try go_bits); (with_reducible refine hK _ _ ?_); clear hK K))
      refine Mix.done ?_
      clear hCW
      have hsc := (hs.litInts .i64 3 [] (by simp [maxLen])).drew
      simp only [List.map_cons, List.map_nil, List.length_cons, List.length_nil, Nat.reduceAdd, World.size_alloc] at hsc
      go_wp2_with fail
      have hCW : (fun W : World => W.cell? ⟨w.heap.size, 0, none⟩ = some (.int .i64 n) ∧ W.cell? ⟨w.heap.size, 1, none⟩ = some (.slice a es.length c)) _ := ⟨n0, n1⟩
      refine Mix.region [1, 1, 1, 2, 1, 2, 2, 0, 0, 0, 0, 0, 0, 0] (fun W : World => W.cell? ⟨w.heap.size, 0, none⟩ = some (.int .i64 n) ∧ W.cell? ⟨w.heap.size, 1, none⟩ = some (.slice a es.length c)) (by kernel_rfl) (by kernel_rfl) hCW ?_
      simp only [List.zip_cons_cons, List.zip_nil_right]
      (refine Mix.step1 fun K hK => ?_; go_simp; refine ⟨fun W => ?_, hK _ _ ?_⟩; (intro hW1; (try intro hW2); (try intro hW3); (try intro hW4); (try intro hW5); (try intro hW6); (try intro hW7); (try intro hW8); go_simp); clear hK K)
      (refine Mix.step1 fun K hK => ?_; go_simp; (try (go_bits; try go_simp)); first | ((with_reducible refine hK _ _ ?_); clear hK K) | ((try (simp only [IntWalk.iteOmega]; try go_simp)); (try go_bits); (with_reducible refine hK _ _ ?_); clear hK K))
      (refine Mix.step1 fun K hK => ?_; go_simp; (try (go_bits; try go_simp)); first | ((with_reducible refine hK _ _ ?_); clear hK K) | ((try (simp only [IntWalk.iteOmega]; try go_simp)); (try go_bits); (with_reducible refine hK _ _ ?_); clear hK K))
      refine Mix.step2n (by first | rfl | simp [Region.wanted, yielded]) fun K hK => ?_
      go_wp2_with fail
      clear hCW n0 n1
      clear hs
      have hs := hsc
      clear hsc
      have n0 := cell_of (hs.cells 3 rfl) 0
      have n1 := cell_of (hs.cells 3 rfl) 1
      simp only [List.getElem?_toArray, List.getElem?_cons_zero, List.getElem?_cons_succ] at n0 n1
      have hCW : (fun W : World => W.cell? ⟨w.heap.size, 0, none⟩ = some (.int .i64 n) ∧ W.cell? ⟨w.heap.size, 1, none⟩ = some (.slice a es.length c)) _ := ⟨n0, n1⟩
      refine Mix.post_mk (C := (fun W : World => W.cell? ⟨w.heap.size, 0, none⟩ = some (.int .i64 n) ∧ W.cell? ⟨w.heap.size, 1, none⟩ = some (.slice a es.length c))) (by first | exact hCW | exact HCW.out _) (hK _ _ ?_)
      clear hK K
      (refine Mix.step1 fun K hK => ?_; go_simp; (try (go_bits; try go_simp)); first | ((with_reducible refine hK _ _ ?_); clear hK K) | ((try (simp only [IntWalk.iteOmega]; try go_simp)); (try go_bits); (with_reducible refine hK _ _ ?_); clear hK K))
      refine Mix.step2n (by first | rfl | simp [Region.wanted, yielded]) fun K hK => ?_
      refine wpList_appRd rfl (.tmp 58) (.tmp 59) 26 rfl 3 j0 _ 8 Try.underlying26 hj0 hy0 hy1 hy2 rfl _ [] .i64 _ zs hs 0 rfl (hs.rd hz) rfl rfl (by simp [maxLen]; omega) (by simp; omega) ?_
      intro vw w6 hs6
      (try simp only [List.set_cons_zero, List.nil_append] at hs6)
      clear hCW n0 n1 hs
      have hs := hs6
      clear hs6
      have n0 := cell_of (hs.cells 3 rfl) 0
      have n1 := cell_of (hs.cells 3 rfl) 1
      simp only [List.getElem?_toArray, List.getElem?_cons_zero, List.getElem?_cons_succ] at n0 n1
      have hCW : (fun W : World => W.cell? ⟨w.heap.size, 0, none⟩ = some (.int .i64 n) ∧ W.cell? ⟨w.heap.size, 1, none⟩ = some (.slice a es.length c)) _ := ⟨n0, n1⟩
      go_wp2_with fail
      refine Mix.post_mk (C := (fun W : World => W.cell? ⟨w.heap.size, 0, none⟩ = some (.int .i64 n) ∧ W.cell? ⟨w.heap.size, 1, none⟩ = some (.slice a es.length c))) (by first | exact hCW | exact HCW.out _) (hK _ _ ?_)
      clear hK K
      refine Mix.step2n (by first | rfl | simp [Region.wanted, yielded]) fun K hK => ?_
      go_wp2_with fail
      refine (ways_any n a c es _ _ _ fl pot zs _ (hs.rdG h) (hs.rdInts 2 rfl) (hs.rdInts 1 rfl) (hs.rdInts 0 rfl) (by omega)).mono ?_
      intro en w7 hP
      obtain ⟨D, B, er, ad, cd, ab, cb, HD, rfl, k1⟩ := WaysP.uni hP
      clear hP hCW n0 n1
      replace hs := hs.join k1
      clear k1
      simp only [List.cons_append, List.nil_append] at hs
      have n0 := cell_of (hs.cells 5 rfl) 0
      have n1 := cell_of (hs.cells 5 rfl) 1
      simp only [List.getElem?_toArray, List.getElem?_cons_zero, List.getElem?_cons_succ] at n0 n1
      have hCW : (fun W : World => W.cell? ⟨w.heap.size, 0, none⟩ = some (.int .i64 n) ∧ W.cell? ⟨w.heap.size, 1, none⟩ = some (.slice a es.length c)) _ := ⟨n0, n1⟩
      go_wp2_with fail
      refine Mix.post_mk (C := (fun W : World => W.cell? ⟨w.heap.size, 0, none⟩ = some (.int .i64 n) ∧ W.cell? ⟨w.heap.size, 1, none⟩ = some (.slice a es.length c))) (by first | exact hCW | exact HCW.out _) (hK _ _ ?_)
      clear hK K
      iterate 7 (refine Mix.step0 fun K hK => ?_; go_simp; (try (go_bits; try go_simp)); first | ((with_reducible refine hK _ _ ?_); clear hK K) | ((try (simp only [IntWalk.iteOmega]; try go_simp)); (try go_bits); (with_reducible refine hK _ _ ?_); clear hK K))
      refine Mix.done ?_
      clear hCW
      have HDD := Lib.hid HD
      clear HD
      go_wp2_with fail
      refine (rways_any n a c es _ _ _ fl pot zs _ (hs.rdG h) (hs.rd hf) (hs.rd hp) (hs.rd hz) (by omega)).mono ?_
      intro en w8 hP
      obtain ⟨D', B', er', ax, cx, ay, cy, HD', rfl, k1⟩ := WaysP.uni hP
      obtain ⟨rfl, rfl, rfl⟩ := HDD.out.eq HD'
      clear hP n0 n1 HDD
      obtain ⟨hlB, hlD⟩ := HD'.len
      have HLB := Lib.hid hlB
      clear HD' hlB
      replace hs := hs.join k1
      clear k1
      simp only [List.cons_append, List.nil_append] at hs
      have e3 : (er' != er') = false := by simp
      have e4 : ((D'.length : Int) != (D'.length : Int)) = false := by simp
      obtain ⟨L, hL, hsN⟩ := nameL hs
      clear hs
      have hs := hsN
      clear hsN
      have HRD := Lib.hid (fun (W : World) (q : Sep w W L) => (show Rd .i64 W (.slice ad D'.length cd) D' ∧ Rd .i64 W (.slice ax D'.length cx) D' ∧ Rd .i64 W (.slice ab D'.length cb) B' ∧ Rd .i64 W (.slice ay D'.length cy) B' ∧ Rd .i64 W (.slice ao fl.length co) fl ∧ Rd .i64 W (.slice aq pot.length cq) pot from by
        subst hL
        exact ⟨q.rdInts 2 rfl, q.rdInts 0 rfl, q.rdInts 3 rfl, q.rdInts 1 rfl, q.rdInts 6 rfl, q.rdInts 5 rfl⟩))
      clear hL
      go_wp2_with fail
      refine wp_loopM [none, none, none, none, none, none, none, none, some 8, none, none, none, none, none, none, none, none, some 17, none, none, none, none, none, none, none, none, none, none, none, none, none, none, none, none, none, none, none, none, none, none, none, none, none, none, none, none, none, none, none, none, none, none, none, none, none, none, none, none, none, none, none, none, none, none, none, none, none, none, none, none, none, none, none, none, none, none, none, none, none, none, none, none, none, none, none, none, none, none, none, none, none, some 91, some 92, some 93, some 94, some 95, some 96, some 97, some 98, some 99, some 100, some 101, some 102, some 103, some 104, some 105, some 106, some 107, some 108, some 109, some 110, some 111, some 112, some 113, some 114, some 115, some 116, none, none, none, none, none, none, none, none, none, none, none, none, none, none, none, none, none, none, none, none, none, none, none, none, none, none, none, none, none, none, none] (fun (r : Nat) (f : Nat → Value) (wr : World) => (fun (v : Value) => ∃ i : Nat, v = .int .i64 i ∧ i ≤ D'.length ∧ r = D'.length - i ∧ Sep w wr L) (f 17)) (D'.length) (by kernel_rfl) ?atStart1 ?round1
      case' atStart1 => (try dsimp only [nthV])
      case' round1 =>
        intro gk f wr l hl hrel J1 K1 hJ1 hK1
        (try simp only [mask] at hl)
        generalize f 17 = u17 at hl hrel
        subst hl
        (try dsimp only at hrel)
      case atStart1 => exact ⟨0, rfl, Nat.zero_le _, rfl, hs⟩
      case round1 =>
        clear hs
        obtain ⟨i, rfl, hi, rfl, hs⟩ := hrel
        by_cases hlt : i < D'.length
        · obtain ⟨r1, r2, r3, r4, _, _⟩ := HRD.out _ hs
          obtain ⟨gx1, ox1, eqx1, _, x1⟩ := (r1).at i hlt
          subst eqx1
          obtain ⟨gx2, ox2, eqx2, _, x2⟩ := (r2).at i hlt
          subst eqx2
          obtain ⟨gx3, ox3, eqx3, _, x3⟩ := (r3).at i (by have := HLB.out; omega)
          subst eqx3
          obtain ⟨gx4, ox4, eqx4, _, x4⟩ := (r4).at i (by have := HLB.out; omega)
          subst eqx4
          obtain ⟨x, hx⟩ : ∃ x, x = D'.getD i 0 := ⟨_, rfl⟩
          obtain ⟨y, hy⟩ : ∃ y, y = B'.getD i 0 := ⟨_, rfl⟩
          rw [← hx] at x1 x2
          rw [← hy] at x3 x4
          have e6 : (x != x) = false := by simp
          have e7 : (y != y) = false := by simp
          clear hx hy r1 r2 r3 r4
          go_wp2_with fail
          refine Mix.region [0, 0, 0, 0, 0, 0, 0, 0, 0, 0, 0, 0, 0, 0, 0, 0, 0, 0, 0, 0] (fun _ => True) (by kernel_rfl) (by kernel_rfl) trivial ?_
          simp only [List.zip_cons_cons, List.zip_nil_right]
          iterate 10 (refine Mix.step0 fun K hK => ?_; go_simp; (try (go_bits; try go_simp)); first | ((with_reducible refine hK _ _ ?_); clear hK K) | ((try (simp only [IntWalk.iteOmega]; try go_simp)); (try go_bits); (with_reducible refine hK _ _ ?_); clear hK K))
          iterate 9 (first | (refine Mix.stepS rfl fun K hK => ?_; go_simp; (with_reducible refine hK _ _ ?_); clear hK K) | (refine Mix.step0 fun K hK => ?_; go_simp; (try (go_bits; try go_simp)); first | ((with_reducible refine hK _ _ ?_); clear hK K) | ((try (simp only [IntWalk.iteOmega]; try go_simp)); (try go_bits); (with_reducible refine hK _ _ ?_); clear hK K)))
          iterate 1 (refine Mix.step0 fun K hK => ?_; go_simp; (try (go_bits; try go_simp)); first | ((with_reducible refine hK _ _ ?_); clear hK K) | ((try (simp only [IntWalk.iteOmega]; try go_simp)); (try go_bits); (with_reducible refine hK _ _ ?_); clear hK K))
          refine Mix.done ?_
          go_wp2_with fail
          refine Round.intro (D'.length - (i + 1)) ?measure2 (by kernel_rfl) (hJ1 _ _ _ ?rel2)
          case' rel2 => (try dsimp only [nthV])
          case measure2 => omega
          case rel2 => exact ⟨i + 1, by go_num, hlt, rfl, hs.drew⟩
        · obtain rfl : D'.length = i := by omega
          clear e4 e3 hi hlt
          go_wp2_with fail
          refine wp_loopM [none, none, none, none, none, none, none, none, some 8, none, none, none, none, none, none, none, none, none, some 18, none, none, none, none, none, none, none, none, none, none, none, none, none, none, none, none, none, none, none, none, none, none, none, none, none, none, none, none, none, none, none, none, none, none, none, none, none, none, none, none, none, none, none, none, none, none, none, none, none, none, none, none, none, none, none, none, none, none, none, none, none, none, none, none, none, none, none, none, none, none, none, none, none, none, none, none, none, none, none, none, none, none, none, none, none, none, none, none, none, none, none, none, none, none, none, none, none, none, some 117, some 118, some 119, some 120, some 121, some 122, some 123, some 124, some 125, some 126, some 127, some 128, some 129, some 130, some 131, none, none, none, none, none, none, none, none, none, none, none, none, none, none, none, none] (fun (r : Nat) (f : Nat → Value) (wr : World) => (fun (v : Value) => ∃ i : Nat, v = .int .i64 i ∧ i ≤ fl.length ∧ r = fl.length - i ∧ Sep w wr L) (f 18)) (fl.length) (by kernel_rfl) ?atStart3 ?round3
          case' atStart3 => (try dsimp only [nthV])
          case' round3 =>
            intro gk f wr l hl hrel J2 K2 hJ2 hK2
            (try simp only [mask] at hl)
            generalize f 18 = u18 at hl hrel
            subst hl
            (try dsimp only at hrel)
          case atStart3 => exact ⟨0, rfl, Nat.zero_le _, rfl, hs⟩
          case round3 =>
            clear hs
            obtain ⟨i, rfl, hi, rfl, hs⟩ := hrel
            by_cases hlt : i < fl.length
            · obtain ⟨_, _, _, _, r1, _⟩ := HRD.out _ hs
              have r2 := hs.rd hf
              obtain ⟨gx1, ox1, eqx1, _, x1⟩ := (r1).at i hlt
              subst eqx1
              obtain ⟨gx2, ox2, eqx2, _, x2⟩ := (r2).at i hlt
              subst eqx2
              obtain ⟨x, hx⟩ : ∃ x, x = fl.getD i 0 := ⟨_, rfl⟩
              rw [← hx] at x1 x2
              have e6 : (x != x) = false := by simp
              clear hx r1 r2
              go_wp2_with fail
              refine Mix.region [0, 0, 0, 0, 0, 0, 0, 0, 0] (fun _ => True) (by kernel_rfl) (by kernel_rfl) trivial ?_
              simp only [List.zip_cons_cons, List.zip_nil_right]
              iterate 9 (refine Mix.step0 fun K hK => ?_; go_simp; (try (go_bits; try go_simp)); first | ((with_reducible refine hK _ _ ?_); clear hK K) | ((try (simp only [IntWalk.iteOmega]; try go_simp)); (try go_bits); (with_reducible refine hK _ _ ?_); clear hK K))
              refine Mix.done ?_
              go_wp2_with fail
              refine Round.intro (fl.length - (i + 1)) ?measure4 (by kernel_rfl) (hJ2 _ _ _ ?rel4)
              case' rel4 => (try dsimp only [nthV])
              case measure4 => omega
              case rel4 => exact ⟨i + 1, by go_num, hlt, rfl, hs.drew⟩
            · obtain rfl : i = fl.length := by omega
              go_wp2_with fail
              refine wp_loopM [none, none, none, none, none, none, none, none, some 8, none, none, none, none, none, none, none, none, none, none, some 19, none, none, none, none, none, none, none, none, none, none, none, none, none, none, none, none, none, none, none, none, none, none, none, none, none, none, none, none, none, none, none, none, none, none, none, none, none, none, none, none, none, none, none, none, none, none, none, none, none, none, none, none, none, none, none, none, none, none, none, none, none, none, none, none, none, none, none, none, none, none, none, none, none, none, none, none, none, none, none, none, none, none, none, none, none, none, none, none, none, none, none, none, none, none, none, none, none, none, none, none, none, none, none, none, none, none, none, none, none, none, none, none, some 132, some 133, some 134, some 135, some 136, some 137, some 138, some 139, some 140, some 141, some 142, some 143, some 144, some 145, some 146, none] (fun (r : Nat) (f : Nat → Value) (wr : World) => (fun (v : Value) => ∃ i : Nat, v = .int .i64 i ∧ i ≤ pot.length ∧ r = pot.length - i ∧ Sep w wr L) (f 19)) (pot.length) (by kernel_rfl) ?atStart5 ?round5
              case' atStart5 => (try dsimp only [nthV])
              case' round5 =>
                intro gk f wr l hl hrel J3 K3 hJ3 hK3
                (try simp only [mask] at hl)
                generalize f 19 = u19 at hl hrel
                subst hl
                (try dsimp only at hrel)
              case atStart5 => exact ⟨0, rfl, Nat.zero_le _, rfl, hs⟩
              case round5 =>
                clear hs
                obtain ⟨i, rfl, hi, rfl, hs⟩ := hrel
                by_cases hlt : i < pot.length
                · obtain ⟨_, _, _, _, _, r1⟩ := HRD.out _ hs
                  have r2 := hs.rd hp
                  obtain ⟨gx1, ox1, eqx1, _, x1⟩ := (r1).at i hlt
                  subst eqx1
                  obtain ⟨gx2, ox2, eqx2, _, x2⟩ := (r2).at i hlt
                  subst eqx2
                  obtain ⟨x, hx⟩ : ∃ x, x = pot.getD i 0 := ⟨_, rfl⟩
                  rw [← hx] at x1 x2
                  have e6 : (x != x) = false := by simp
                  clear hx r1 r2
                  go_wp2_with fail
                  refine Mix.region [0, 0, 0, 0, 0, 0, 0, 0, 0] (fun _ => True) (by kernel_rfl) (by kernel_rfl) trivial ?_
                  simp only [List.zip_cons_cons, List.zip_nil_right]
                  iterate 9 (refine Mix.step0 fun K hK => ?_; go_simp; (try (go_bits; try go_simp)); first | ((with_reducible refine hK _ _ ?_); clear hK K) | ((try (simp only [IntWalk.iteOmega]; try go_simp)); (try go_bits); (with_reducible refine hK _ _ ?_); clear hK K))
                  refine Mix.done ?_
                  go_wp2_with fail
                  refine Round.intro (pot.length - (i + 1)) ?measure6 (by kernel_rfl) (hJ3 _ _ _ ?rel6)
                  case' rel6 => (try dsimp only [nthV])
                  case measure6 => omega
                  case rel6 => exact ⟨i + 1, by go_num, hlt, rfl, hs.drew⟩
                · obtain rfl : i = pot.length := by omega
                  go_wp2_with fail
                  go_wp2_with fail
                  refine (pworks_any _).mono ?_
                  rintro en wz ⟨rfl, hb⟩
                  go_wp2_with fail
                  go_ret
                  exact ⟨rfl, (hs.belowStep hb).below⟩
end Go.Proofs.Ytfafecgnjjkagaa
