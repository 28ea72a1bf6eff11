/-
  The law CertShift, walked.
-/
import Derived.Test.YtlladdkchhndiaaCPlaysW
import Derived.Test.YtlladdkchhndiaaMix2
import Derived.Test.YtlladdkchhndiaaObj
namespace Go.Proofs.Ytlladdkchhndiaa
open Go Go.RowKit Go.Mem Go.NetP Go.RestP Go.CertP Go.Shelf

theorem Try.infoI64s : (Try.prog.info? 2).map (fun i => (i.zero, i.size, i.bytes)) = some (some (.int .i64 0), 1, 8) := by kernel_rfl
theorem move_snoc {pot : List Int} {b : Int} {i : Nat} (h : i < pot.length) : (moveL pot b).take (i + 1) = (moveL pot b).take i ++ [pot.getD i 0 + b] := by
  rw [List.take_succ_eq_append_getElem (by simpa [moveL] using h)]; simp [moveL, h]
set_option maxRecDepth 100000 in
set_option maxHeartbeats 4000000 in
theorem certShift_any (n : Int) (a : Option Addr) (c : Nat) (es : List Ed) (vf : Value) (fl : List Int) (vp : Value) (pot : List Int) (vf2 : Value) (fl2 : List Int) (vp2 : Value) (pot2 : List Int) (b : Int) (w : World) (h : RdG edR w (.slice a es.length c) es) (hf : Rd .i64 w vf fl) (hp : Rd .i64 w vp pot) (hf2 : Rd .i64 w vf2 fl2) (hp2 : Rd .i64 w vp2 pot2) (hb0 : (Lit.int .i32 b).wf = true) :
    Calls Try.prog 5 #[.agg #[.int .i64 n, .slice a es.length c], .agg #[vf, vp], .agg #[vf2, vp2], .int .i32 b] w fun en w' => en = .returned (.bool true) ∧ Below w.heap.size w w' := by
  obtain ⟨i0, hi0, hz0, hz1, hz2⟩ := info_parts Try.infoI64s
  have hlf := hf.le'
  have hlp := hp.le'
  have hlf2 := hf2.le'
  have hlp2 := hp2.le'
  obtain ⟨af, cf, rfl⟩ := hf.shape
  obtain ⟨ap, cp, rfl⟩ := hp.shape
  obtain ⟨af2, cf2, rfl⟩ := hf2.shape
  obtain ⟨ap2, cp2, rfl⟩ := hp2.shape
  simp [Lit.wf, IntKind.min, IntKind.max, IntKind.signed, IntKind.bits] at hb0
  obtain ⟨hb1, hb2⟩ := hb0
  have hs := (((Sep.start w).newCells #[.int .i64 n, .slice a es.length c] 24).newCells #[.slice af fl.length cf, .slice ap pot.length cp] 27).newCells #[.slice af2 fl2.length cf2, .slice ap2 pot2.length cp2] 27
  simp only [World.size_alloc] at hs
  by_cases h1 : fewN n es.length = false
  · have HF := Lib.hid h1
    clear h1
    go_enter Try.func5, Try.ntmps5
    go_wp2_with fail
    refine (few_any n a es.length c _ h.le').mono ?_
    rintro en w1 ⟨rfl, hb⟩
    rw [HF.out]
    replace hs := hs.belowStep hb
    clear hb
    (try clear n0 n1 c0 c1 d0 d1)
    have n0 := cell_of (hs.cells 2 rfl) 0
    have n1 := cell_of (hs.cells 2 rfl) 1
    have c0 := cell_of (hs.cells 1 rfl) 0
    have c1 := cell_of (hs.cells 1 rfl) 1
    have d0 := cell_of (hs.cells 0 rfl) 0
    have d1 := cell_of (hs.cells 0 rfl) 1
    simp only [List.getElem?_toArray, List.getElem?_cons_zero, List.getElem?_cons_succ] at n0 n1 c0 c1 d0 d1
    go_wp2_with fail
    refine (works_any _).mono ?_
    rintro en wz ⟨rfl, hb⟩
    go_wp2_with fail
    go_ret
    exact ⟨rfl, (hs.belowStep hb).below⟩
  have HF := Lib.hid (show fewN n es.length = true by simpa using h1)
  clear h1
  by_cases h2 : 300 < fl.length
  · have d2 : decide (300 < (fl.length : Int)) = true := decide_eq_true (by omega)
    go_enter Try.func5, Try.ntmps5
    go_wp2_with fail
    refine (few_any n a es.length c _ h.le').mono ?_
    rintro en w1 ⟨rfl, hb⟩
    rw [HF.out]
    replace hs := hs.belowStep hb
    clear hb
    (try clear n0 n1 c0 c1 d0 d1)
    have n0 := cell_of (hs.cells 2 rfl) 0
    have n1 := cell_of (hs.cells 2 rfl) 1
    have c0 := cell_of (hs.cells 1 rfl) 0
    have c1 := cell_of (hs.cells 1 rfl) 1
    have d0 := cell_of (hs.cells 0 rfl) 0
    have d1 := cell_of (hs.cells 0 rfl) 1
    simp only [List.getElem?_toArray, List.getElem?_cons_zero, List.getElem?_cons_succ] at n0 n1 c0 c1 d0 d1
    go_wp2_with fail
    refine (works_any _).mono ?_
    rintro en wz ⟨rfl, hb⟩
    go_wp2_with fail
    go_ret
    exact ⟨rfl, (hs.belowStep hb).below⟩
  have d2 : decide (300 < (fl.length : Int)) = false := decide_eq_false (by omega)
  by_cases h3 : 100 < pot.length
  · have d3 : decide (100 < (pot.length : Int)) = true := decide_eq_true (by omega)
    go_enter Try.func5, Try.ntmps5
    go_wp2_with fail
    refine (few_any n a es.length c _ h.le').mono ?_
    rintro en w1 ⟨rfl, hb⟩
    rw [HF.out]
    replace hs := hs.belowStep hb
    clear hb
    (try clear n0 n1 c0 c1 d0 d1)
    have n0 := cell_of (hs.cells 2 rfl) 0
    have n1 := cell_of (hs.cells 2 rfl) 1
    have c0 := cell_of (hs.cells 1 rfl) 0
    have c1 := cell_of (hs.cells 1 rfl) 1
    have d0 := cell_of (hs.cells 0 rfl) 0
    have d1 := cell_of (hs.cells 0 rfl) 1
    simp only [List.getElem?_toArray, List.getElem?_cons_zero, List.getElem?_cons_succ] at n0 n1 c0 c1 d0 d1
    go_wp2_with fail
    refine (works_any _).mono ?_
    rintro en wz ⟨rfl, hb⟩
    go_wp2_with fail
    go_ret
    exact ⟨rfl, (hs.belowStep hb).below⟩
  have d3 : decide (100 < (pot.length : Int)) = false := decide_eq_false (by omega)
  by_cases h4 : 300 < fl2.length
  · have d4 : decide (300 < (fl2.length : Int)) = true := decide_eq_true (by omega)
    go_enter Try.func5, Try.ntmps5
    go_wp2_with fail
    refine (few_any n a es.length c _ h.le').mono ?_
    rintro en w1 ⟨rfl, hb⟩
    rw [HF.out]
    replace hs := hs.belowStep hb
    clear hb
    (try clear n0 n1 c0 c1 d0 d1)
    have n0 := cell_of (hs.cells 2 rfl) 0
    have n1 := cell_of (hs.cells 2 rfl) 1
    have c0 := cell_of (hs.cells 1 rfl) 0
    have c1 := cell_of (hs.cells 1 rfl) 1
    have d0 := cell_of (hs.cells 0 rfl) 0
    have d1 := cell_of (hs.cells 0 rfl) 1
    simp only [List.getElem?_toArray, List.getElem?_cons_zero, List.getElem?_cons_succ] at n0 n1 c0 c1 d0 d1
    go_wp2_with fail
    refine (works_any _).mono ?_
    rintro en wz ⟨rfl, hb⟩
    go_wp2_with fail
    go_ret
    exact ⟨rfl, (hs.belowStep hb).below⟩
  have d4 : decide (300 < (fl2.length : Int)) = false := decide_eq_false (by omega)
  by_cases h5 : 100 < pot2.length
  · have d5 : decide (100 < (pot2.length : Int)) = true := decide_eq_true (by omega)
    go_enter Try.func5, Try.ntmps5
    go_wp2_with fail
    refine (few_any n a es.length c _ h.le').mono ?_
    rintro en w1 ⟨rfl, hb⟩
    rw [HF.out]
    replace hs := hs.belowStep hb
    clear hb
    (try clear n0 n1 c0 c1 d0 d1)
    have n0 := cell_of (hs.cells 2 rfl) 0
    have n1 := cell_of (hs.cells 2 rfl) 1
    have c0 := cell_of (hs.cells 1 rfl) 0
    have c1 := cell_of (hs.cells 1 rfl) 1
    have d0 := cell_of (hs.cells 0 rfl) 0
    have d1 := cell_of (hs.cells 0 rfl) 1
    simp only [List.getElem?_toArray, List.getElem?_cons_zero, List.getElem?_cons_succ] at n0 n1 c0 c1 d0 d1
    go_wp2_with fail
    refine (works_any _).mono ?_
    rintro en wz ⟨rfl, hb⟩
    go_wp2_with fail
    go_ret
    exact ⟨rfl, (hs.belowStep hb).below⟩
  have d5 : decide (100 < (pot2.length : Int)) = false := decide_eq_false (by omega)
  have hp100 : pot.length ≤ 100 := by omega
  clear h2 h3 h4 h5
  go_enter Try.func5, Try.ntmps5
  go_wp2_with fail
  refine (few_any n a es.length c _ h.le').mono ?_
  rintro en w1 ⟨rfl, hb⟩
  rw [HF.out]
  replace hs := hs.belowStep hb
  clear hb
  (try clear n0 n1 c0 c1 d0 d1)
  have n0 := cell_of (hs.cells 2 rfl) 0
  have n1 := cell_of (hs.cells 2 rfl) 1
  have c0 := cell_of (hs.cells 1 rfl) 0
  have c1 := cell_of (hs.cells 1 rfl) 1
  have d0 := cell_of (hs.cells 0 rfl) 0
  have d1 := cell_of (hs.cells 0 rfl) 1
  simp only [List.getElem?_toArray, List.getElem?_cons_zero, List.getElem?_cons_succ] at n0 n1 c0 c1 d0 d1
  go_upto_region 4 with fail
  clear n0 n1 c0 c1 d0 d1
  replace hs := (hs.newCells #[.slice af fl.length cf, .slice none 0 0] 27).nilInts .i64 2
  generalize w1.heap.size = mb at hs ⊢
  go_wp2_with fail
  refine wp_loopM [none, none, none, none, none, none, none, none, some 8, none, some 10, none, none, none, none, none, none, none, none, none, none, none, none, none, none, none, none, none, none, none, none, none, none, none, none, none, none, none, none, none, none, none, none, none, none, none, some 46, some 47, some 48, some 49, some 50, some 51, some 52, some 53, some 54, some 55, some 56, some 57, some 58, some 59, some 60, some 61, some 62, some 63, some 64, some 65, some 66, some 67, some 68, some 69, some 70, some 71, some 72, some 73, some 74, some 75, some 76, some 77, some 78, some 79, some 80, none, none, none, none, none, none, none, none, none, none, none, none, none, none, none, none, none, none, none, none, none, none, none, none, none, none, none, none, none, none, none, none, none, none, none, none, none, none, none, none, none, none, none, none, none, none, none, none, none] (fun (r : Nat) (f : Nat → Value) (wr : World) => (fun (v : Value) => ∃ (i : Nat) (vm : Value), v = .int .i64 i ∧ i ≤ pot.length ∧ r = pot.length - i ∧ Hid (∀ j, j < i → -549755813888 ≤ pot.getD j 0 ∧ pot.getD j 0 ≤ 549755813888) ∧ Sep w wr [intsT .i64 2 vm ((moveL pot b).take i), cellsT mb #[.slice af fl.length cf, vm] 27, cellsT (w.heap.size + 1 + 1) #[.slice af2 fl2.length cf2, .slice ap2 pot2.length cp2] 27, cellsT (w.heap.size + 1) #[.slice af fl.length cf, .slice ap pot.length cp] 27, cellsT w.heap.size #[.int .i64 n, .slice a es.length c] 24]) (f 10)) (pot.length) (by kernel_rfl) ?atStart1 ?round1
  case' atStart1 => (try dsimp only [nthV])
  case' round1 =>
    intro gk f wr l hl hrel J1 K1 hJ1 hK1
    (try simp only [mask] at hl)
    generalize f 10 = u10 at hl hrel
    subst hl
    (try dsimp only at hrel)
  case atStart1 => exact ⟨0, _, rfl, Nat.zero_le _, rfl, Lib.hid (fun j hj => by omega), hs⟩
  case round1 =>
    clear hs
    obtain ⟨i, vm, rfl, hi, rfl, HA, hs⟩ := hrel
    by_cases hlt : i < pot.length
    · have hml : ((moveL pot b).take i).length = i := by simp [moveL]; omega
      obtain ⟨am, cm, rfl⟩ := (hs.rdInts 0 rfl).shape
      rw [hml] at hs
      have c1 := cell_of (hs.cells 3 rfl) 1
      have m1 := cell_of (hs.cells 1 rfl) 1
      simp only [List.getElem?_toArray, List.getElem?_cons_zero, List.getElem?_cons_succ] at c1 m1
      obtain ⟨b3, o3, e3, hb3, hc3⟩ := (hs.rd hp).at i hlt
      subst e3
      have hsn := move_snoc (b := b) hlt
      obtain ⟨X, hX⟩ : ∃ X, X = pot.getD i 0 := ⟨_, rfl⟩
      rw [← hX] at hc3 hsn
      have HX := Lib.hid hX
      have HSN := Lib.hid hsn
      have HML := Lib.hid hml
      clear hX hsn hml
      by_cases hx0 : 549755813888 < X
      · have e1 : decide (549755813888 < X) = true := decide_eq_true hx0
        go_wp2_with fail
        refine (works_any _).mono ?_
        rintro en wz ⟨rfl, hb⟩
        go_wp2_with fail
        go_ret
        exact ⟨rfl, (hs.belowStep hb).below⟩
      · have e1 : decide (549755813888 < X) = false := decide_eq_false hx0
        by_cases hx1 : X < -549755813888
        · have e2 : decide (X < -549755813888) = true := decide_eq_true hx1
          go_wp2_with fail
          refine (works_any _).mono ?_
          rintro en wz ⟨rfl, hb⟩
          go_wp2_with fail
          go_ret
          exact ⟨rfl, (hs.belowStep hb).below⟩
        · have e2 : decide (X < -549755813888) = false := decide_eq_false hx1
          have HB2 := Lib.hid (show ∀ j, j < i + 1 → -549755813888 ≤ pot.getD j 0 ∧ pot.getD j 0 ≤ 549755813888 from fun j hj => by
            by_cases hji : j = i
            · subst hji; rw [← HX.out]; omega
            · exact HA.out j (by omega))
          have x0 : -549755813888 ≤ X := by omega
          have x1 : X ≤ 549755813888 := by omega
          clear hx0 hx1
          have hsa := (hs.alloc (.cells #[.int .i64 (X + b)] 2)).drew
          have hBB : (wr.alloc (.cells #[.int .i64 (X + b)] 2)).drew.heap[wr.heap.size]? = some (.cells #[.int .i64 (X + b)] 2 (0, 0)) := heap_alloc_new wr _
          have hCW : (fun W : World => W.cell? ⟨mb, 1, none⟩ = some (.slice am i cm)) wr.drew := m1
          go_wp2_with fail
          refine Mix.region2 13 [1, 1, 0, 0, 0, 0, 0, 0, 0, 0, 2, 2, 0, 2] (fun W : World => W.cell? ⟨mb, 1, none⟩ = some (.slice am i cm)) (by kernel_rfl) (by kernel_rfl) hCW ?_
          simp only [List.zip_cons_cons, List.zip_nil_right, List.take_succ_cons, List.take_zero, List.drop_succ_cons, List.drop_zero]
          (refine Mix.step1 fun K hK => ?_; go_simp; (try (go_bits; try go_simp)); first | ((with_reducible refine hK _ _ ?_); clear hK K) | ((try (simp only [IntWalk.iteOmega]; try go_simp)); (try go_bits); (with_reducible refine hK _ _ ?_); clear hK K))
          (refine Mix.step1 fun K hK => ?_; go_simp; refine ⟨fun W => ?_, hK _ _ ?_⟩; (intro hW1; (try intro hW2); (try intro hW3); (try intro hW4); (try intro hW5); (try intro hW6); (try intro hW7); (try intro hW8); go_simp); clear hK K)
          iterate 8 (refine Mix.step0 fun K hK => ?_; go_simp; (try (go_bits; try go_simp)); first | ((with_reducible refine hK _ _ ?_); clear hK K) | ((try (simp only [IntWalk.iteOmega]; try go_simp)); (try go_bits); (with_reducible refine hK _ _ ?_); clear hK K))
          refine Mix.step2n (by first | rfl | simp [Region.wanted, yielded]) fun K hK => ?_
          go_wp2_with fail
          have hCW := cell_of (hsa.cells 1 rfl) 1
          refine Mix.post_mk (C := (fun W : World => W.cell? ⟨mb, 1, none⟩ = some (.slice am i cm))) (by first | exact hCW | exact HCW.out _) (hK _ _ ?_)
          clear hK K
          refine Mix.step2n (by first | rfl | simp [Region.wanted, yielded]) fun K hK => ?_
          refine wpList_appIntB rfl (.tmp 69) (.tmp 78) 25 rfl 2 i0 _ 8 Try.underlying25 hi0 hz0 hz1 hz2 rfl _ ((moveL pot b).take i) .i64 (X + b) hsa 0 rfl wr.heap.size hBB rfl rfl (by rw [HML.out]; (try simp only [maxLen]); omega) (by rw [HML.out]; omega) ?_
          intro v' w2 hs2 hsh
          obtain ⟨g, cap, rfl⟩ := hsh.out
          rw [← HSN.out] at hs2
          rw [HML.out] at hs2 ⊢
          simp only [List.set_cons_zero] at hs2
          clear hsa hsh hs hBB
          have hCW := cell_of (hs2.cells 1 rfl) 1
          have qf := fun j => frozen_of (hs2.cells 1 rfl) j
          have hCW' := hCW
          simp only [List.getElem?_toArray, List.getElem?_cons_zero, List.getElem?_cons_succ] at hCW'
          go_wp2_with fail
          refine Mix.post_mk (C := (fun W : World => W.cell? ⟨mb, 1, none⟩ = some (.slice am i cm))) (by first | exact hCW | exact HCW.out _) (hK _ _ ?_)
          clear hK K
          iterate 1 (refine Mix.step0 fun K hK => ?_; go_simp; (try (go_bits; try go_simp)); first | ((with_reducible refine hK _ _ ?_); clear hK K) | ((try (simp only [IntWalk.iteOmega]; try go_simp)); (try go_bits); (with_reducible refine hK _ _ ?_); clear hK K))
          refine Mix.done ?_
          refine Mix.step2n (by first | rfl | simp [Region.wanted, yielded]) fun K hK => ?_
          go_wp2_with fail
          have hs3 := hs2.setC 1 rfl 1 (.slice (some ⟨g, 0, none⟩) (i + 1) cap) #[.slice af fl.length cf, .slice (some ⟨g, 0, none⟩) (i + 1) cap] rfl
          simp only [List.set_cons_succ, List.set_cons_zero] at hs3
          clear hs2 qf hCW' hCW m1 c1
          refine Mix.post_mk (C := (fun _ => True)) trivial (hK _ _ ?_)
          clear hK K
          refine Mix.done ?_
          go_wp2_with fail
          refine Round.intro (pot.length - (i + 1)) ?measure2 (by kernel_rfl) (hJ1 _ _ _ ?rel2)
          case' rel2 => (try dsimp only [nthV])
          case measure2 => omega
          case rel2 => exact ⟨i + 1, _, by go_num, hlt, rfl, HB2, hs3⟩
    · obtain rfl : i = pot.length := by omega
      have hmv := move_check (n := n) (es := es) (fl := fl) HA.out ⟨hb1, hb2⟩
      have hmf : (moveL pot b).take pot.length = moveL pot b := List.take_of_length_le (by simp [moveL])
      rw [hmf] at hs
      have hml : (moveL pot b).length = pot.length := by simp [moveL]
      obtain ⟨am, cm, rfl⟩ := (hs.rdInts 0 rfl).shape
      rw [hml] at hs
      obtain ⟨M, hM⟩ : ∃ M, M = moveL pot b := ⟨_, rfl⟩
      rw [← hM] at hs hmv
      obtain ⟨B, hB⟩ : ∃ B, B = checkB n es fl pot := ⟨_, rfl⟩
      rw [← hB] at hmv
      have HMV := Lib.hid hmv
      have HB := Lib.hid hB
      have e1 : (B != B) = false := by simp
      clear hmv hmf hml hM hB
      have n0 := cell_of (hs.cells 4 rfl) 0
      have n1 := cell_of (hs.cells 4 rfl) 1
      have c0 := cell_of (hs.cells 3 rfl) 0
      have c1 := cell_of (hs.cells 3 rfl) 1
      have d0 := cell_of (hs.cells 2 rfl) 0
      have d1 := cell_of (hs.cells 2 rfl) 1
      simp only [List.getElem?_toArray, List.getElem?_cons_zero, List.getElem?_cons_succ] at n0 n1 c0 c1 d0 d1
      have m0 := cell_of (hs.cells 1 rfl) 0
      have m1 := cell_of (hs.cells 1 rfl) 1
      simp only [List.getElem?_toArray, List.getElem?_cons_zero, List.getElem?_cons_succ] at m0 m1
      go_wp2_with fail
      have hCW := (show (fun W : World => W.cell? ⟨w.heap.size, 0, none⟩ = some (.int .i64 n) ∧ W.cell? ⟨w.heap.size, 1, none⟩ = some (.slice a es.length c) ∧ W.cell? ⟨mb, 0, none⟩ = some (.slice af fl.length cf) ∧ W.cell? ⟨mb, 1, none⟩ = some (.slice am pot.length cm)) _ from ⟨n0, n1, m0, m1⟩)
      refine Mix.region [0, 0, 2, 1, 1, 2, 0] (fun W : World => W.cell? ⟨w.heap.size, 0, none⟩ = some (.int .i64 n) ∧ W.cell? ⟨w.heap.size, 1, none⟩ = some (.slice a es.length c) ∧ W.cell? ⟨mb, 0, none⟩ = some (.slice af fl.length cf) ∧ W.cell? ⟨mb, 1, none⟩ = some (.slice am pot.length cm)) (by kernel_rfl) (by kernel_rfl) hCW ?_
      simp only [List.zip_cons_cons, List.zip_nil_right]
      iterate 2 (refine Mix.step0 fun K hK => ?_; go_simp; (try (go_bits; try go_simp)); first | ((with_reducible refine hK _ _ ?_); clear hK K) | ((try (simp only [IntWalk.iteOmega]; try go_simp)); (try go_bits); (with_reducible refine hK _ _ ?_); clear hK K))
      refine Mix.step2n (by first | rfl | simp [Region.wanted, yielded]) fun K hK => ?_
      go_wp2_with fail
      replace hs := hs.drew
      refine (check_any n a c es _ fl _ pot _ (hs.rdG h) (hs.rd hf) (hs.rd hp)).mono ?_
      rintro en w2 ⟨rfl, hb⟩
      rw [← HB.out]
      clear hCW m0 m1
      replace hs := hs.belowStep hb
      clear hb
      (try clear n0 n1 c0 c1 d0 d1)
      have n0 := cell_of (hs.cells 4 rfl) 0
      have n1 := cell_of (hs.cells 4 rfl) 1
      have c0 := cell_of (hs.cells 3 rfl) 0
      have c1 := cell_of (hs.cells 3 rfl) 1
      have d0 := cell_of (hs.cells 2 rfl) 0
      have d1 := cell_of (hs.cells 2 rfl) 1
      simp only [List.getElem?_toArray, List.getElem?_cons_zero, List.getElem?_cons_succ] at n0 n1 c0 c1 d0 d1
      have m0 := cell_of (hs.cells 1 rfl) 0
      have m1 := cell_of (hs.cells 1 rfl) 1
      simp only [List.getElem?_toArray, List.getElem?_cons_zero, List.getElem?_cons_succ] at m0 m1
      have hCW := (show (fun W : World => W.cell? ⟨w.heap.size, 0, none⟩ = some (.int .i64 n) ∧ W.cell? ⟨w.heap.size, 1, none⟩ = some (.slice a es.length c) ∧ W.cell? ⟨mb, 0, none⟩ = some (.slice af fl.length cf) ∧ W.cell? ⟨mb, 1, none⟩ = some (.slice am pot.length cm)) _ from ⟨n0, n1, m0, m1⟩)
      go_wp2_with fail
      refine Mix.post_mk (C := (fun W : World => W.cell? ⟨w.heap.size, 0, none⟩ = some (.int .i64 n) ∧ W.cell? ⟨w.heap.size, 1, none⟩ = some (.slice a es.length c) ∧ W.cell? ⟨mb, 0, none⟩ = some (.slice af fl.length cf) ∧ W.cell? ⟨mb, 1, none⟩ = some (.slice am pot.length cm))) (by first | exact hCW | exact HCW.out _) (hK _ _ ?_)
      clear hK K
      (refine Mix.step1 fun K hK => ?_; go_simp; refine ⟨fun W => ?_, hK _ _ ?_⟩; (intro hW1; (try intro hW2); (try intro hW3); (try intro hW4); (try intro hW5); (try intro hW6); (try intro hW7); (try intro hW8); go_simp); clear hK K)
      (refine Mix.step1 fun K hK => ?_; go_simp; refine ⟨fun W => ?_, hK _ _ ?_⟩; (intro hW1; (try intro hW2); (try intro hW3); (try intro hW4); (try intro hW5); (try intro hW6); (try intro hW7); (try intro hW8); go_simp); clear hK K)
      refine Mix.step2n (by first | rfl | simp [Region.wanted, yielded]) fun K hK => ?_
      go_wp2_with fail
      refine (check_any n a c es _ fl _ M _ (hs.rdG h) (hs.rd hf) (hs.rdInts 0 rfl)).mono ?_
      rintro en w3 ⟨rfl, hb⟩
      rw [HMV.out]
      clear hCW m0 m1
      replace hs := hs.belowStep hb
      clear hb
      (try clear n0 n1 c0 c1 d0 d1)
      have n0 := cell_of (hs.cells 4 rfl) 0
      have n1 := cell_of (hs.cells 4 rfl) 1
      have c0 := cell_of (hs.cells 3 rfl) 0
      have c1 := cell_of (hs.cells 3 rfl) 1
      have d0 := cell_of (hs.cells 2 rfl) 0
      have d1 := cell_of (hs.cells 2 rfl) 1
      simp only [List.getElem?_toArray, List.getElem?_cons_zero, List.getElem?_cons_succ] at n0 n1 c0 c1 d0 d1
      have m0 := cell_of (hs.cells 1 rfl) 0
      have m1 := cell_of (hs.cells 1 rfl) 1
      simp only [List.getElem?_toArray, List.getElem?_cons_zero, List.getElem?_cons_succ] at m0 m1
      have hCW := (show (fun W : World => W.cell? ⟨w.heap.size, 0, none⟩ = some (.int .i64 n) ∧ W.cell? ⟨w.heap.size, 1, none⟩ = some (.slice a es.length c) ∧ W.cell? ⟨mb, 0, none⟩ = some (.slice af fl.length cf) ∧ W.cell? ⟨mb, 1, none⟩ = some (.slice am pot.length cm)) _ from ⟨n0, n1, m0, m1⟩)
      go_wp2_with fail
      refine Mix.post_mk (C := (fun W : World => W.cell? ⟨w.heap.size, 0, none⟩ = some (.int .i64 n) ∧ W.cell? ⟨w.heap.size, 1, none⟩ = some (.slice a es.length c) ∧ W.cell? ⟨mb, 0, none⟩ = some (.slice af fl.length cf) ∧ W.cell? ⟨mb, 1, none⟩ = some (.slice am pot.length cm))) (by first | exact hCW | exact HCW.out _) (hK _ _ ?_)
      clear hK K
      iterate 1 (refine Mix.step0 fun K hK => ?_; go_simp; (try (go_bits; try go_simp)); first | ((with_reducible refine hK _ _ ?_); clear hK K) | ((try (simp only [IntWalk.iteOmega]; try go_simp)); (try go_bits); (with_reducible refine hK _ _ ?_); clear hK K))
      refine Mix.done ?_
      clear hCW m0 m1
      cases hch : checkB n es fl pot
      · have HCH := Lib.hid hch
        clear hch
        go_wp2_with fail
        refine (rcheck_any n a c es _ fl _ pot _ (hs.rdG h) (hs.rd hf) (hs.rd hp)).mono ?_
        rintro en w4 ⟨rfl, hb⟩
        rw [HCH.out]
        replace hs := hs.belowStep hb
        clear hb
        (try clear n0 n1 c0 c1 d0 d1)
        go_wp2_with fail
        refine (works_any _).mono ?_
        rintro en wz ⟨rfl, hb⟩
        go_wp2_with fail
        go_ret
        exact ⟨rfl, (hs.belowStep hb).below⟩
      · cases hcd : checkB n es fl2 pot2
        · have HCH := Lib.hid hch
          have HCD := Lib.hid hcd
          clear hch hcd
          go_wp2_with fail
          refine (rcheck_any n a c es _ fl _ pot _ (hs.rdG h) (hs.rd hf) (hs.rd hp)).mono ?_
          rintro en w4 ⟨rfl, hb⟩
          rw [HCH.out]
          replace hs := hs.belowStep hb
          clear hb
          (try clear n0 n1 c0 c1 d0 d1)
          have n0 := cell_of (hs.cells 4 rfl) 0
          have n1 := cell_of (hs.cells 4 rfl) 1
          have c0 := cell_of (hs.cells 3 rfl) 0
          have c1 := cell_of (hs.cells 3 rfl) 1
          have d0 := cell_of (hs.cells 2 rfl) 0
          have d1 := cell_of (hs.cells 2 rfl) 1
          simp only [List.getElem?_toArray, List.getElem?_cons_zero, List.getElem?_cons_succ] at n0 n1 c0 c1 d0 d1
          go_wp2_with fail
          refine (rcheck_any n a c es _ fl2 _ pot2 _ (hs.rdG h) (hs.rd hf2) (hs.rd hp2)).mono ?_
          rintro en w5 ⟨rfl, hb⟩
          rw [HCD.out]
          replace hs := hs.belowStep hb
          clear hb
          (try clear n0 n1 c0 c1 d0 d1)
          go_wp2_with fail
          refine (works_any _).mono ?_
          rintro en wz ⟨rfl, hb⟩
          go_wp2_with fail
          go_ret
          exact ⟨rfl, (hs.belowStep hb).below⟩
        · have HCH := Lib.hid hch
          have HCD := Lib.hid hcd
          have HG1 := Lib.hid (gap_zero hch hcd)
          have HG2 := Lib.hid (gap_zero hcd hch)
          clear hch hcd
          go_wp2_with fail
          refine (rcheck_any n a c es _ fl _ pot _ (hs.rdG h) (hs.rd hf) (hs.rd hp)).mono ?_
          rintro en w4 ⟨rfl, hb⟩
          rw [HCH.out]
          replace hs := hs.belowStep hb
          clear hb
          (try clear n0 n1 c0 c1 d0 d1)
          have n0 := cell_of (hs.cells 4 rfl) 0
          have n1 := cell_of (hs.cells 4 rfl) 1
          have c0 := cell_of (hs.cells 3 rfl) 0
          have c1 := cell_of (hs.cells 3 rfl) 1
          have d0 := cell_of (hs.cells 2 rfl) 0
          have d1 := cell_of (hs.cells 2 rfl) 1
          simp only [List.getElem?_toArray, List.getElem?_cons_zero, List.getElem?_cons_succ] at n0 n1 c0 c1 d0 d1
          go_wp2_with fail
          refine (rcheck_any n a c es _ fl2 _ pot2 _ (hs.rdG h) (hs.rd hf2) (hs.rd hp2)).mono ?_
          rintro en w5 ⟨rfl, hb⟩
          rw [HCD.out]
          replace hs := hs.belowStep hb
          clear hb
          (try clear n0 n1 c0 c1 d0 d1)
          have n0 := cell_of (hs.cells 4 rfl) 0
          have n1 := cell_of (hs.cells 4 rfl) 1
          have c0 := cell_of (hs.cells 3 rfl) 0
          have c1 := cell_of (hs.cells 3 rfl) 1
          have d0 := cell_of (hs.cells 2 rfl) 0
          have d1 := cell_of (hs.cells 2 rfl) 1
          simp only [List.getElem?_toArray, List.getElem?_cons_zero, List.getElem?_cons_succ] at n0 n1 c0 c1 d0 d1
          go_wp2_with fail
          refine (gap_any n a c es _ fl _ pot _ fl2 _ (hs.rdG h) (hs.rd hf) (hs.rd hp) (hs.rd hf2)).mono ?_
          rintro en w6 ⟨rfl, hb⟩
          rw [HG1.out.1, HG1.out.2]
          replace hs := hs.belowStep hb
          clear hb
          (try clear n0 n1 c0 c1 d0 d1)
          have n0 := cell_of (hs.cells 4 rfl) 0
          have n1 := cell_of (hs.cells 4 rfl) 1
          have c0 := cell_of (hs.cells 3 rfl) 0
          have c1 := cell_of (hs.cells 3 rfl) 1
          have d0 := cell_of (hs.cells 2 rfl) 0
          have d1 := cell_of (hs.cells 2 rfl) 1
          simp only [List.getElem?_toArray, List.getElem?_cons_zero, List.getElem?_cons_succ] at n0 n1 c0 c1 d0 d1
          go_wp2_with fail
          refine (gap_any n a c es _ fl2 _ pot2 _ fl _ (hs.rdG h) (hs.rd hf2) (hs.rd hp2) (hs.rd hf)).mono ?_
          rintro en w7 ⟨rfl, hb⟩
          rw [HG2.out.1, HG2.out.2]
          replace hs := hs.belowStep hb
          clear hb
          (try clear n0 n1 c0 c1 d0 d1)
          go_wp2_with fail
          refine (works_any _).mono ?_
          rintro en wz ⟨rfl, hb⟩
          go_wp2_with fail
          go_ret
          exact ⟨rfl, (hs.belowStep hb).below⟩
end Go.Proofs.Ytlladdkchhndiaa
