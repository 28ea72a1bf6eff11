/-
  The law RestWays, walked.
-/
import Derived.Test.YtmfjfhmoljnnkaaRW6
namespace Go.Proofs.Ytmfjfhmoljnnkaa
open Go Go.RowKit Go.Mem Go.NetP Go.RestP

theorem Try.infoIntc : (Try.prog.info? 3).map (fun i => (i.zero, i.size, i.bytes)) = some (some (.int .i64 0), 1, 8) := by kernel_rfl
set_option maxRecDepth 100000 in
set_option maxHeartbeats 4000000 in
theorem restWays_any (n : Int) (a : Option Addr) (c : Nat) (es : List Ed) (v : Value) (fl : List Int) (va : Value) (arcs : List Int) (by_ : Int) (w : World) (h : RdG edR w (.slice a es.length c) es) (h' : Rd .i64 w v fl) (ha : Rd .i64 w va arcs) :
    Calls Try.prog 4 #[.agg #[.int .i64 n, .slice a es.length c], v, va, .int .i64 by_] w fun e w' => e = .returned (.bool true) ∧ Below w.heap.size w w' := by
  obtain ⟨i0, hi0, hz0, hz1, hz2⟩ := info_parts Try.infoIntc
  have hle := h.le
  have hle2 := ha.le'
  unfold maxLen at hle hle2
  obtain ⟨a', c', rfl⟩ := h'.shape
  obtain ⟨a2, c2, rfl⟩ := ha.shape
  have hs0 := (Sep.start w).newCells #[.int .i64 n, .slice a es.length c] 24
  by_cases hv : 2000 < es.length ∨ 2000 < fl.length
  · have HV := Lib.hid (show (decide (2000 < es.length) || decide (2000 < fl.length)) = true by simpa using hv)
    clear hv
    go_enter Try.func4, Try.ntmps4
    go_wp2_with fail
    refine (vast_any n a c es a' fl.length c' _ hle).mono ?_
    rintro en w1 ⟨rfl, hb⟩
    rw [HV.out]
    replace hs0 := hs0.belowStep hb
    clear hb
    have m0 := cell_of (hs0.cells 0 rfl) 0
    have m1 := cell_of (hs0.cells 0 rfl) 1
    simp only [List.getElem?_toArray, List.getElem?_cons_zero, List.getElem?_cons_succ] at m0 m1
    have N0 := lt_of (hs0.cells 0 rfl)
    replace h := hs0.rdG h
    replace h' := hs0.rd h'
    have FIN := Lib.hid (fun W L (k : Sep w1 W L) => (⟨(k.cell N0).trans m0, (k.cell N0).trans m1⟩ : W.cell? ⟨w.heap.size, 0, none⟩ = some (.int .i64 n) ∧ W.cell? ⟨w.heap.size, 1, none⟩ = some (.slice a es.length c)))
    have HB := Lib.hid (⟨hs0.below, hs0.size⟩ : Below w.heap.size w w1 ∧ w.heap.size ≤ w1.heap.size)
    have hs := Sep.start w1
    clear m0 m1 N0
    (try clear n0 n1)
    obtain ⟨n0, n1⟩ := FIN.out _ _ hs
    go_wp2_with fail
    refine (works_any _).mono ?_
    rintro en wz ⟨rfl, hb⟩
    go_wp2_with fail
    go_ret
    exact ⟨rfl, HB.out.1.trans ((hs.belowStep hb).below.mono HB.out.2)⟩
  · have HV := Lib.hid (show (decide (2000 < es.length) || decide (2000 < fl.length)) = false by simp; omega)
    have hfl : fl.length ≤ 2000 := by omega
    clear hv
    by_cases h3 : 300 < es.length
    · have d1 : decide (300 < (es.length : Int)) = true := by simp; omega
      go_enter Try.func4, Try.ntmps4
      go_wp2_with fail
      refine (vast_any n a c es a' fl.length c' _ hle).mono ?_
      rintro en w1 ⟨rfl, hb⟩
      rw [HV.out]
      replace hs0 := hs0.belowStep hb
      clear hb
      have m0 := cell_of (hs0.cells 0 rfl) 0
      have m1 := cell_of (hs0.cells 0 rfl) 1
      simp only [List.getElem?_toArray, List.getElem?_cons_zero, List.getElem?_cons_succ] at m0 m1
      have N0 := lt_of (hs0.cells 0 rfl)
      replace h := hs0.rdG h
      replace h' := hs0.rd h'
      have FIN := Lib.hid (fun W L (k : Sep w1 W L) => (⟨(k.cell N0).trans m0, (k.cell N0).trans m1⟩ : W.cell? ⟨w.heap.size, 0, none⟩ = some (.int .i64 n) ∧ W.cell? ⟨w.heap.size, 1, none⟩ = some (.slice a es.length c)))
      have HB := Lib.hid (⟨hs0.below, hs0.size⟩ : Below w.heap.size w w1 ∧ w.heap.size ≤ w1.heap.size)
      have hs := Sep.start w1
      clear m0 m1 N0
      (try clear n0 n1)
      obtain ⟨n0, n1⟩ := FIN.out _ _ hs
      go_wp2_with fail
      refine (works_any _).mono ?_
      rintro en wz ⟨rfl, hb⟩
      go_wp2_with fail
      go_ret
      exact ⟨rfl, HB.out.1.trans ((hs.belowStep hb).below.mono HB.out.2)⟩
    · have d1 : decide (300 < (es.length : Int)) = false := by simp; omega
      by_cases hl : 40 < arcs.length
      · have d2 : decide (40 < (arcs.length : Int)) = true := by simp; omega
        go_enter Try.func4, Try.ntmps4
        go_wp2_with fail
        refine (vast_any n a c es a' fl.length c' _ hle).mono ?_
        rintro en w1 ⟨rfl, hb⟩
        rw [HV.out]
        replace hs0 := hs0.belowStep hb
        clear hb
        have m0 := cell_of (hs0.cells 0 rfl) 0
        have m1 := cell_of (hs0.cells 0 rfl) 1
        simp only [List.getElem?_toArray, List.getElem?_cons_zero, List.getElem?_cons_succ] at m0 m1
        have N0 := lt_of (hs0.cells 0 rfl)
        replace h := hs0.rdG h
        replace h' := hs0.rd h'
        have FIN := Lib.hid (fun W L (k : Sep w1 W L) => (⟨(k.cell N0).trans m0, (k.cell N0).trans m1⟩ : W.cell? ⟨w.heap.size, 0, none⟩ = some (.int .i64 n) ∧ W.cell? ⟨w.heap.size, 1, none⟩ = some (.slice a es.length c)))
        have HB := Lib.hid (⟨hs0.below, hs0.size⟩ : Below w.heap.size w w1 ∧ w.heap.size ≤ w1.heap.size)
        have hs := Sep.start w1
        clear m0 m1 N0
        (try clear n0 n1)
        obtain ⟨n0, n1⟩ := FIN.out _ _ hs
        go_wp2_with fail
        refine (works_any _).mono ?_
        rintro en wz ⟨rfl, hb⟩
        go_wp2_with fail
        go_ret
        exact ⟨rfl, HB.out.1.trans ((hs.belowStep hb).below.mono HB.out.2)⟩
      · have d2 : decide (40 < (arcs.length : Int)) = false := by simp; omega
        have he : es.length ≤ 100000 := by omega
        go_enter Try.func4, Try.ntmps4
        go_wp2_with fail
        refine (vast_any n a c es a' fl.length c' _ hle).mono ?_
        rintro en w1 ⟨rfl, hb⟩
        rw [HV.out]
        replace hs0 := hs0.belowStep hb
        clear hb
        have m0 := cell_of (hs0.cells 0 rfl) 0
        have m1 := cell_of (hs0.cells 0 rfl) 1
        simp only [List.getElem?_toArray, List.getElem?_cons_zero, List.getElem?_cons_succ] at m0 m1
        have N0 := lt_of (hs0.cells 0 rfl)
        replace h := hs0.rdG h
        replace h' := hs0.rd h'
        have FIN := Lib.hid (fun W L (k : Sep w1 W L) => (⟨(k.cell N0).trans m0, (k.cell N0).trans m1⟩ : W.cell? ⟨w.heap.size, 0, none⟩ = some (.int .i64 n) ∧ W.cell? ⟨w.heap.size, 1, none⟩ = some (.slice a es.length c)))
        have HB := Lib.hid (⟨hs0.below, hs0.size⟩ : Below w.heap.size w w1 ∧ w.heap.size ≤ w1.heap.size)
        have hs := Sep.start w1
        clear m0 m1 N0
        (try clear n0 n1)
        obtain ⟨n0, n1⟩ := FIN.out _ _ hs
        replace ha := hs0.rd ha
        clear hs0
        go_wp2_with fail
        refine (copied_any _ fl _ (hs.rd h') (by omega)).mono ?_
        rintro en w2 ⟨u2, rfl, k2⟩
        obtain ⟨al, cl, rfl⟩ := (k2.rdInts 0 rfl).shape
        replace hs := hs.join k2
        clear k2
        simp only [List.cons_append, List.nil_append] at hs
        (try clear n0 n1)
        obtain ⟨n0, n1⟩ := FIN.out _ _ hs
        replace hs := hs.litInts .i64 3 [] (by simp [maxLen])
        simp only [List.map_cons, List.map_nil, List.length_cons, List.length_nil, Nat.reduceAdd, World.size_alloc] at hs
        go_wp2_with (at_builtin; refine wpList_appRd rfl (.tmp 33) (.tmp 34) 39 rfl 3 i0 _ 8 Try.underlying39 hi0 hz0 hz1 hz2 rfl _ [] .i64 _ arcs hs 0 rfl (hs.rd ha) rfl rfl ?c3 ?c4 ?grow)
        case c3 => (try simp); (try simp only [maxLen]); (try omega)
        case c4 => (try simp); (try simp only [maxLen]); (try omega)
        case grow =>
          intro vo w4 hs4
          clear hs
          have hs := hs4
          clear hs4
          (try simp only [List.set_cons_zero, List.nil_append] at hs)
          obtain ⟨ao, co, rfl⟩ := (hs.rdInts 0 rfl).shape
          (try clear n0 n1)
          obtain ⟨n0, n1⟩ := FIN.out _ _ hs
          go_wp2_with fail
          refine (along_any n a c es _ fl _ arcs by_ _ (hs.rdG h) (hs.rdInts 1 rfl) (hs.rdInts 0 rfl) he).mono ?_
          rintro en w5 ⟨u5, rfl, k5⟩
          obtain ⟨E, hE⟩ : ∃ E, E = alongE n es fl arcs by_ := ⟨_, rfl⟩
          obtain ⟨V, hV⟩ : ∃ V, V = alongV n es fl arcs by_ := ⟨_, rfl⟩
          rw [← hE]
          rw [← hV] at k5
          have HE := Lib.hid hE
          have HVV := Lib.hid hV
          clear hE hV
          replace hs := hs.join k5
          clear k5
          simp only [List.cons_append, List.nil_append] at hs
          (try clear n0 n1)
          obtain ⟨n0, n1⟩ := FIN.out _ _ hs
          go_wp2_with fail
          refine (ralong_any n a c es _ fl _ arcs by_ _ (hs.rdG h) (hs.rd h') (hs.rd ha) he).mono ?_
          rintro en w6 ⟨u6, rfl, k6, hb⟩
          rw [← HE.out]
          rw [← HVV.out] at k6
          replace hs := hs.belowStep hb
          clear hb
          (try clear n0 n1)
          obtain ⟨n0, n1⟩ := FIN.out _ _ hs
          have hEE : (E != E) = false := by simp
          go_wp2_with fail
          have hCW := (show (fun W : World => W.cell? ⟨w.heap.size, 0, none⟩ = some (.int .i64 n) ∧ W.cell? ⟨w.heap.size, 1, none⟩ = some (.slice a es.length c)) _ from ⟨n0, n1⟩)
          refine Mix.region [0, 0, 2, 0, 0, 0, 0, 0, 0, 0, 0, 0, 0, 2, 1, 1, 1, 2, 0, 0] (fun W : World => W.cell? ⟨w.heap.size, 0, none⟩ = some (.int .i64 n) ∧ W.cell? ⟨w.heap.size, 1, none⟩ = some (.slice a es.length c)) (by kernel_rfl) (by kernel_rfl) hCW ?_
          simp only [List.zip_cons_cons, List.zip_nil_right]
          iterate 2 (refine Mix.step0 fun K hK => ?_; go_simp; (try (go_bits; try go_simp)); first | ((with_reducible refine hK _ _ ?_); clear hK K) | ((try (simp only [IntWalk.iteOmega]; try go_simp)); (try go_bits); (with_reducible refine hK _ _ ?_); clear hK K))
          refine Mix.step2n (by first | rfl | simp [Region.wanted, yielded]) fun K hK => ?_
          go_wp2_with fail
          clear hCW
          replace hs := hs.drew
          replace k6 := (Sep.start w6).drew.rd k6
          refine (rsame_any _ _ V V _ (hs.rdInts 0 rfl) k6).mono ?_
          rintro en wx ⟨rfl, k7⟩
          replace hs := hs.join k7
          clear k7
          simp only [List.cons_append, List.nil_append] at hs
          (try clear n0 n1)
          obtain ⟨n0, n1⟩ := FIN.out _ _ hs
          rw [show decide (V = V) = true by simp]
          clear k6
          have hCW := (show (fun W : World => W.cell? ⟨w.heap.size, 0, none⟩ = some (.int .i64 n) ∧ W.cell? ⟨w.heap.size, 1, none⟩ = some (.slice a es.length c)) _ from ⟨n0, n1⟩)
          go_wp2_with fail
          refine Mix.post_mk (C := (fun W : World => W.cell? ⟨w.heap.size, 0, none⟩ = some (.int .i64 n) ∧ W.cell? ⟨w.heap.size, 1, none⟩ = some (.slice a es.length c))) (by first | exact hCW | exact HCW.out _) (hK _ _ ?_)
          clear hK K
          iterate 2 (refine Mix.step0 fun K hK => ?_; go_simp; (try (go_bits; try go_simp)); first | ((with_reducible refine hK _ _ ?_); clear hK K) | ((try (simp only [IntWalk.iteOmega]; try go_simp)); (try go_bits); (with_reducible refine hK _ _ ?_); clear hK K))
          iterate 3 (first | (refine Mix.stepS rfl fun K hK => ?_; go_simp; (with_reducible refine hK _ _ ?_); clear hK K) | (refine Mix.step0 fun K hK => ?_; go_simp; (try (go_bits; try go_simp)); first | ((with_reducible refine hK _ _ ?_); clear hK K) | ((try (simp only [IntWalk.iteOmega]; try go_simp)); (try go_bits); (with_reducible refine hK _ _ ?_); clear hK K)))
          iterate 2 (refine Mix.step0 fun K hK => ?_; go_simp; (try (go_bits; try go_simp)); first | ((with_reducible refine hK _ _ ?_); clear hK K) | ((try (simp only [IntWalk.iteOmega]; try go_simp)); (try go_bits); (with_reducible refine hK _ _ ?_); clear hK K))
          iterate 3 (first | (refine Mix.stepS rfl fun K hK => ?_; go_simp; (with_reducible refine hK _ _ ?_); clear hK K) | (refine Mix.step0 fun K hK => ?_; go_simp; (try (go_bits; try go_simp)); first | ((with_reducible refine hK _ _ ?_); clear hK K) | ((try (simp only [IntWalk.iteOmega]; try go_simp)); (try go_bits); (with_reducible refine hK _ _ ?_); clear hK K)))
          refine Mix.step2n (by first | rfl | simp [Region.wanted, yielded]) fun K hK => ?_
          go_wp2_with fail
          refine (bottle_any n a c es _ fl _ arcs _ (hs.rdG h) (hs.rdInts 2 rfl) (hs.rdInts 1 rfl) he (by omega)).mono ?_
          rintro en wy ⟨rfl, hb⟩
          clear hCW
          obtain ⟨B, hB⟩ : ∃ B, B = bottleV n es fl arcs := ⟨_, rfl⟩
          rw [← hB]
          have HBV := Lib.hid hB
          clear hB
          have hBB : (B != B) = false := by simp
          replace hs := hs.belowStep hb
          clear hb
          (try clear n0 n1)
          obtain ⟨n0, n1⟩ := FIN.out _ _ hs
          have hCW := (show (fun W : World => W.cell? ⟨w.heap.size, 0, none⟩ = some (.int .i64 n) ∧ W.cell? ⟨w.heap.size, 1, none⟩ = some (.slice a es.length c)) _ from ⟨n0, n1⟩)
          go_wp2_with fail
          refine Mix.post_mk (C := (fun W : World => W.cell? ⟨w.heap.size, 0, none⟩ = some (.int .i64 n) ∧ W.cell? ⟨w.heap.size, 1, none⟩ = some (.slice a es.length c))) (by first | exact hCW | exact HCW.out _) (hK _ _ ?_)
          clear hK K
          (refine Mix.step1 fun K hK => ?_; go_simp; refine ⟨fun W => ?_, hK _ _ ?_⟩; (intro hW1; (try intro hW2); (try intro hW3); (try intro hW4); (try intro hW5); (try intro hW6); (try intro hW7); (try intro hW8); go_simp); clear hK K)
          (refine Mix.step1 fun K hK => ?_; go_simp; (try (go_bits; try go_simp)); first | ((with_reducible refine hK _ _ ?_); clear hK K) | ((try (simp only [IntWalk.iteOmega]; try go_simp)); (try go_bits); (with_reducible refine hK _ _ ?_); clear hK K))
          (refine Mix.step1 fun K hK => ?_; go_simp; (try (go_bits; try go_simp)); first | ((with_reducible refine hK _ _ ?_); clear hK K) | ((try (simp only [IntWalk.iteOmega]; try go_simp)); (try go_bits); (with_reducible refine hK _ _ ?_); clear hK K))
          refine Mix.step2n (by first | rfl | simp [Region.wanted, yielded]) fun K hK => ?_
          go_wp2_with fail
          refine (rbottle_any n a c es _ fl _ arcs _ (hs.rdG h) (hs.rd h') (hs.rd ha) he).mono ?_
          rintro en wv ⟨rfl, hb⟩
          clear hCW
          rw [← HBV.out]
          replace hs := hs.belowStep hb
          clear hb
          (try clear n0 n1)
          obtain ⟨n0, n1⟩ := FIN.out _ _ hs
          have hCW := (show (fun W : World => W.cell? ⟨w.heap.size, 0, none⟩ = some (.int .i64 n) ∧ W.cell? ⟨w.heap.size, 1, none⟩ = some (.slice a es.length c)) _ from ⟨n0, n1⟩)
          go_wp2_with fail
          refine Mix.post_mk (C := (fun W : World => W.cell? ⟨w.heap.size, 0, none⟩ = some (.int .i64 n) ∧ W.cell? ⟨w.heap.size, 1, none⟩ = some (.slice a es.length c))) (by first | exact hCW | exact HCW.out _) (hK _ _ ?_)
          clear hK K
          iterate 1 (first | (refine Mix.stepS rfl fun K hK => ?_; go_simp; (with_reducible refine hK _ _ ?_); clear hK K) | (refine Mix.step0 fun K hK => ?_; go_simp; (try (go_bits; try go_simp)); first | ((with_reducible refine hK _ _ ?_); clear hK K) | ((try (simp only [IntWalk.iteOmega]; try go_simp)); (try go_bits); (with_reducible refine hK _ _ ?_); clear hK K)))
          iterate 1 (refine Mix.step0 fun K hK => ?_; go_simp; (try (go_bits; try go_simp)); first | ((with_reducible refine hK _ _ ?_); clear hK K) | ((try (simp only [IntWalk.iteOmega]; try go_simp)); (try go_bits); (with_reducible refine hK _ _ ?_); clear hK K))
          refine Mix.done ?_
          clear hCW
          replace hs := hs.tail
          go_wp2_with fail
          refine wp_loopM [none, none, none, none, none, none, none, none, some 8, none, none, none, none, none, none, some 15, none, none, none, none, none, none, none, none, none, none, none, none, none, none, none, none, none, none, none, none, none, none, none, none, none, none, none, none, none, none, none, none, none, none, none, none, none, none, none, none, none, none, none, none, none, none, none, none, none, none, none, none, none, none, none, none, some 72, some 73, some 74, some 75, some 76, some 77, some 78, some 79, some 80, some 81, some 82, some 83, some 84, some 85, some 86, none, none, none, none, none, none] (fun (r : Nat) (f : Nat → Value) (wr : World) => (fun (v : Value) => ∃ (i : Nat), v = .int .i64 i ∧ i ≤ arcs.length ∧ r = arcs.length - i ∧ Sep w1 wr [intsT .i64 3 (.slice ao arcs.length co) arcs, intsT .i64 2 (.slice al fl.length cl) fl]) (f 15)) (arcs.length) (by kernel_rfl) ?atStart1 ?round1
          case' atStart1 => (try dsimp only [nthV])
          case' round1 =>
            intro gk f wr l hl hrel J1 K1 hJ1 hK1
            (try simp only [mask] at hl)
            generalize f 15 = u15 at hl hrel
            subst hl
            (try dsimp only at hrel)
          case atStart1 => exact ⟨0, rfl, Nat.zero_le _, rfl, hs⟩
          case round1 =>
            clear hs n0 n1
            obtain ⟨i, rfl, hi, rfl, hs⟩ := hrel
            by_cases hlt : i < arcs.length
            · obtain ⟨b1, o1, e1, hb1, hc1⟩ := (hs.rdInts 0 rfl).at i hlt
              obtain ⟨b2, o2, e2, hb2, hc2⟩ := (hs.rd ha).at i hlt
              subst e1
              subst e2
              go_wp2_with fail
              refine Mix.region [0, 0, 0, 0, 0, 0, 0, 0, 0] (fun _ => True) (by kernel_rfl) (by kernel_rfl) trivial ?_
              simp only [List.zip_cons_cons, List.zip_nil_right]
              iterate 9 (refine Mix.step0 fun K hK => ?_; go_simp; (try (go_bits; try go_simp)); first | ((with_reducible refine hK _ _ ?_); clear hK K) | ((try (simp only [IntWalk.iteOmega]; try go_simp)); (try go_bits); (with_reducible refine hK _ _ ?_); clear hK K))
              refine Mix.done ?_
              go_wp2_with fail
              refine Round.intro (arcs.length - (i + 1)) ?measure2 (by kernel_rfl) (hJ1 _ _ _ ?rel2)
              case' rel2 => (try dsimp only [nthV])
              case measure2 => omega
              case rel2 => exact ⟨i + 1, by go_num, hlt, rfl, hs.drew⟩
            · obtain rfl : i = arcs.length := by omega
              go_wp2_with fail
              refine (rsame_any _ _ fl fl _ (hs.rdInts 1 rfl) (hs.rd h')).mono ?_
              rintro en wx ⟨rfl, k7⟩
              replace hs := hs.join k7
              rw [show decide (fl = fl) = true by simp]
              go_wp2_with fail
              refine (works_any _).mono ?_
              rintro en wz ⟨rfl, hb⟩
              go_wp2_with fail
              go_ret
              exact ⟨rfl, HB.out.1.trans ((hs.belowStep hb).below.mono HB.out.2)⟩
end Go.Proofs.Ytmfjfhmoljnnkaa
