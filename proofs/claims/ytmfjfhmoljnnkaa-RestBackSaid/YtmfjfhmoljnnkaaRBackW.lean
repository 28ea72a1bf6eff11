/-
  The law RestBack, walked.
-/
import Derived.Test.YtmfjfhmoljnnkaaRW6
import Derived.Test.YtmfjfhmoljnnkaaRPlain4
namespace Go.Proofs.Ytmfjfhmoljnnkaa
open Go Go.RowKit Go.Mem Go.NetP Go.RestP

set_option maxRecDepth 100000 in
set_option maxHeartbeats 4000000 in
theorem restBack_any (n : Int) (a : Option Addr) (c : Nat) (es : List Ed) (v : Value) (fl : List Int) (arc b : Int) (w : World) (h : RdG edR w (.slice a es.length c) es) (h' : Rd .i64 w v fl) :
    Calls Try.prog 5 #[.agg #[.int .i64 n, .slice a es.length c], v, .int .i64 arc, .int .i64 b] w fun e w' => e = .returned (.bool true) ∧ Below w.heap.size w w' := by
  have hle := h.le
  unfold maxLen at hle
  obtain ⟨a', c', rfl⟩ := h'.shape
  have hs0 := (Sep.start w).newCells #[.int .i64 n, .slice a es.length c] 24
  by_cases hv : 2000 < es.length ∨ 2000 < fl.length
  · have HV := Lib.hid (show (decide (2000 < es.length) || decide (2000 < fl.length)) = true by simpa using hv)
    clear hv
    go_enter Try.func5, Try.ntmps5
    go_wp2_with fail
    refine (vast_any n a c es a' fl.length c' _ hle).mono ?_
    rintro en w1 ⟨rfl, hb⟩
    rw [HV.out]
    replace hs0 := hs0.belowStep hb
    clear hb
    have m0 := cell_of (hs0.cells 0 rfl) 0
    have m1 := cell_of (hs0.cells 0 rfl) 1
    simp only [List.getElem?_toArray, List.getElem?_cons_zero, List.getElem?_cons_succ] at m0 m1
    have N0 := lt_of (hs0.cells 0 rfl)
    replace h := hs0.rdG h
    replace h' := hs0.rd h'
    have FIN := Lib.hid (fun W L (k : Sep w1 W L) => (⟨(k.cell N0).trans m0, (k.cell N0).trans m1⟩ : W.cell? ⟨w.heap.size, 0, none⟩ = some (.int .i64 n) ∧ W.cell? ⟨w.heap.size, 1, none⟩ = some (.slice a es.length c)))
    have HB := Lib.hid (⟨hs0.below, hs0.size⟩ : Below w.heap.size w w1 ∧ w.heap.size ≤ w1.heap.size)
    have hs := Sep.start w1
    clear m0 m1 N0
    (try clear hCW); (try clear n0 n1)
    obtain ⟨n0, n1⟩ := FIN.out _ _ hs
    go_wp2_with fail
    refine (works_any _).mono ?_
    rintro en wz ⟨rfl, hb⟩
    go_wp2_with fail
    go_ret
    exact ⟨rfl, HB.out.1.trans ((hs.belowStep hb).below.mono HB.out.2)⟩
  · have HV := Lib.hid (show (decide (2000 < es.length) || decide (2000 < fl.length)) = false by simp; omega)
    have hfl : fl.length ≤ 2000 := by omega
    have he : es.length ≤ 100000 := by omega
    clear hv
    cases hw : withinB n es fl
    · have HW := Lib.hid hw
      clear hw
      go_enter Try.func5, Try.ntmps5
      go_wp2_with fail
      refine (vast_any n a c es a' fl.length c' _ hle).mono ?_
      rintro en w1 ⟨rfl, hb⟩
      rw [HV.out]
      replace hs0 := hs0.belowStep hb
      clear hb
      have m0 := cell_of (hs0.cells 0 rfl) 0
      have m1 := cell_of (hs0.cells 0 rfl) 1
      simp only [List.getElem?_toArray, List.getElem?_cons_zero, List.getElem?_cons_succ] at m0 m1
      have N0 := lt_of (hs0.cells 0 rfl)
      replace h := hs0.rdG h
      replace h' := hs0.rd h'
      have FIN := Lib.hid (fun W L (k : Sep w1 W L) => (⟨(k.cell N0).trans m0, (k.cell N0).trans m1⟩ : W.cell? ⟨w.heap.size, 0, none⟩ = some (.int .i64 n) ∧ W.cell? ⟨w.heap.size, 1, none⟩ = some (.slice a es.length c)))
      have HB := Lib.hid (⟨hs0.below, hs0.size⟩ : Below w.heap.size w w1 ∧ w.heap.size ≤ w1.heap.size)
      have hs := Sep.start w1
      clear m0 m1 N0
      (try clear hCW); (try clear n0 n1)
      obtain ⟨n0, n1⟩ := FIN.out _ _ hs
      clear hs0
      go_wp2_with fail
      refine (within_any n a c es _ fl _ (hs.rdG h) (hs.rd h')).mono ?_
      rintro en w2 ⟨rfl, hb⟩
      rw [HW.out]
      replace hs := hs.belowStep hb
      clear hb
      (try clear hCW); (try clear n0 n1)
      obtain ⟨n0, n1⟩ := FIN.out _ _ hs
      go_wp2_with fail
      refine (works_any _).mono ?_
      rintro en wz ⟨rfl, hb⟩
      go_wp2_with fail
      go_ret
      exact ⟨rfl, HB.out.1.trans ((hs.belowStep hb).below.mono HB.out.2)⟩
    · have HW := Lib.hid hw
      clear hw
      by_cases ha0 : arc < 0
      · go_enter Try.func5, Try.ntmps5
        go_wp2_with fail
        refine (vast_any n a c es a' fl.length c' _ hle).mono ?_
        rintro en w1 ⟨rfl, hb⟩
        rw [HV.out]
        replace hs0 := hs0.belowStep hb
        clear hb
        have m0 := cell_of (hs0.cells 0 rfl) 0
        have m1 := cell_of (hs0.cells 0 rfl) 1
        simp only [List.getElem?_toArray, List.getElem?_cons_zero, List.getElem?_cons_succ] at m0 m1
        have N0 := lt_of (hs0.cells 0 rfl)
        replace h := hs0.rdG h
        replace h' := hs0.rd h'
        have FIN := Lib.hid (fun W L (k : Sep w1 W L) => (⟨(k.cell N0).trans m0, (k.cell N0).trans m1⟩ : W.cell? ⟨w.heap.size, 0, none⟩ = some (.int .i64 n) ∧ W.cell? ⟨w.heap.size, 1, none⟩ = some (.slice a es.length c)))
        have HB := Lib.hid (⟨hs0.below, hs0.size⟩ : Below w.heap.size w w1 ∧ w.heap.size ≤ w1.heap.size)
        have hs := Sep.start w1
        clear m0 m1 N0
        (try clear hCW); (try clear n0 n1)
        obtain ⟨n0, n1⟩ := FIN.out _ _ hs
        clear hs0
        go_wp2_with fail
        refine (within_any n a c es _ fl _ (hs.rdG h) (hs.rd h')).mono ?_
        rintro en w2 ⟨rfl, hb⟩
        rw [HW.out]
        replace hs := hs.belowStep hb
        clear hb
        (try clear hCW); (try clear n0 n1)
        obtain ⟨n0, n1⟩ := FIN.out _ _ hs
        go_wp2_with fail
        refine (works_any _).mono ?_
        rintro en wz ⟨rfl, hb⟩
        go_wp2_with fail
        go_ret
        exact ⟨rfl, HB.out.1.trans ((hs.belowStep hb).below.mono HB.out.2)⟩
      · by_cases ha1 : 2 * (es.length : Int) ≤ arc
        · go_enter Try.func5, Try.ntmps5
          go_wp2_with fail
          refine (vast_any n a c es a' fl.length c' _ hle).mono ?_
          rintro en w1 ⟨rfl, hb⟩
          rw [HV.out]
          replace hs0 := hs0.belowStep hb
          clear hb
          have m0 := cell_of (hs0.cells 0 rfl) 0
          have m1 := cell_of (hs0.cells 0 rfl) 1
          simp only [List.getElem?_toArray, List.getElem?_cons_zero, List.getElem?_cons_succ] at m0 m1
          have N0 := lt_of (hs0.cells 0 rfl)
          replace h := hs0.rdG h
          replace h' := hs0.rd h'
          have FIN := Lib.hid (fun W L (k : Sep w1 W L) => (⟨(k.cell N0).trans m0, (k.cell N0).trans m1⟩ : W.cell? ⟨w.heap.size, 0, none⟩ = some (.int .i64 n) ∧ W.cell? ⟨w.heap.size, 1, none⟩ = some (.slice a es.length c)))
          have HB := Lib.hid (⟨hs0.below, hs0.size⟩ : Below w.heap.size w w1 ∧ w.heap.size ≤ w1.heap.size)
          have hs := Sep.start w1
          clear m0 m1 N0
          (try clear hCW); (try clear n0 n1)
          obtain ⟨n0, n1⟩ := FIN.out _ _ hs
          clear hs0
          go_wp2_with fail
          refine (within_any n a c es _ fl _ (hs.rdG h) (hs.rd h')).mono ?_
          rintro en w2 ⟨rfl, hb⟩
          rw [HW.out]
          replace hs := hs.belowStep hb
          clear hb
          (try clear hCW); (try clear n0 n1)
          obtain ⟨n0, n1⟩ := FIN.out _ _ hs
          go_wp2_with fail
          refine (works_any _).mono ?_
          rintro en wz ⟨rfl, hb⟩
          go_wp2_with fail
          go_ret
          exact ⟨rfl, HB.out.1.trans ((hs.belowStep hb).below.mono HB.out.2)⟩
        · obtain ⟨I, rfl⟩ : ∃ I : Nat, arc = I := ⟨arc.toNat, by omega⟩
          have hI : hasB es.length I = true := by rw [hasB_iff]; omega
          have HH := Lib.hid hI
          have hI2 : I < 2 * es.length := by omega
          have hI3 : ¬ 2 * (es.length : Int) ≤ (I : Int) := by omega
          have hh := has_half hI
          clear hI ha0 ha1
          have hx1 := xor1_i64 I (by omega)
          obtain ⟨J, hJf⟩ : ∃ J, J = Mem.flip I := ⟨_, rfl⟩
          rw [← hJf] at hx1
          have HJ := Lib.hid hJf
          clear hJf
          have HHJ := Lib.hid (show hasB es.length J = true by rw [HJ.out]; exact flip_has HH.out)
          obtain ⟨b1, o1, e1, hb1, hc1⟩ := h.at (I / 2) hh
          subst e1
          have x2 := hc1 2 (by decide)
          simp only [edR, Nat.add_zero, List.getElem?_toArray, List.getElem?_cons_zero, List.getElem?_cons_succ] at x2
          obtain ⟨Q, hQ⟩ : ∃ Q, Q = es[I / 2].c := ⟨_, rfl⟩
          rw [← hQ] at x2
          clear hc1
          have hsum := room_both es fl I
          rw [edAt_of hh, ← hQ, ← HJ.out] at hsum
          obtain ⟨R, hR⟩ : ∃ R, R = roomE es fl I := ⟨_, rfl⟩
          obtain ⟨RJ, hRJ⟩ : ∃ R, R = roomE es fl J := ⟨_, rfl⟩
          have hr0 := room_bound HW.out HH.out
          have hr1 := room_bound HW.out HHJ.out
          rw [← hR] at hr0 hsum
          rw [← hRJ] at hr1 hsum
          have HR := Lib.hid (show roomV n es fl I = R by rw [hR]; exact room_in HW.out HH.out)
          have HRJ := Lib.hid (show roomV n es fl J = RJ by rw [hRJ]; exact room_in HW.out HHJ.out)
          have HRE := Lib.hid hR
          have hQ2 : (R + RJ != Q) = false := by simp [hsum]
          clear hQ hR hRJ hsum
          obtain ⟨hr00, hr01⟩ := hr0
          obtain ⟨hr10, hr11⟩ := hr1
          obtain ⟨F, hF⟩ : ∃ x, x = (endsE es I).1 := ⟨_, rfl⟩
          obtain ⟨T, hT⟩ : ∃ x, x = (endsE es I).2.1 := ⟨_, rfl⟩
          obtain ⟨K, hK⟩ : ∃ x, x = (endsE es I).2.2 := ⟨_, rfl⟩
          have hk := cost_bound HW.out HH.out
          rw [← hK] at hk
          obtain ⟨hk0, hk1⟩ := hk
          have HE := Lib.hid (show endsV n es I = (F, T, K) by rw [ends_in HW.out HH.out, hF, hT, hK])
          have HEJ := Lib.hid (show endsV n es J = (T, F, -K) by rw [ends_in HW.out HHJ.out, HJ.out, ends_flip, ← hF, ← hT, ← hK])
          clear hF hT hK
          have f0 : (T != T) = false := by simp
          have f1 : (F != F) = false := by simp
          have f2 : (-K != -K) = false := by simp
          go_enter Try.func5, Try.ntmps5
          go_wp2_with fail
          refine (vast_any n (some ⟨b1, o1, none⟩) c es a' fl.length c' _ hle).mono ?_
          rintro en w1 ⟨rfl, hb⟩
          rw [HV.out]
          replace hs0 := hs0.belowStep hb
          clear hb
          have m0 := cell_of (hs0.cells 0 rfl) 0
          have m1 := cell_of (hs0.cells 0 rfl) 1
          simp only [List.getElem?_toArray, List.getElem?_cons_zero, List.getElem?_cons_succ] at m0 m1
          have N0 := lt_of (hs0.cells 0 rfl)
          replace h := hs0.rdG h
          replace h' := hs0.rd h'
          have FIN := Lib.hid (fun W L (k : Sep w1 W L) => (⟨(k.cell N0).trans m0, (k.cell N0).trans m1⟩ : W.cell? ⟨w.heap.size, 0, none⟩ = some (.int .i64 n) ∧ W.cell? ⟨w.heap.size, 1, none⟩ = some (.slice (some ⟨b1, o1, none⟩) es.length c)))
          have HB := Lib.hid (⟨hs0.below, hs0.size⟩ : Below w.heap.size w w1 ∧ w.heap.size ≤ w1.heap.size)
          have hs := Sep.start w1
          clear m0 m1 N0
          (try clear hCW); (try clear n0 n1)
          obtain ⟨n0, n1⟩ := FIN.out _ _ hs
          have X2 := Lib.hid (fun W L (k : Sep w1 W L) => (k.cell (Nat.lt_of_lt_of_le hb1 HB.out.2)).trans ((hs0.cell hb1).trans x2))
          clear x2 hs0
          go_wp2_with fail
          refine (within_any n _ c es _ fl _ (hs.rdG h) (hs.rd h')).mono ?_
          rintro en w2 ⟨rfl, hb⟩
          rw [HW.out]
          replace hs := hs.belowStep hb
          clear hb
          (try clear hCW); (try clear n0 n1)
          obtain ⟨n0, n1⟩ := FIN.out _ _ hs
          go_wp2_with fail
          refine (endsX_any n _ c es I _ (hs.rdG h) he).mono ?_
          rintro en w3 ⟨rfl, hb⟩
          rw [HE.out]
          replace hs := hs.belowStep hb
          clear hb
          (try clear hCW); (try clear n0 n1)
          obtain ⟨n0, n1⟩ := FIN.out _ _ hs
          go_wp2_with fail
          refine (endsX_any n _ c es J _ (hs.rdG h) he).mono ?_
          rintro en w4 ⟨rfl, hb⟩
          rw [HEJ.out]
          replace hs := hs.belowStep hb
          clear hb
          (try clear hCW); (try clear n0 n1)
          obtain ⟨n0, n1⟩ := FIN.out _ _ hs
          go_wp2_with fail
          refine (roomX_any n _ c es _ fl I _ (hs.rdG h) (hs.rd h') he).mono ?_
          rintro en w5 ⟨rfl, hb⟩
          rw [HR.out]
          replace hs := hs.belowStep hb
          clear hb
          (try clear hCW); (try clear n0 n1)
          obtain ⟨n0, n1⟩ := FIN.out _ _ hs
          go_wp2_with fail
          have x2 := X2.out _ _ hs
          have hCW := (show (fun W : World => W.cell? ⟨w.heap.size, 0, none⟩ = some (.int .i64 n) ∧ W.cell? ⟨w.heap.size, 1, none⟩ = some (.slice (some ⟨b1, o1, none⟩) es.length c) ∧ W.cell? ⟨b1, o1 + I / 2 * 4 + 2, none⟩ = some (.int .i64 Q)) _ from ⟨n0, n1, x2⟩)
          refine Mix.region [0, 0, 0, 0, 0, 0, 0, 0, 0, 0, 0, 0, 0, 0, 0, 1, 0, 0, 0, 2, 0, 1, 1, 1, 1, 1, 1, 1, 0, 0] (fun W : World => W.cell? ⟨w.heap.size, 0, none⟩ = some (.int .i64 n) ∧ W.cell? ⟨w.heap.size, 1, none⟩ = some (.slice (some ⟨b1, o1, none⟩) es.length c) ∧ W.cell? ⟨b1, o1 + I / 2 * 4 + 2, none⟩ = some (.int .i64 Q)) (by kernel_rfl) (by kernel_rfl) hCW ?_
          simp only [List.zip_cons_cons, List.zip_nil_right]
          iterate 4 (refine Mix.step0 fun K hK => ?_; go_simp; (try (go_bits; try go_simp)); first | ((with_reducible refine hK _ _ ?_); clear hK K) | ((try (simp only [IntWalk.iteOmega]; try go_simp)); (try go_bits); (with_reducible refine hK _ _ ?_); clear hK K))
          iterate 3 (first | (refine Mix.stepS rfl fun K hK => ?_; go_simp; (with_reducible refine hK _ _ ?_); clear hK K) | (refine Mix.step0 fun K hK => ?_; go_simp; (try (go_bits; try go_simp)); first | ((with_reducible refine hK _ _ ?_); clear hK K) | ((try (simp only [IntWalk.iteOmega]; try go_simp)); (try go_bits); (with_reducible refine hK _ _ ?_); clear hK K)))
          iterate 2 (refine Mix.step0 fun K hK => ?_; go_simp; (try (go_bits; try go_simp)); first | ((with_reducible refine hK _ _ ?_); clear hK K) | ((try (simp only [IntWalk.iteOmega]; try go_simp)); (try go_bits); (with_reducible refine hK _ _ ?_); clear hK K))
          iterate 4 (first | (refine Mix.stepS rfl fun K hK => ?_; go_simp; (with_reducible refine hK _ _ ?_); clear hK K) | (refine Mix.step0 fun K hK => ?_; go_simp; (try (go_bits; try go_simp)); first | ((with_reducible refine hK _ _ ?_); clear hK K) | ((try (simp only [IntWalk.iteOmega]; try go_simp)); (try go_bits); (with_reducible refine hK _ _ ?_); clear hK K)))
          iterate 2 (refine Mix.step0 fun K hK => ?_; go_simp; (try (go_bits; try go_simp)); first | ((with_reducible refine hK _ _ ?_); clear hK K) | ((try (simp only [IntWalk.iteOmega]; try go_simp)); (try go_bits); (with_reducible refine hK _ _ ?_); clear hK K))
          (refine Mix.step1 fun K hK => ?_; go_simp; (try (go_bits; try go_simp)); first | ((with_reducible refine hK _ _ ?_); clear hK K) | ((try (simp only [IntWalk.iteOmega]; try go_simp)); (try go_bits); (with_reducible refine hK _ _ ?_); clear hK K))
          iterate 3 (first | (refine Mix.stepS rfl fun K hK => ?_; go_simp; (with_reducible refine hK _ _ ?_); clear hK K) | (refine Mix.step0 fun K hK => ?_; go_simp; (try (go_bits; try go_simp)); first | ((with_reducible refine hK _ _ ?_); clear hK K) | ((try (simp only [IntWalk.iteOmega]; try go_simp)); (try go_bits); (with_reducible refine hK _ _ ?_); clear hK K)))
          refine Mix.step2n (by first | rfl | simp [Region.wanted, yielded]) fun K hK => ?_
          go_wp2_with fail
          replace hs := hs.drew
          refine (roomX_any n _ c es _ fl J _ (hs.rdG h) (hs.rd h') he).mono ?_
          rintro en w6 ⟨rfl, hb⟩
          rw [HRJ.out]
          clear hCW x2
          replace hs := hs.belowStep hb
          clear hb
          (try clear hCW); (try clear n0 n1)
          obtain ⟨n0, n1⟩ := FIN.out _ _ hs
          have x2 := X2.out _ _ hs
          have hCW := (show (fun W : World => W.cell? ⟨w.heap.size, 0, none⟩ = some (.int .i64 n) ∧ W.cell? ⟨w.heap.size, 1, none⟩ = some (.slice (some ⟨b1, o1, none⟩) es.length c) ∧ W.cell? ⟨b1, o1 + I / 2 * 4 + 2, none⟩ = some (.int .i64 Q)) _ from ⟨n0, n1, x2⟩)
          go_wp2_with fail
          refine Mix.post_mk (C := (fun W : World => W.cell? ⟨w.heap.size, 0, none⟩ = some (.int .i64 n) ∧ W.cell? ⟨w.heap.size, 1, none⟩ = some (.slice (some ⟨b1, o1, none⟩) es.length c) ∧ W.cell? ⟨b1, o1 + I / 2 * 4 + 2, none⟩ = some (.int .i64 Q))) (by first | exact hCW | exact HCW.out _) (hK _ _ ?_)
          clear hK K
          iterate 1 (first | (refine Mix.stepS rfl fun K hK => ?_; go_simp; (with_reducible refine hK _ _ ?_); clear hK K) | (refine Mix.step0 fun K hK => ?_; go_simp; (try (go_bits; try go_simp)); first | ((with_reducible refine hK _ _ ?_); clear hK K) | ((try (simp only [IntWalk.iteOmega]; try go_simp)); (try go_bits); (with_reducible refine hK _ _ ?_); clear hK K)))
          (refine Mix.step1 fun K hK => ?_; go_simp; (try (go_bits; try go_simp)); first | ((with_reducible refine hK _ _ ?_); clear hK K) | ((try (simp only [IntWalk.iteOmega]; try go_simp)); (try go_bits); (with_reducible refine hK _ _ ?_); clear hK K))
          (refine Mix.step1 fun K hK => ?_; go_simp; refine ⟨fun W => ?_, hK _ _ ?_⟩; (intro hW1; (try intro hW2); (try intro hW3); (try intro hW4); (try intro hW5); (try intro hW6); (try intro hW7); (try intro hW8); go_simp); clear hK K)
          (refine Mix.step1 fun K hK => ?_; go_simp; (try (go_bits; try go_simp)); first | ((with_reducible refine hK _ _ ?_); clear hK K) | ((try (simp only [IntWalk.iteOmega]; try go_simp)); (try go_bits); (with_reducible refine hK _ _ ?_); clear hK K))
          (refine Mix.step1 fun K hK => ?_; go_simp; (try (go_bits; try go_simp)); first | ((with_reducible refine hK _ _ ?_); clear hK K) | ((try (simp only [IntWalk.iteOmega]; try go_simp)); (try go_bits); (with_reducible refine hK _ _ ?_); clear hK K))
          (refine Mix.step1 fun K hK => ?_; go_simp; (try (go_bits; try go_simp)); first | ((with_reducible refine hK _ _ ?_); clear hK K) | ((try (simp only [IntWalk.iteOmega]; try go_simp)); (try go_bits); (with_reducible refine hK _ _ ?_); clear hK K))
          (refine Mix.step1 fun K hK => ?_; go_simp; (try (go_bits; try go_simp)); first | ((with_reducible refine hK _ _ ?_); clear hK K) | ((try (simp only [IntWalk.iteOmega]; try go_simp)); (try go_bits); (with_reducible refine hK _ _ ?_); clear hK K))
          (refine Mix.step1 fun K hK => ?_; go_simp; refine ⟨fun W => ?_, hK _ _ ?_⟩; (intro hW1; (try intro hW2); (try intro hW3); (try intro hW4); (try intro hW5); (try intro hW6); (try intro hW7); (try intro hW8); go_simp); clear hK K)
          iterate 1 (first | (refine Mix.stepS rfl fun K hK => ?_; go_simp; (with_reducible refine hK _ _ ?_); clear hK K) | (refine Mix.step0 fun K hK => ?_; go_simp; (try (go_bits; try go_simp)); first | ((with_reducible refine hK _ _ ?_); clear hK K) | ((try (simp only [IntWalk.iteOmega]; try go_simp)); (try go_bits); (with_reducible refine hK _ _ ?_); clear hK K)))
          iterate 1 (refine Mix.step0 fun K hK => ?_; go_simp; (try (go_bits; try go_simp)); first | ((with_reducible refine hK _ _ ?_); clear hK K) | ((try (simp only [IntWalk.iteOmega]; try go_simp)); (try go_bits); (with_reducible refine hK _ _ ?_); clear hK K))
          refine Mix.done ?_
          clear hCW x2
          by_cases hb0 : b < 0
          · have HP := Lib.hid (pushE_no (n := n) (es := es) (fl := fl) (a := I) (b := b) (.inl hb0))
            go_wp2_with fail
            refine (pushX_any n _ c es _ fl I b _ (hs.rdG h) (hs.rd h') he).mono ?_
            rintro en w7 ⟨u, rfl, k7⟩
            rw [HP.out.1]
            rw [HP.out.2] at k7
            replace hs := hs.join k7
            clear k7
            simp only [List.cons_append, List.nil_append] at hs
            (try clear hCW); (try clear n0 n1)
            obtain ⟨n0, n1⟩ := FIN.out _ _ hs
            obtain ⟨au, cu, rfl⟩ := (hs.rdInts 0 rfl).shape
            simp only [List.length_nil] at *
            go_wp2_with fail
            refine (works_any _).mono ?_
            rintro en wz ⟨rfl, hb⟩
            go_wp2_with fail
            go_ret
            exact ⟨rfl, HB.out.1.trans ((hs.belowStep hb).below.mono HB.out.2)⟩
          · by_cases hb2 : R < b
            · have HP := Lib.hid (pushE_full (n := n) (es := es) (fl := fl) (a := I) (b := b) (by omega) HH.out HW.out (by rw [Int.toNat_natCast, ← HRE.out]; exact hb2))
              go_wp2_with fail
              refine (pushX_any n _ c es _ fl I b _ (hs.rdG h) (hs.rd h') he).mono ?_
              rintro en w7 ⟨u, rfl, k7⟩
              rw [HP.out.1]
              rw [HP.out.2] at k7
              replace hs := hs.join k7
              clear k7
              simp only [List.cons_append, List.nil_append] at hs
              (try clear hCW); (try clear n0 n1)
              obtain ⟨n0, n1⟩ := FIN.out _ _ hs
              obtain ⟨au, cu, rfl⟩ := (hs.rdInts 0 rfl).shape
              simp only [List.length_nil] at *
              go_wp2_with fail
              refine (works_any _).mono ?_
              rintro en wz ⟨rfl, hb⟩
              go_wp2_with fail
              go_ret
              exact ⟨rfl, HB.out.1.trans ((hs.belowStep hb).below.mono HB.out.2)⟩
            · have HP := Lib.hid (pushE_ok (n := n) (es := es) (fl := fl) (a := I) (b := b) (by omega) HH.out HW.out (by rw [Int.toNat_natCast, ← HRE.out]; omega))
              have HBK := Lib.hid (back_ok (n := n) (es := es) (fl := fl) (a := I) (b := b) HW.out HH.out (by omega) (by rw [← HRE.out]; omega))
              have HWP := Lib.hid (push_within (n := n) (es := es) (fl := fl) (a := I) (b := b) HW.out HH.out (by omega) (by rw [← HRE.out]; omega))
              have HRP := Lib.hid (show roomV n es (pushL fl I b) I = R - b by rw [room_in HWP.out HH.out, HRE.out]; exact room_push (by have := (within_cap HW.out).1; omega) b)
              rw [← HJ.out] at HBK
              rw [Int.toNat_natCast] at HP
              obtain ⟨P, hP⟩ : ∃ P, P = pushL fl I b := ⟨_, rfl⟩
              rw [← hP] at HP HBK HRP
              clear hP HWP
              go_wp2_with fail
              refine (pushX_any n _ c es _ fl I b _ (hs.rdG h) (hs.rd h') he).mono ?_
              rintro en w7 ⟨u, rfl, k7⟩
              rw [HP.out.1]
              rw [HP.out.2] at k7
              replace hs := hs.join k7
              clear k7
              simp only [List.cons_append, List.nil_append] at hs
              (try clear hCW); (try clear n0 n1)
              obtain ⟨n0, n1⟩ := FIN.out _ _ hs
              obtain ⟨au, cu, rfl⟩ := (hs.rdInts 0 rfl).shape
              go_wp2_with fail
              refine (pushX_any n _ c es _ P J b _ (hs.rdG h) (hs.rdInts 0 rfl) he).mono ?_
              rintro en w8 ⟨u2, rfl, k8⟩
              rw [HBK.out.1]
              rw [HBK.out.2] at k8
              replace hs := hs.join k8
              clear k8
              simp only [List.cons_append, List.nil_append] at hs
              (try clear hCW); (try clear n0 n1)
              obtain ⟨n0, n1⟩ := FIN.out _ _ hs
              go_wp2_with fail
              refine (rsame_any _ _ fl fl _ (hs.rdInts 0 rfl) (hs.rd h')).mono ?_
              rintro en w9 ⟨rfl, k9⟩
              rw [show decide (fl = fl) = true by simp]
              replace hs := hs.join k9
              clear k9
              simp only [List.cons_append, List.nil_append] at hs
              (try clear hCW); (try clear n0 n1)
              obtain ⟨n0, n1⟩ := FIN.out _ _ hs
              go_wp2_with fail
              refine (roomX_any n _ c es _ P I _ (hs.rdG h) (hs.rdInts 1 rfl) he).mono ?_
              rintro en w10 ⟨rfl, hb⟩
              rw [HRP.out]
              replace hs := hs.belowStep hb
              clear hb
              (try clear hCW); (try clear n0 n1)
              obtain ⟨n0, n1⟩ := FIN.out _ _ hs
              have f5 : (R - b == R - b) = true := by simp
              go_wp2_with fail
              refine (works_any _).mono ?_
              rintro en wz ⟨rfl, hb⟩
              go_wp2_with fail
              go_ret
              exact ⟨rfl, HB.out.1.trans ((hs.belowStep hb).below.mono HB.out.2)⟩
end Go.Proofs.Ytmfjfhmoljnnkaa
