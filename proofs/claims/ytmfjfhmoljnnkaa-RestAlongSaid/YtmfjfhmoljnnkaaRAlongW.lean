/-
  The law RestAlong, walked.
-/
import Derived.Test.YtmfjfhmoljnnkaaRW6
import Derived.Test.YtmfjfhmoljnnkaaRPlain5
import Derived.Test.YtmfjfhmoljnnkaaNW3
import Derived.Test.YtmfjfhmoljnnkaaNW4
import Derived.Test.YtmfjfhmoljnnkaaNFl
namespace Go.Proofs.Ytmfjfhmoljnnkaa
open Go Go.RowKit Go.Mem Go.NetP Go.RestP

theorem prod_bound {C b : Int} (h0 : -1000 ≤ C) (h1 : C ≤ 1000) (b0 : 0 ≤ b) (b1 : b ≤ 4503599627370496) : -4503599627370496000 ≤ C * b ∧ C * b ≤ 4503599627370496000 := by
  have h2 : (C * b).natAbs ≤ 1000 * 4503599627370496 := by
    rw [Int.natAbs_mul]
    exact Nat.mul_le_mul (by omega) (by omega)
  omega
set_option maxRecDepth 100000 in
set_option maxHeartbeats 4000000 in
theorem restAlong_any (n : Int) (a : Option Addr) (c : Nat) (es : List Ed) (v : Value) (fl : List Int) (va : Value) (arcs : List Int) (by_ : Int) (w : World) (h : RdG edR w (.slice a es.length c) es) (h' : Rd .i64 w v fl) (ha : Rd .i64 w va arcs) :
    Calls Try.prog 8 #[.agg #[.int .i64 n, .slice a es.length c], v, va, .int .i64 by_] w fun e w' => e = .returned (.bool true) ∧ Below w.heap.size w w' := by
  have hle := h.le
  have hle2 := ha.le'
  unfold maxLen at hle hle2
  obtain ⟨a', c', rfl⟩ := h'.shape
  obtain ⟨a2, c2, rfl⟩ := ha.shape
  have hs0 := (Sep.start w).newCells #[.int .i64 n, .slice a es.length c] 24
  by_cases hv : 2000 < es.length ∨ 2000 < fl.length
  · have HV := Lib.hid (show (decide (2000 < es.length) || decide (2000 < fl.length)) = true by simpa using hv)
    clear hv
    go_enter Try.func8, Try.ntmps8
    go_wp2_with fail
    refine (vast_any _ a c es a' fl.length c' _ hle).mono ?_
    rintro en w1 ⟨rfl, hb⟩
    rw [HV.out]
    replace hs0 := hs0.belowStep hb
    clear hb
    have m0 := cell_of (hs0.cells 0 rfl) 0
    have m1 := cell_of (hs0.cells 0 rfl) 1
    simp only [List.getElem?_toArray, List.getElem?_cons_zero, List.getElem?_cons_succ] at m0 m1
    have N0 := lt_of (hs0.cells 0 rfl)
    replace h := hs0.rdG h
    replace h' := hs0.rd h'
    replace ha := hs0.rd ha
    have FIN := Lib.hid (fun W L (k : Sep w1 W L) => (⟨(k.cell N0).trans m0, (k.cell N0).trans m1⟩ : W.cell? ⟨w.heap.size, 0, none⟩ = some (.int .i64 n) ∧ W.cell? ⟨w.heap.size, 1, none⟩ = some (.slice a es.length c)))
    have HB := Lib.hid (⟨hs0.below, hs0.size⟩ : Below w.heap.size w w1 ∧ w.heap.size ≤ w1.heap.size)
    have hs := Sep.start w1
    clear m0 m1 N0
    (try clear hCW); (try clear n0 n1)
    obtain ⟨n0, n1⟩ := FIN.out _ _ hs
    go_wp2_with fail
    refine (works_any _).mono ?_
    rintro en wz ⟨rfl, hb⟩
    go_wp2_with fail
    go_ret
    exact ⟨rfl, HB.out.1.trans ((hs.belowStep hb).below.mono HB.out.2)⟩
  · have HV := Lib.hid (show (decide (2000 < es.length) || decide (2000 < fl.length)) = false by simp; omega)
    have hfl : fl.length ≤ 2000 := by omega
    have he : es.length ≤ 100000 := by omega
    clear hv
    by_cases h3 : 60 < arcs.length
    · have d1 : decide (60 < (arcs.length : Int)) = true := by simp; omega
      go_enter Try.func8, Try.ntmps8
      go_wp2_with fail
      refine (vast_any _ a c es a' fl.length c' _ hle).mono ?_
      rintro en w1 ⟨rfl, hb⟩
      rw [HV.out]
      replace hs0 := hs0.belowStep hb
      clear hb
      have m0 := cell_of (hs0.cells 0 rfl) 0
      have m1 := cell_of (hs0.cells 0 rfl) 1
      simp only [List.getElem?_toArray, List.getElem?_cons_zero, List.getElem?_cons_succ] at m0 m1
      have N0 := lt_of (hs0.cells 0 rfl)
      replace h := hs0.rdG h
      replace h' := hs0.rd h'
      replace ha := hs0.rd ha
      have FIN := Lib.hid (fun W L (k : Sep w1 W L) => (⟨(k.cell N0).trans m0, (k.cell N0).trans m1⟩ : W.cell? ⟨w.heap.size, 0, none⟩ = some (.int .i64 n) ∧ W.cell? ⟨w.heap.size, 1, none⟩ = some (.slice a es.length c)))
      have HB := Lib.hid (⟨hs0.below, hs0.size⟩ : Below w.heap.size w w1 ∧ w.heap.size ≤ w1.heap.size)
      have hs := Sep.start w1
      clear m0 m1 N0
      (try clear hCW); (try clear n0 n1)
      obtain ⟨n0, n1⟩ := FIN.out _ _ hs
      go_wp2_with fail
      refine (works_any _).mono ?_
      rintro en wz ⟨rfl, hb⟩
      go_wp2_with fail
      go_ret
      exact ⟨rfl, HB.out.1.trans ((hs.belowStep hb).below.mono HB.out.2)⟩
    · have d1 : decide (60 < (arcs.length : Int)) = false := by simp; omega
      by_cases hE : alongE n es fl arcs by_ = 0
      · obtain ⟨V, hV⟩ : ∃ V, V = alongV n es fl arcs by_ := ⟨_, rfl⟩
        have hn0 : ∃ N : Nat, n = N := by
          have : withinB n es fl = true := by
            cases hq : withinB n es fl
            · rw [(along_bad (by simp [alongBad, hq])).1] at hE; omega
            · rfl
          have := (right_cap (within_cap this).2.1).1
          exact ⟨n.toNat, by omega⟩
        obtain ⟨N, rfl⟩ := hn0
        obtain ⟨hw, hw2, hpos, hb0, hb1, hhas, hcb, hcost, S, E, hSN, hEN, hS, hEe, hov, hfl2⟩ := along_all hE hV
        have HE := Lib.hid hE
        have HVV := Lib.hid hV
        have HW2 := Lib.hid hw2
        have HENDS := Lib.hid (show ∀ j, j < arcs.length → endsV N es (arcs.getD j 0) = endsE es (arcAt arcs j) from fun j hj => by
          have := ends_in hw (has_nat (hhas j hj))
          rw [← has_cast (hhas j hj)] at this
          exact this)
        have HCB := Lib.hid hcb
        have HKB := Lib.hid (fun j (hj : j < arcs.length) => cost_bound (a := arcAt arcs j) hw (has_nat (hhas j hj)))
        have hcvb : -4611686018427387904 ≤ costV N es V ∧ costV N es V ≤ 4611686018427387904 := by
          unfold costV
          rw [if_pos hw2]
          exact flowCost_bound hw2 (by rw [(within_cap hw2).1]; exact Nat.le_refl _)
        have hov1 : overV N es fl = overL N es fl := by unfold overV; rw [if_pos hw, Int.toNat_natCast]
        have hov2 : overV N es V = overL N es V := by unfold overV; rw [if_pos hw2, Int.toNat_natCast]
        have HSB := Lib.hid (over_at_bound hw S hSN)
        have HEB := Lib.hid (over_at_bound hw2 E hEN)
        obtain ⟨OX, hOX⟩ : ∃ x, x = overL N es fl := ⟨_, rfl⟩
        obtain ⟨OY, hOY⟩ : ∃ x, x = overL N es V := ⟨_, rfl⟩
        have hlx : OX.length = N := by rw [hOX]; simp [overL]
        have hly : OY.length = N := by rw [hOY]; simp [overL]
        rw [← hOX, ← hOY] at hov
        rw [← hOX] at hov1 HSB
        rw [← hOY] at hov2 HEB
        have HOX := Lib.hid hov1
        have HOY := Lib.hid hov2
        have HOV := Lib.hid hov
        have HLX := Lib.hid hlx
        have HLY := Lib.hid hly
        obtain ⟨C0, hC0⟩ : ∃ x, x = costV N es fl := ⟨_, rfl⟩
        obtain ⟨KK, hKK⟩ : ∃ x, x = wayC es arcs by_ arcs.length := ⟨_, rfl⟩
        rw [← hC0, ← hKK] at hcost
        rw [hcost] at hcvb
        obtain ⟨cv0, cv1⟩ := hcvb
        have HC0 := Lib.hid hC0
        have HC1 := Lib.hid hcost
        have HKK := Lib.hid hKK
        have HS := Lib.hid hS
        have HEE := Lib.hid hEe
        have HFL := Lib.hid hfl2
        have hlenN : (arcs.length == 0) = false := by rw [beq_eq_false_iff_ne]; omega
        have hlenI : ((arcs.length : Int) == 0) = false := by rw [beq_eq_false_iff_ne]; omega
        clear hE hV hw hw2 hhas hcb hcost hov1 hov2 hov hOX hOY hlx hly hC0 hKK hS hEe hfl2
        go_enter Try.func8, Try.ntmps8
        go_wp2_with fail
        refine (vast_any _ a c es a' fl.length c' _ hle).mono ?_
        rintro en w1 ⟨rfl, hb⟩
        rw [HV.out]
        replace hs0 := hs0.belowStep hb
        clear hb
        have m0 := cell_of (hs0.cells 0 rfl) 0
        have m1 := cell_of (hs0.cells 0 rfl) 1
        simp only [List.getElem?_toArray, List.getElem?_cons_zero, List.getElem?_cons_succ] at m0 m1
        have N0 := lt_of (hs0.cells 0 rfl)
        replace h := hs0.rdG h
        replace h' := hs0.rd h'
        replace ha := hs0.rd ha
        have FIN := Lib.hid (fun W L (k : Sep w1 W L) => (⟨(k.cell N0).trans m0, (k.cell N0).trans m1⟩ : W.cell? ⟨w.heap.size, 0, none⟩ = some (.int .i64 N) ∧ W.cell? ⟨w.heap.size, 1, none⟩ = some (.slice a es.length c)))
        have HB := Lib.hid (⟨hs0.below, hs0.size⟩ : Below w.heap.size w w1 ∧ w.heap.size ≤ w1.heap.size)
        have hs := Sep.start w1
        clear m0 m1 N0
        (try clear hCW); (try clear n0 n1)
        obtain ⟨n0, n1⟩ := FIN.out _ _ hs
        clear hs0
        go_wp2_with fail
        refine (along_any _ a c es _ fl _ arcs by_ _ (hs.rdG h) (hs.rd h') (hs.rd ha) he).mono ?_
        rintro en w2 ⟨u, rfl, k2⟩
        rw [HE.out]
        rw [← HVV.out] at k2
        replace hs := hs.join k2
        clear k2
        simp only [List.cons_append, List.nil_append] at hs
        (try clear hCW); (try clear n0 n1)
        obtain ⟨n0, n1⟩ := FIN.out _ _ hs
        obtain ⟨al, cl, rfl⟩ := (hs.rdInts 0 rfl).shape
        go_wp2_with fail
        refine (within_any _ a c es _ V _ (hs.rdG h) (hs.rdInts 0 rfl)).mono ?_
        rintro en w3 ⟨rfl, hb⟩
        rw [HW2.out]
        replace hs := hs.belowStep hb
        clear hb
        (try clear hCW); (try clear n0 n1)
        obtain ⟨n0, n1⟩ := FIN.out _ _ hs
        obtain ⟨b1, o1, e1, hb1', hc1⟩ := ha.at 0 hpos
        subst e1
        have x0 := (hs.cell hb1').trans hc1
        simp only [Nat.add_zero] at x0
        obtain ⟨A0, hA0⟩ : ∃ x, x = arcs.getD 0 0 := ⟨_, rfl⟩
        rw [← hA0] at x0
        have HA0 := Lib.hid hA0
        clear hA0 hc1
        go_wp2_with fail
        refine Mix.region [0, 0, 0, 0, 2, 0, 0, 0, 0, 0, 0, 0] (fun _ => True) (by kernel_rfl) (by kernel_rfl) trivial ?_
        simp only [List.zip_cons_cons, List.zip_nil_right]
        iterate 4 (refine Mix.step0 fun K hK => ?_; go_simp; (try (go_bits; try go_simp)); first | ((with_reducible refine hK _ _ ?_); clear hK K) | ((try (simp only [IntWalk.iteOmega]; try go_simp)); (try go_bits); (with_reducible refine hK _ _ ?_); clear hK K))
        refine Mix.step2n (by first | rfl | simp [Region.wanted, yielded]) fun K hK => ?_
        go_wp2_with fail
        refine (endsX_any _ a c es A0 _ (hs.drew.rdG h) he).mono ?_
        rintro en w4 ⟨rfl, hb⟩
        rw [HA0.out, HENDS.out 0 hpos, HS.out]
        replace hs := hs.drew
        replace hs := hs.belowStep hb
        clear hb
        (try clear hCW); (try clear n0 n1)
        obtain ⟨n0, n1⟩ := FIN.out _ _ hs
        generalize (endsE es (arcAt arcs 0)).2.1 = q1
        generalize (endsE es (arcAt arcs 0)).2.2 = q2
        go_wp2_with fail
        refine Mix.post_mk (C := (fun _ => True)) trivial (hK _ _ ?_)
        clear hK K
        iterate 7 (refine Mix.step0 fun K hK => ?_; go_simp; (try (go_bits; try go_simp)); first | ((with_reducible refine hK _ _ ?_); clear hK K) | ((try (simp only [IntWalk.iteOmega]; try go_simp)); (try go_bits); (with_reducible refine hK _ _ ?_); clear hK K))
        refine Mix.done ?_
        have hlast : arcs.length - 1 < arcs.length := by omega
        obtain ⟨b2, o2, e2, hb2, hc2⟩ := ha.at (arcs.length - 1) hlast
        injection e2 with e2
        injection e2 with e2 e3
        subst e2
        subst e3
        have x1 := (hs.cell hb1').trans hc2
        obtain ⟨A1, hA1⟩ : ∃ x, x = arcs.getD (arcs.length - 1) 0 := ⟨_, rfl⟩
        rw [← hA1] at x1
        have HA1 := Lib.hid hA1
        clear hA1 hc2 x0
        go_wp2_with fail
        refine Mix.region [0, 0, 0, 0, 0, 0, 0, 2, 0, 0, 0, 0, 0, 0, 0] (fun _ => True) (by kernel_rfl) (by kernel_rfl) trivial ?_
        simp only [List.zip_cons_cons, List.zip_nil_right]
        iterate 7 (refine Mix.step0 fun K hK => ?_; go_simp; (try (go_bits; try go_simp)); first | ((with_reducible refine hK _ _ ?_); clear hK K) | ((try (simp only [IntWalk.iteOmega]; try go_simp)); (try go_bits); (with_reducible refine hK _ _ ?_); clear hK K))
        refine Mix.step2n (by first | rfl | simp [Region.wanted, yielded]) fun K hK => ?_
        go_wp2_with fail
        refine (endsX_any _ a c es A1 _ (hs.drew.rdG h) he).mono ?_
        rintro en w5 ⟨rfl, hb⟩
        rw [HA1.out, HENDS.out _ hlast, HEE.out]
        replace hs := hs.drew
        replace hs := hs.belowStep hb
        clear hb
        (try clear hCW); (try clear n0 n1)
        obtain ⟨n0, n1⟩ := FIN.out _ _ hs
        generalize (endsE es (arcAt arcs (arcs.length - 1))).1 = q3
        generalize (endsE es (arcAt arcs (arcs.length - 1))).2.2 = q4
        go_wp2_with fail
        refine Mix.post_mk (C := (fun _ => True)) trivial (hK _ _ ?_)
        clear hK K
        iterate 7 (refine Mix.step0 fun K hK => ?_; go_simp; (try (go_bits; try go_simp)); first | ((with_reducible refine hK _ _ ?_); clear hK K) | ((try (simp only [IntWalk.iteOmega]; try go_simp)); (try go_bits); (with_reducible refine hK _ _ ?_); clear hK K))
        refine Mix.done ?_
        clear x1
        go_wp2_with fail
        refine wp_loopM [none, none, none, none, none, none, none, none, none, none, none, none, none, none, none, none, none, some 17, some 18, some 19, some 20, some 21, none, none, none, none, none, none, none, none, none, none, none, none, none, none, none, none, none, none, none, none, none, none, none, none, none, none, none, none, none, none, none, none, none, none, none, none, none, none, none, none, none, none, none, none, none, none, none, none, none, none, none, none, none, none, none, none, none, some 79, some 80, some 81, some 82, some 83, some 84, some 85, some 86, some 87, some 88, some 89, some 90, some 91, some 92, some 93, some 94, some 95, some 96, some 97, some 98, some 99, none, none, none, none, none, none, none, none, none, none, none, none, none, none, none, none, none, none, none, none, none, none, none, none, none, none, none, none, none, none, none, none, none, none, none, none, none, none, none, none, none, none, none, none, none, none, none, none, none, none, none, none, none, none, none, none, none, none, none, none, none, none, none, none, none, none, none, none, none, none, none, none, none, none, none, none, none, none, none, none, none, none, none, none, none, none] (fun (r : Nat) (f : Nat → Value) (wr : World) => (fun (vc v : Value) => ∃ (i : Nat), v = .int .i64 i ∧ vc = .int .i64 (wayC es arcs by_ i) ∧ i ≤ arcs.length ∧ r = arcs.length - i ∧ Sep w1 wr [intsT .i64 2 (.slice al V.length cl) V]) (f 17) (f 18)) (arcs.length) (by kernel_rfl) ?atStart1 ?round1
        case' atStart1 => (try dsimp only [nthV])
        case' round1 =>
          intro gk f wr l hl hrel J1 K1 hJ1 hK1
          (try simp only [mask] at hl)
          generalize f 17 = u17 at hl hrel
          generalize f 18 = u18 at hl hrel
          subst hl
          (try dsimp only at hrel)
        case atStart1 => exact ⟨0, rfl, rfl, Nat.zero_le _, rfl, hs⟩
        case round1 =>
          clear hs n0 n1
          obtain ⟨i, rfl, rfl, hi, rfl, hs⟩ := hrel
          (try clear hCW); (try clear n0 n1)
          obtain ⟨n0, n1⟩ := FIN.out _ _ hs
          by_cases hlt : i < arcs.length
          · obtain ⟨b3, o3, e3, hb3, hc3⟩ := ha.at i hlt
            injection e3 with e3
            injection e3 with e3 e4
            subst e3
            subst e4
            have x1 := (hs.cell hb1').trans hc3
            obtain ⟨A1, hA1⟩ : ∃ x, x = arcs.getD i 0 := ⟨_, rfl⟩
            rw [← hA1] at x1
            have HA1 := Lib.hid hA1
            have kk := HKB.out i hlt
            have c0 := HCB.out i hi
            have c1 := HCB.out (i + 1) hlt
            obtain ⟨C, hC⟩ : ∃ x, x = (endsE es (arcAt arcs i)).2.2 := ⟨_, rfl⟩
            obtain ⟨W0, hW0⟩ : ∃ x, x = wayC es arcs by_ i := ⟨_, rfl⟩
            have hW1 : wayC es arcs by_ (i + 1) = W0 + C * by_ := by rw [wayC, ← hC, ← hW0]
            rw [hW1] at c1
            rw [← hW0] at c0
            rw [← hC] at kk
            obtain ⟨p0, p1⟩ := prod_bound kk.1 kk.2 hb0 hb1
            obtain ⟨c00, c01⟩ := c0
            obtain ⟨c10, c11⟩ := c1
            rw [← hW0]
            have HCC := Lib.hid hC
            have HW1 := Lib.hid hW1
            clear hA1 hc3 kk hC hW0 hW1
            go_wp2_with fail
            refine Mix.region [0, 0, 0, 0, 0, 2, 0, 0, 0, 0, 0, 0, 0] (fun _ => True) (by kernel_rfl) (by kernel_rfl) trivial ?_
            simp only [List.zip_cons_cons, List.zip_nil_right]
            iterate 5 (refine Mix.step0 fun K hK => ?_; go_simp; (try (go_bits; try go_simp)); first | ((with_reducible refine hK _ _ ?_); clear hK K) | ((try (simp only [IntWalk.iteOmega]; try go_simp)); (try go_bits); (with_reducible refine hK _ _ ?_); clear hK K))
            refine Mix.step2n (by first | rfl | simp [Region.wanted, yielded]) fun K hK => ?_
            go_wp2_with fail
            refine (endsX_any _ a c es A1 _ (hs.drew.rdG h) he).mono ?_
            rintro en w6 ⟨rfl, hb⟩
            rw [HA1.out, HENDS.out i hlt, ← HCC.out]
            replace hs := hs.drew
            replace hs := hs.belowStep hb
            clear hb
            (try clear hCW); (try clear n0 n1)
            obtain ⟨n0, n1⟩ := FIN.out _ _ hs
            generalize (endsE es (arcAt arcs i)).1 = q5
            generalize (endsE es (arcAt arcs i)).2.1 = q6
            go_wp2_with fail
            refine Mix.post_mk (C := (fun _ => True)) trivial (hK _ _ ?_)
            clear hK K
            iterate 7 (refine Mix.step0 fun K hK => ?_; go_simp; (try (go_bits; try go_simp)); first | ((with_reducible refine hK _ _ ?_); clear hK K) | ((try (simp only [IntWalk.iteOmega]; try go_simp)); (try go_bits); (with_reducible refine hK _ _ ?_); clear hK K))
            refine Mix.done ?_
            clear x1
            go_wp2_with fail
            refine Round.intro (arcs.length - (i + 1)) ?measure2 (by kernel_rfl) (hJ1 _ _ _ ?rel2)
            case' rel2 => (try dsimp only [nthV])
            case measure2 => omega
            case rel2 => exact ⟨i + 1, by go_num, by rw [HW1.out], hlt, rfl, hs⟩
          · obtain rfl : i = arcs.length := by omega
            rw [← HKK.out]
            go_wp2_with fail
            refine (over_any _ a c es _ fl _ (hs.rdG h) (hs.rd h')).mono ?_
            rintro en w7 ⟨ux, rfl, k3⟩
            rw [HOX.out] at k3
            replace hs := hs.join k3
            clear k3
            simp only [List.cons_append, List.nil_append] at hs
            (try clear hCW); (try clear n0 n1)
            obtain ⟨n0, n1⟩ := FIN.out _ _ hs
            obtain ⟨ax, cx, rfl⟩ := (hs.rdInts 0 rfl).shape
            rw [HLX.out] at hs ⊢
            go_wp2_with fail
            refine (over_any _ a c es _ V _ (hs.rdG h) (hs.rdInts 1 rfl)).mono ?_
            rintro en w8 ⟨uy, rfl, k4⟩
            rw [HOY.out] at k4
            replace hs := hs.join k4
            clear k4
            simp only [List.cons_append, List.nil_append] at hs
            (try clear hCW); (try clear n0 n1)
            obtain ⟨n0, n1⟩ := FIN.out _ _ hs
            obtain ⟨ay, cy, rfl⟩ := (hs.rdInts 0 rfl).shape
            rw [HLY.out] at hs ⊢
            obtain ⟨g, cg, eg, hg, hcR, hfr⟩ := (hs.ints 1 rfl).get S (by rw [HLX.out]; exact hSN)
            rw [HLX.out] at eg
            injection eg with eg1 eg2 eg3
            clear eg2 eg3
            subst eg1
            have r0 := hcR S (by rw [HLX.out]; exact hSN)
            clear hcR
            have sb := HSB.out
            obtain ⟨XS, hXS⟩ : ∃ x, x = OX.getD S 0 := ⟨_, rfl⟩
            rw [← hXS] at r0 sb
            obtain ⟨sb0, sb1⟩ := sb
            have hNN : ((N : Int) != N) = false := by simp
            have HXS := Lib.hid hXS
            clear hXS
            go_upto_region 21 with fail
            replace hs := hs.setInts (j := S) 1 rfl (XS - by_)
            simp only [List.set_cons_succ, List.set_cons_zero] at hs
            rw [show OX.set S (XS - by_) = OX.set S (OX.getD S 0 - by_) by rw [HXS.out]] at hs
            (try clear hCW); (try clear n0 n1)
            obtain ⟨n0, n1⟩ := FIN.out _ _ hs
            clear r0 hfr
            have hlx2 : (OX.set S (OX.getD S 0 - by_)).length = N := by rw [List.length_set]; exact HLX.out
            obtain ⟨g', cg', eg, hg', hcR, hfr⟩ := (hs.ints 1 rfl).get E (by rw [hlx2]; exact hEN)
            rw [hlx2] at eg
            injection eg with eg1 eg2 eg3
            injection eg1 with eg1
            injection eg1 with eg1
            subst eg1
            clear eg2 eg3
            have r0 := hcR E (by rw [hlx2]; exact hEN)
            clear hcR
            have eb := HEB.out
            rw [← HOV.out, set_at _ _ (by rw [hlx2]; exact hEN), if_pos rfl] at eb
            obtain ⟨XE, hXE⟩ : ∃ x, x = (OX.set S (OX.getD S 0 - by_)).getD E 0 := ⟨_, rfl⟩
            rw [← hXE] at r0 eb
            obtain ⟨eb0, eb1⟩ := eb
            have HXE := Lib.hid hXE
            clear hXE hlx2
            go_upto_region 22 with fail
            replace hs := hs.setInts (j := E) 1 rfl (XE + by_)
            simp only [List.set_cons_succ, List.set_cons_zero] at hs
            rw [show (OX.set S (OX.getD S 0 - by_)).set E (XE + by_) = OY by rw [HXE.out]; exact HOV.out] at hs
            clear r0 hfr
            (try clear hCW); (try clear n0 n1)
            obtain ⟨n0, n1⟩ := FIN.out _ _ hs
            have cc : (C0 + KK != C0 + KK) = false := by simp
            have hCW := (show (fun W : World => W.cell? ⟨w.heap.size, 0, none⟩ = some (.int .i64 N) ∧ W.cell? ⟨w.heap.size, 1, none⟩ = some (.slice a es.length c)) _ from ⟨n0, n1⟩)
            refine Mix.region [0, 0, 2, 0, 0, 0, 0, 2, 1, 1, 2, 1, 0, 0, 0] (fun W : World => W.cell? ⟨w.heap.size, 0, none⟩ = some (.int .i64 N) ∧ W.cell? ⟨w.heap.size, 1, none⟩ = some (.slice a es.length c)) (by kernel_rfl) (by kernel_rfl) hCW ?_
            simp only [List.zip_cons_cons, List.zip_nil_right]
            iterate 2 (refine Mix.step0 fun K hK => ?_; go_simp; (try (go_bits; try go_simp)); first | ((with_reducible refine hK _ _ ?_); clear hK K) | ((try (simp only [IntWalk.iteOmega]; try go_simp)); (try go_bits); (with_reducible refine hK _ _ ?_); clear hK K))
            refine Mix.step2n (by first | rfl | simp [Region.wanted, yielded]) fun K hK => ?_
            go_wp2_with fail
            replace hs := hs.drew
            refine (rsame_any _ _ OY OY _ (by have := hs.rdInts 1 rfl; exact this) (by have := hs.rdInts 0 rfl; exact this)).mono ?_
            rintro en w9 ⟨rfl, k5⟩
            rw [show decide (OY = OY) = true by simp]
            replace hs := hs.join k5
            clear k5
            simp only [List.cons_append, List.nil_append] at hs
            (try clear hCW); (try clear n0 n1)
            obtain ⟨n0, n1⟩ := FIN.out _ _ hs
            have hCW := (show (fun W : World => W.cell? ⟨w.heap.size, 0, none⟩ = some (.int .i64 N) ∧ W.cell? ⟨w.heap.size, 1, none⟩ = some (.slice a es.length c)) _ from ⟨n0, n1⟩)
            go_wp2_with fail
            refine Mix.post_mk (C := (fun W : World => W.cell? ⟨w.heap.size, 0, none⟩ = some (.int .i64 N) ∧ W.cell? ⟨w.heap.size, 1, none⟩ = some (.slice a es.length c))) (by first | exact hCW | exact HCW.out _) (hK _ _ ?_)
            clear hK K
            iterate 2 (refine Mix.step0 fun K hK => ?_; go_simp; (try (go_bits; try go_simp)); first | ((with_reducible refine hK _ _ ?_); clear hK K) | ((try (simp only [IntWalk.iteOmega]; try go_simp)); (try go_bits); (with_reducible refine hK _ _ ?_); clear hK K))
            iterate 2 (first | (refine Mix.stepS rfl fun K hK => ?_; go_simp; (with_reducible refine hK _ _ ?_); clear hK K) | (refine Mix.step0 fun K hK => ?_; go_simp; (try (go_bits; try go_simp)); first | ((with_reducible refine hK _ _ ?_); clear hK K) | ((try (simp only [IntWalk.iteOmega]; try go_simp)); (try go_bits); (with_reducible refine hK _ _ ?_); clear hK K)))
            refine Mix.step2n (by first | rfl | simp [Region.wanted, yielded]) fun K hK => ?_
            go_wp2_with fail
            refine (cost_any _ a c es _ V _ (hs.rdG h) (hs.rdInts 2 rfl)).mono ?_
            rintro en w10 ⟨rfl, hb⟩
            rw [HC1.out]
            replace hs := hs.belowStep hb
            clear hb
            (try clear hCW); (try clear n0 n1)
            obtain ⟨n0, n1⟩ := FIN.out _ _ hs
            have hCW := (show (fun W : World => W.cell? ⟨w.heap.size, 0, none⟩ = some (.int .i64 N) ∧ W.cell? ⟨w.heap.size, 1, none⟩ = some (.slice a es.length c)) _ from ⟨n0, n1⟩)
            go_wp2_with fail
            refine Mix.post_mk (C := (fun W : World => W.cell? ⟨w.heap.size, 0, none⟩ = some (.int .i64 N) ∧ W.cell? ⟨w.heap.size, 1, none⟩ = some (.slice a es.length c))) (by first | exact hCW | exact HCW.out _) (hK _ _ ?_)
            clear hK K
            (first | (refine Mix.stepS rfl fun K hK => ?_; go_simp; (with_reducible refine hK _ _ ?_); clear hK K) | (refine Mix.step1 fun K hK => ?_; go_simp; refine ⟨fun W => ?_, hK _ _ ?_⟩; (intro hW1; (try intro hW2); (try intro hW3); (try intro hW4); (try intro hW5); (try intro hW6); (try intro hW7); (try intro hW8); go_simp); clear hK K))
            (first | (refine Mix.stepS rfl fun K hK => ?_; go_simp; (with_reducible refine hK _ _ ?_); clear hK K) | (refine Mix.step1 fun K hK => ?_; go_simp; (try (go_bits; try go_simp)); first | ((with_reducible refine hK _ _ ?_); clear hK K) | ((try (simp only [IntWalk.iteOmega]; try go_simp)); (try go_bits); (with_reducible refine hK _ _ ?_); clear hK K)))
            refine Mix.step2n (by first | rfl | simp [Region.wanted, yielded]) fun K hK => ?_
            go_wp2_with fail
            refine (cost_any _ a c es _ fl _ (hs.rdG h) (hs.rd h')).mono ?_
            rintro en w11 ⟨rfl, hb⟩
            rw [← HC0.out]
            replace hs := hs.belowStep hb
            clear hb
            (try clear hCW); (try clear n0 n1)
            obtain ⟨n0, n1⟩ := FIN.out _ _ hs
            have hCW := (show (fun W : World => W.cell? ⟨w.heap.size, 0, none⟩ = some (.int .i64 N) ∧ W.cell? ⟨w.heap.size, 1, none⟩ = some (.slice a es.length c)) _ from ⟨n0, n1⟩)
            go_wp2_with fail
            refine Mix.post_mk (C := (fun W : World => W.cell? ⟨w.heap.size, 0, none⟩ = some (.int .i64 N) ∧ W.cell? ⟨w.heap.size, 1, none⟩ = some (.slice a es.length c))) (by first | exact hCW | exact HCW.out _) (hK _ _ ?_)
            clear hK K
            (first | (refine Mix.stepS rfl fun K hK => ?_; go_simp; (with_reducible refine hK _ _ ?_); clear hK K) | (refine Mix.step1 fun K hK => ?_; go_simp; (try (go_bits; try go_simp)); first | ((with_reducible refine hK _ _ ?_); clear hK K) | ((try (simp only [IntWalk.iteOmega]; try go_simp)); (try go_bits); (with_reducible refine hK _ _ ?_); clear hK K)))
            iterate 2 (first | (refine Mix.stepS rfl fun K hK => ?_; go_simp; (with_reducible refine hK _ _ ?_); clear hK K) | (refine Mix.step0 fun K hK => ?_; go_simp; (try (go_bits; try go_simp)); first | ((with_reducible refine hK _ _ ?_); clear hK K) | ((try (simp only [IntWalk.iteOmega]; try go_simp)); (try go_bits); (with_reducible refine hK _ _ ?_); clear hK K)))
            iterate 1 (refine Mix.step0 fun K hK => ?_; go_simp; (try (go_bits; try go_simp)); first | ((with_reducible refine hK _ _ ?_); clear hK K) | ((try (simp only [IntWalk.iteOmega]; try go_simp)); (try go_bits); (with_reducible refine hK _ _ ?_); clear hK K))
            refine Mix.done ?_
            clear hCW
            by_cases hSE : S = E
            · have e1 : ((S : Int) != E) = false := by simp [hSE]
              have HF := Lib.hid (HFL.out hSE)
              obtain ⟨B, hB⟩ : ∃ x, x = flowsB N es fl := ⟨_, rfl⟩
              have HBB := Lib.hid hB
              clear hB hSE
              have e2 : (B == B) = true := by simp
              go_wp2_with fail
              have hCW := (show (fun W : World => W.cell? ⟨w.heap.size, 0, none⟩ = some (.int .i64 N) ∧ W.cell? ⟨w.heap.size, 1, none⟩ = some (.slice a es.length c)) _ from ⟨n0, n1⟩)
              refine Mix.region [0, 0, 0, 0, 0, 0, 2, 1, 1, 2, 0, 0, 0, 2, 0, 0] (fun W : World => W.cell? ⟨w.heap.size, 0, none⟩ = some (.int .i64 N) ∧ W.cell? ⟨w.heap.size, 1, none⟩ = some (.slice a es.length c)) (by kernel_rfl) (by kernel_rfl) hCW ?_
              simp only [List.zip_cons_cons, List.zip_nil_right]
              iterate 4 (refine Mix.step0 fun K hK => ?_; go_simp; (try (go_bits; try go_simp)); first | ((with_reducible refine hK _ _ ?_); clear hK K) | ((try (simp only [IntWalk.iteOmega]; try go_simp)); (try go_bits); (with_reducible refine hK _ _ ?_); clear hK K))
              iterate 2 (first | (refine Mix.stepS rfl fun K hK => ?_; go_simp; (with_reducible refine hK _ _ ?_); clear hK K) | (refine Mix.step0 fun K hK => ?_; go_simp; (try (go_bits; try go_simp)); first | ((with_reducible refine hK _ _ ?_); clear hK K) | ((try (simp only [IntWalk.iteOmega]; try go_simp)); (try go_bits); (with_reducible refine hK _ _ ?_); clear hK K)))
              refine Mix.step2n (by first | rfl | simp [Region.wanted, yielded]) fun K hK => ?_
              go_wp2_with fail
              replace hs := hs.drew
              refine (flows_any _ a c es _ V _ (hs.rdG h) (hs.rdInts 2 rfl)).mono ?_
              rintro en w10 ⟨rfl, hb⟩
              rw [HF.out, ← HBB.out]
              replace hs := hs.belowStep hb
              clear hb
              (try clear hCW); (try clear n0 n1)
              obtain ⟨n0, n1⟩ := FIN.out _ _ hs
              have hCW := (show (fun W : World => W.cell? ⟨w.heap.size, 0, none⟩ = some (.int .i64 N) ∧ W.cell? ⟨w.heap.size, 1, none⟩ = some (.slice a es.length c)) _ from ⟨n0, n1⟩)
              go_wp2_with fail
              refine Mix.post_mk (C := (fun W : World => W.cell? ⟨w.heap.size, 0, none⟩ = some (.int .i64 N) ∧ W.cell? ⟨w.heap.size, 1, none⟩ = some (.slice a es.length c))) (by first | exact hCW | exact HCW.out _) (hK _ _ ?_)
              clear hK K
              (first | (refine Mix.stepS rfl fun K hK => ?_; go_simp; (with_reducible refine hK _ _ ?_); clear hK K) | (refine Mix.step1 fun K hK => ?_; go_simp; refine ⟨fun W => ?_, hK _ _ ?_⟩; (intro hW1; (try intro hW2); (try intro hW3); (try intro hW4); (try intro hW5); (try intro hW6); (try intro hW7); (try intro hW8); go_simp); clear hK K))
              (first | (refine Mix.stepS rfl fun K hK => ?_; go_simp; (with_reducible refine hK _ _ ?_); clear hK K) | (refine Mix.step1 fun K hK => ?_; go_simp; (try (go_bits; try go_simp)); first | ((with_reducible refine hK _ _ ?_); clear hK K) | ((try (simp only [IntWalk.iteOmega]; try go_simp)); (try go_bits); (with_reducible refine hK _ _ ?_); clear hK K)))
              refine Mix.step2n (by first | rfl | simp [Region.wanted, yielded]) fun K hK => ?_
              go_wp2_with fail
              refine (flows_any _ a c es _ fl _ (hs.rdG h) (hs.rd h')).mono ?_
              rintro en w11 ⟨rfl, hb⟩
              rw [← HBB.out]
              replace hs := hs.belowStep hb
              clear hb
              (try clear hCW); (try clear n0 n1)
              obtain ⟨n0, n1⟩ := FIN.out _ _ hs
              have hCW := (show (fun W : World => W.cell? ⟨w.heap.size, 0, none⟩ = some (.int .i64 N) ∧ W.cell? ⟨w.heap.size, 1, none⟩ = some (.slice a es.length c)) _ from ⟨n0, n1⟩)
              go_wp2_with fail
              refine Mix.post_mk (C := (fun W : World => W.cell? ⟨w.heap.size, 0, none⟩ = some (.int .i64 N) ∧ W.cell? ⟨w.heap.size, 1, none⟩ = some (.slice a es.length c))) (by first | exact hCW | exact HCW.out _) (hK _ _ ?_)
              clear hK K
              iterate 1 (first | (refine Mix.stepS rfl fun K hK => ?_; go_simp; (with_reducible refine hK _ _ ?_); clear hK K) | (refine Mix.step0 fun K hK => ?_; go_simp; (try (go_bits; try go_simp)); first | ((with_reducible refine hK _ _ ?_); clear hK K) | ((try (simp only [IntWalk.iteOmega]; try go_simp)); (try go_bits); (with_reducible refine hK _ _ ?_); clear hK K)))
              iterate 2 (refine Mix.step0 fun K hK => ?_; go_simp; (try (go_bits; try go_simp)); first | ((with_reducible refine hK _ _ ?_); clear hK K) | ((try (simp only [IntWalk.iteOmega]; try go_simp)); (try go_bits); (with_reducible refine hK _ _ ?_); clear hK K))
              refine Mix.step2n (by first | rfl | simp [Region.wanted, yielded]) fun K hK => ?_
              go_wp2_with fail
              refine (works_any _).mono ?_
              rintro en w12 ⟨rfl, hb⟩
              replace hs := hs.belowStep hb
              clear hb
              (try clear hCW); (try clear n0 n1)
              obtain ⟨n0, n1⟩ := FIN.out _ _ hs
              have hCW := (show (fun W : World => W.cell? ⟨w.heap.size, 0, none⟩ = some (.int .i64 N) ∧ W.cell? ⟨w.heap.size, 1, none⟩ = some (.slice a es.length c)) _ from ⟨n0, n1⟩)
              go_wp2_with fail
              refine Mix.post_mk (C := (fun W : World => W.cell? ⟨w.heap.size, 0, none⟩ = some (.int .i64 N) ∧ W.cell? ⟨w.heap.size, 1, none⟩ = some (.slice a es.length c))) (by first | exact hCW | exact HCW.out _) (hK _ _ ?_)
              clear hK K
              iterate 2 (refine Mix.step0 fun K hK => ?_; go_simp; (try (go_bits; try go_simp)); first | ((with_reducible refine hK _ _ ?_); clear hK K) | ((try (simp only [IntWalk.iteOmega]; try go_simp)); (try go_bits); (with_reducible refine hK _ _ ?_); clear hK K))
              refine Mix.done ?_
              go_wp2_with fail
              go_ret
              exact ⟨rfl, HB.out.1.trans (hs.below.mono HB.out.2)⟩
            · have e1 : ((S : Int) != E) = true := by simp; omega
              clear hSE
              go_wp2_with fail
              have hCW := (show (fun W : World => W.cell? ⟨w.heap.size, 0, none⟩ = some (.int .i64 N) ∧ W.cell? ⟨w.heap.size, 1, none⟩ = some (.slice a es.length c)) _ from ⟨n0, n1⟩)
              refine Mix.region [0, 0, 0, 0, 0, 0, 2, 1, 1, 2, 0, 0, 0, 2, 0, 0] (fun W : World => W.cell? ⟨w.heap.size, 0, none⟩ = some (.int .i64 N) ∧ W.cell? ⟨w.heap.size, 1, none⟩ = some (.slice a es.length c)) (by kernel_rfl) (by kernel_rfl) hCW ?_
              simp only [List.zip_cons_cons, List.zip_nil_right]
              iterate 4 (refine Mix.step0 fun K hK => ?_; go_simp; (try (go_bits; try go_simp)); first | ((with_reducible refine hK _ _ ?_); clear hK K) | ((try (simp only [IntWalk.iteOmega]; try go_simp)); (try go_bits); (with_reducible refine hK _ _ ?_); clear hK K))
              iterate 2 (first | (refine Mix.stepS rfl fun K hK => ?_; go_simp; (with_reducible refine hK _ _ ?_); clear hK K) | (refine Mix.step0 fun K hK => ?_; go_simp; (try (go_bits; try go_simp)); first | ((with_reducible refine hK _ _ ?_); clear hK K) | ((try (simp only [IntWalk.iteOmega]; try go_simp)); (try go_bits); (with_reducible refine hK _ _ ?_); clear hK K)))
              refine Mix.step2s (by first | rfl | simp [Region.wanted, yielded]) ?_
              (first | (refine Mix.stepS rfl fun K hK => ?_; go_simp; (with_reducible refine hK _ _ ?_); clear hK K) | (refine Mix.step1 fun K hK => ?_; go_simp; refine ⟨fun W => ?_, hK _ _ ?_⟩; (intro hW1; (try intro hW2); (try intro hW3); (try intro hW4); (try intro hW5); (try intro hW6); (try intro hW7); (try intro hW8); go_simp); clear hK K))
              (first | (refine Mix.stepS rfl fun K hK => ?_; go_simp; (with_reducible refine hK _ _ ?_); clear hK K) | (refine Mix.step1 fun K hK => ?_; go_simp; (try (go_bits; try go_simp)); first | ((with_reducible refine hK _ _ ?_); clear hK K) | ((try (simp only [IntWalk.iteOmega]; try go_simp)); (try go_bits); (with_reducible refine hK _ _ ?_); clear hK K)))
              refine Mix.step2s (by first | rfl | simp [Region.wanted, yielded]) ?_
              iterate 1 (first | (refine Mix.stepS rfl fun K hK => ?_; go_simp; (with_reducible refine hK _ _ ?_); clear hK K) | (refine Mix.step0 fun K hK => ?_; go_simp; (try (go_bits; try go_simp)); first | ((with_reducible refine hK _ _ ?_); clear hK K) | ((try (simp only [IntWalk.iteOmega]; try go_simp)); (try go_bits); (with_reducible refine hK _ _ ?_); clear hK K)))
              iterate 2 (refine Mix.step0 fun K hK => ?_; go_simp; (try (go_bits; try go_simp)); first | ((with_reducible refine hK _ _ ?_); clear hK K) | ((try (simp only [IntWalk.iteOmega]; try go_simp)); (try go_bits); (with_reducible refine hK _ _ ?_); clear hK K))
              refine Mix.step2n (by first | rfl | simp [Region.wanted, yielded]) fun K hK => ?_
              go_wp2_with fail
              replace hs := hs.drew
              refine (works_any _).mono ?_
              rintro en w12 ⟨rfl, hb⟩
              replace hs := hs.belowStep hb
              clear hb
              (try clear hCW); (try clear n0 n1)
              obtain ⟨n0, n1⟩ := FIN.out _ _ hs
              have hCW := (show (fun W : World => W.cell? ⟨w.heap.size, 0, none⟩ = some (.int .i64 N) ∧ W.cell? ⟨w.heap.size, 1, none⟩ = some (.slice a es.length c)) _ from ⟨n0, n1⟩)
              go_wp2_with fail
              refine Mix.post_mk (C := (fun W : World => W.cell? ⟨w.heap.size, 0, none⟩ = some (.int .i64 N) ∧ W.cell? ⟨w.heap.size, 1, none⟩ = some (.slice a es.length c))) (by first | exact hCW | exact HCW.out _) (hK _ _ ?_)
              clear hK K
              iterate 2 (refine Mix.step0 fun K hK => ?_; go_simp; (try (go_bits; try go_simp)); first | ((with_reducible refine hK _ _ ?_); clear hK K) | ((try (simp only [IntWalk.iteOmega]; try go_simp)); (try go_bits); (with_reducible refine hK _ _ ?_); clear hK K))
              refine Mix.done ?_
              go_wp2_with fail
              go_ret
              exact ⟨rfl, HB.out.1.trans (hs.below.mono HB.out.2)⟩
      · obtain ⟨X, hX⟩ : ∃ X, X = alongE n es fl arcs by_ := ⟨_, rfl⟩
        rw [← hX] at hE
        have hV : alongV n es fl arcs by_ = [] := by
          by_cases hbad : alongBad n es fl arcs by_ = true
          · exact (along_bad hbad).2
          · rw [Bool.not_eq_true] at hbad
            cases hp : alongF es fl by_ arcs with
            | none => exact (along_full hbad hp).2
            | some l0 => rw [(along_ok hbad hp).1] at hX; omega
        have HX := Lib.hid hX
        have HVV := Lib.hid hV
        have e0 : (X != 0) = true := by simpa using hE
        clear hX hV hE
        go_enter Try.func8, Try.ntmps8
        go_wp2_with fail
        refine (vast_any _ a c es a' fl.length c' _ hle).mono ?_
        rintro en w1 ⟨rfl, hb⟩
        rw [HV.out]
        replace hs0 := hs0.belowStep hb
        clear hb
        have m0 := cell_of (hs0.cells 0 rfl) 0
        have m1 := cell_of (hs0.cells 0 rfl) 1
        simp only [List.getElem?_toArray, List.getElem?_cons_zero, List.getElem?_cons_succ] at m0 m1
        have N0 := lt_of (hs0.cells 0 rfl)
        replace h := hs0.rdG h
        replace h' := hs0.rd h'
        replace ha := hs0.rd ha
        have FIN := Lib.hid (fun W L (k : Sep w1 W L) => (⟨(k.cell N0).trans m0, (k.cell N0).trans m1⟩ : W.cell? ⟨w.heap.size, 0, none⟩ = some (.int .i64 n) ∧ W.cell? ⟨w.heap.size, 1, none⟩ = some (.slice a es.length c)))
        have HB := Lib.hid (⟨hs0.below, hs0.size⟩ : Below w.heap.size w w1 ∧ w.heap.size ≤ w1.heap.size)
        have hs := Sep.start w1
        clear m0 m1 N0
        (try clear hCW); (try clear n0 n1)
        obtain ⟨n0, n1⟩ := FIN.out _ _ hs
        clear hs0
        go_wp2_with fail
        refine (along_any _ a c es _ fl _ arcs by_ _ (hs.rdG h) (hs.rd h') (hs.rd ha) he).mono ?_
        rintro en w2 ⟨u, rfl, k2⟩
        rw [← HX.out]
        rw [HVV.out] at k2
        replace hs := hs.join k2
        clear k2
        simp only [List.cons_append, List.nil_append] at hs
        (try clear hCW); (try clear n0 n1)
        obtain ⟨n0, n1⟩ := FIN.out _ _ hs
        obtain ⟨al, cl, rfl⟩ := (hs.rdInts 0 rfl).shape
        rw [List.length_nil] at hs ⊢
        go_wp2_with fail
        refine (works_any _).mono ?_
        rintro en wz ⟨rfl, hb⟩
        go_wp2_with fail
        go_ret
        exact ⟨rfl, HB.out.1.trans ((hs.belowStep hb).below.mono HB.out.2)⟩
end Go.Proofs.Ytmfjfhmoljnnkaa
