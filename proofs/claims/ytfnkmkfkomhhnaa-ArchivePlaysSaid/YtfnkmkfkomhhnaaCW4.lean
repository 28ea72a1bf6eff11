/-
  The reference's Fits, walked.
-/
import Derived.Test.YtfnkmkfkomhhnaaCW3
namespace Go.Proofs.Ytfnkmkfkomhhnaa
open Go Go.RowKit Go.Mem Go.NetP Go.RestP Go.CertP Go.Shelf

set_option maxRecDepth 100000 in
set_option maxHeartbeats 4000000 in
theorem rfits_any (n : Int) (a : Option Addr) (c : Nat) (es : List Ed) (vf : Value) (fl : List Int) (vp : Value) (pot : List Int) (w : World) (h : RdG edR w (.slice a es.length c) es) (hf : Rd .i64 w vf fl) (hp : Rd .i64 w vp pot) :
    Calls Try.prog 28 #[.agg #[.int .i64 n, .slice a es.length c], vf, vp] w fun en w' => en = .returned (.bool (fitsB n es fl pot)) ∧ Below w.heap.size w w' := by
  obtain ⟨af, cf, rfl⟩ := hf.shape
  obtain ⟨ap, cp, rfl⟩ := hp.shape
  have hlf := hf.le'
  have hlp := hp.le'
  have hle := h.le'
  have hs := (Sep.start w).newCells #[.int .i64 n, .slice a es.length c] 34
  cases hr : rightB n es
  · have HE := Lib.hid (show fitsB n es fl pot = false by simp [fitsB, withinB, hr])
    have HR := Lib.hid hr
    clear hr
    go_enter Try.func28, Try.ntmps28
    go_wp2_with fail
    refine (rright_any n a c es _ (hs.rdG h)).mono ?_
    rintro en w1 ⟨rfl, hb⟩
    rw [HR.out]
    replace hs := hs.belowStep hb
    clear hb
    go_wp2_with fail
    go_ret
    exact ⟨by rw [HE.out]; rfl, hs.below⟩
  · have HR := Lib.hid hr
    have he : es.length ≤ 200 := (right_cap hr).2.2.1
    by_cases hl : fl.length = es.length
    · have e1 : ((fl.length : Int) != es.length) = false := by rw [hl]; simp
      by_cases hn : (pot.length : Int) = n
      · subst hn
        have e2 : ((pot.length : Int) != pot.length) = false := by simp
        have HL := Lib.hid hl
        have hf200 : fl.length ≤ 200 := by omega
        clear hr hl
        go_enter Try.func28, Try.ntmps28
        go_wp2_with fail
        refine (rright_any _ a c es _ (hs.rdG h)).mono ?_
        rintro en w1 ⟨rfl, hb⟩
        rw [HR.out]
        replace hs := hs.belowStep hb
        clear hb
        have n0 := cell_of (hs.cells 0 rfl) 0
        have n1 := cell_of (hs.cells 0 rfl) 1
        simp only [List.getElem?_toArray, List.getElem?_cons_zero, List.getElem?_cons_succ] at n0 n1
        go_wp2_with fail
        clear n0 n1 e1
        refine wp_loopM [none, none, none, none, none, none, some 6, some 7, none, none, none, none, none, none, none, none, none, none, none, none, none, none, none, none, none, none, none, none, some 28, some 29, some 30, some 31, some 32, some 33, some 34, some 35, some 36, some 37, some 38, some 39, some 40, some 41, some 42, some 43, some 44, some 45, some 46, some 47, some 48, some 49, some 50, some 51, none, none, none, none, none, none, none, none, none, none, none, none, none, none, none, none, none, none, none, none, none, none, none, none, none, none, none, none, none, none, none, none, none, none, none, none, none] (fun (r : Nat) (f : Nat → Value) (wr : World) => (fun (v : Value) => ∃ (i : Nat), v = .int .i64 i ∧ i ≤ fl.length ∧ r = fl.length - i ∧ Hid (∀ j, j < i → capB es fl j = true) ∧ Sep w wr [cellsT w.heap.size #[.int .i64 pot.length, .slice a es.length c] 34]) (f 7)) (fl.length) (by kernel_rfl) ?atStart1 ?round1
        case' atStart1 => (try dsimp only [nthV])
        case' round1 =>
          intro gk f wr l hl hrel J1 K1 hJ1 hK1
          (try simp only [mask] at hl)
          generalize f 7 = u7 at hl hrel
          subst hl
          (try dsimp only at hrel)
        case atStart1 => exact ⟨0, rfl, Nat.zero_le _, rfl, Lib.hid (fun j hj => by omega), hs⟩
        case round1 =>
          clear hs
          obtain ⟨i, rfl, hi, rfl, HA, hs⟩ := hrel
          have n0 := cell_of (hs.cells 0 rfl) 0
          have n1 := cell_of (hs.cells 0 rfl) 1
          simp only [List.getElem?_toArray, List.getElem?_cons_zero, List.getElem?_cons_succ] at n0 n1
          by_cases hlt : i < fl.length
          · have hie : i < es.length := by rw [← HL.out]; exact hlt
            obtain ⟨b1, o1, e1, hb1, hc1⟩ := (hs.rd hf).at i hlt
            obtain ⟨b2, o2, e2, hb2, hc2⟩ := (hs.rdG h).at i hie
            subst e1
            subst e2
            have x2 := hc2 2 (by decide)
            simp only [edR, List.getElem?_cons_zero, List.getElem?_cons_succ] at x2
            have hcap := capB_at (fl := fl) hie
            obtain ⟨X, hX⟩ : ∃ X, X = fl.getD i 0 := ⟨_, rfl⟩
            obtain ⟨Q, hQ⟩ : ∃ Q, Q = es[i].c := ⟨_, rfl⟩
            rw [← hX] at hc1 hcap
            rw [← hQ] at x2 hcap
            have HC := Lib.hid hcap
            clear hc2 hX hQ hcap
            by_cases hx0 : X < 0
            · have HE := Lib.hid (show fitsB pot.length es fl pot = false by
                have : capB es fl i = false := by rw [HC.out]; simp; intro; omega
                simp [fitsB, within_no hlt hie this])
              have d1 : decide (X < 0) = true := decide_eq_true hx0
              clear hx0
              go_wp2_with fail
              refine Mix.region [0, 0, 0, 0, 0, 0, 0, 0, 0, 0, 0, 0, 0, 0, 0, 0, 0, 0] (fun _ => True) (by kernel_rfl) (by kernel_rfl) trivial ?_
              simp only [List.zip_cons_cons, List.zip_nil_right]
              iterate 6 (refine Mix.step0 fun K hK => ?_; go_simp; (try (go_bits; try go_simp)); first | ((with_reducible refine hK _ _ ?_); clear hK K) | ((try (simp only [IntWalk.iteOmega]; try go_simp)); (try go_bits); (with_reducible refine hK _ _ ?_); clear hK K))
              iterate 11 (first | (refine Mix.stepS rfl fun K hK => ?_; go_simp; (with_reducible refine hK _ _ ?_); clear hK K) | (refine Mix.step0 fun K hK => ?_; go_simp; (try (go_bits; try go_simp)); first | ((with_reducible refine hK _ _ ?_); clear hK K) | ((try (simp only [IntWalk.iteOmega]; try go_simp)); (try go_bits); (with_reducible refine hK _ _ ?_); clear hK K)))
              iterate 1 (refine Mix.step0 fun K hK => ?_; go_simp; (try (go_bits; try go_simp)); first | ((with_reducible refine hK _ _ ?_); clear hK K) | ((try (simp only [IntWalk.iteOmega]; try go_simp)); (try go_bits); (with_reducible refine hK _ _ ?_); clear hK K))
              refine Mix.done ?_
              go_wp2_with fail
              go_ret
              exact ⟨by rw [HE.out]; rfl, hs.drew.below⟩
            · have d1 : decide (X < 0) = false := decide_eq_false hx0
              by_cases hx1 : Q < X
              · have HE := Lib.hid (show fitsB pot.length es fl pot = false by
                  have : capB es fl i = false := by rw [HC.out]; simp; intro; omega
                  simp [fitsB, within_no hlt hie this])
                have d2 : decide (Q < X) = true := decide_eq_true hx1
                clear hx0 hx1
                go_wp2_with fail
                refine Mix.region [0, 0, 0, 0, 0, 0, 0, 0, 0, 0, 0, 0, 0, 0, 0, 0, 0, 0] (fun _ => True) (by kernel_rfl) (by kernel_rfl) trivial ?_
                simp only [List.zip_cons_cons, List.zip_nil_right]
                iterate 6 (refine Mix.step0 fun K hK => ?_; go_simp; (try (go_bits; try go_simp)); first | ((with_reducible refine hK _ _ ?_); clear hK K) | ((try (simp only [IntWalk.iteOmega]; try go_simp)); (try go_bits); (with_reducible refine hK _ _ ?_); clear hK K))
                iterate 11 (first | (refine Mix.stepS rfl fun K hK => ?_; go_simp; (with_reducible refine hK _ _ ?_); clear hK K) | (refine Mix.step0 fun K hK => ?_; go_simp; (try (go_bits; try go_simp)); first | ((with_reducible refine hK _ _ ?_); clear hK K) | ((try (simp only [IntWalk.iteOmega]; try go_simp)); (try go_bits); (with_reducible refine hK _ _ ?_); clear hK K)))
                iterate 1 (refine Mix.step0 fun K hK => ?_; go_simp; (try (go_bits; try go_simp)); first | ((with_reducible refine hK _ _ ?_); clear hK K) | ((try (simp only [IntWalk.iteOmega]; try go_simp)); (try go_bits); (with_reducible refine hK _ _ ?_); clear hK K))
                refine Mix.done ?_
                go_wp2_with fail
                go_ret
                exact ⟨by rw [HE.out]; rfl, hs.drew.below⟩
              · have HST := Lib.hid (show ∀ j, j < i + 1 → capB es fl j = true from fun j hj => by
                  by_cases hji : j = i
                  · subst hji; rw [HC.out]; simp; omega
                  · exact HA.out j (by omega))
                have d2 : decide (Q < X) = false := decide_eq_false hx1
                clear hx0 hx1
                go_wp2_with fail
                refine Mix.region [0, 0, 0, 0, 0, 0, 0, 0, 0, 0, 0, 0, 0, 0, 0, 0, 0, 0] (fun _ => True) (by kernel_rfl) (by kernel_rfl) trivial ?_
                simp only [List.zip_cons_cons, List.zip_nil_right]
                iterate 6 (refine Mix.step0 fun K hK => ?_; go_simp; (try (go_bits; try go_simp)); first | ((with_reducible refine hK _ _ ?_); clear hK K) | ((try (simp only [IntWalk.iteOmega]; try go_simp)); (try go_bits); (with_reducible refine hK _ _ ?_); clear hK K))
                iterate 11 (first | (refine Mix.stepS rfl fun K hK => ?_; go_simp; (with_reducible refine hK _ _ ?_); clear hK K) | (refine Mix.step0 fun K hK => ?_; go_simp; (try (go_bits; try go_simp)); first | ((with_reducible refine hK _ _ ?_); clear hK K) | ((try (simp only [IntWalk.iteOmega]; try go_simp)); (try go_bits); (with_reducible refine hK _ _ ?_); clear hK K)))
                iterate 1 (refine Mix.step0 fun K hK => ?_; go_simp; (try (go_bits; try go_simp)); first | ((with_reducible refine hK _ _ ?_); clear hK K) | ((try (simp only [IntWalk.iteOmega]; try go_simp)); (try go_bits); (with_reducible refine hK _ _ ?_); clear hK K))
                refine Mix.done ?_
                go_wp2_with fail
                refine Round.intro (fl.length - (i + 1)) ?measure2 (by kernel_rfl) (hJ1 _ _ _ ?rel2)
                case' rel2 => (try dsimp only [nthV])
                case measure2 => omega
                case rel2 => exact ⟨i + 1, by go_num, hlt, rfl, HST, hs.drew⟩
          · obtain rfl : i = fl.length := by omega
            have HW := Lib.hid (within_ok HL.out HR.out HA.out)
            clear n0 n1
            go_wp2_with fail
            refine wp_loopM [none, none, none, none, none, none, some 6, none, some 8, none, none, none, none, none, none, none, none, none, none, none, none, none, none, none, none, none, none, none, none, none, none, none, none, none, none, none, none, none, none, none, none, none, none, none, none, none, none, none, none, none, none, none, some 52, some 53, some 54, some 55, some 56, some 57, some 58, some 59, some 60, some 61, some 62, some 63, some 64, some 65, some 66, some 67, some 68, some 69, none, none, none, none, none, none, none, none, none, none, none, none, none, none, none, none, none, none, none] (fun (r : Nat) (f : Nat → Value) (wq : World) => (fun (v : Value) => ∃ (i : Nat), v = .int .i64 i ∧ i ≤ pot.length ∧ r = pot.length - i ∧ Hid ((pot.take i).all farB = true) ∧ Sep w wq [cellsT w.heap.size #[.int .i64 pot.length, .slice a es.length c] 34]) (f 8)) (pot.length) (by kernel_rfl) ?atStart3 ?round3
            case' atStart3 => (try dsimp only [nthV])
            case' round3 =>
              intro gk f wr l hl hrel J2 K2 hJ2 hK2
              (try simp only [mask] at hl)
              generalize f 8 = u8 at hl hrel
              subst hl
              (try dsimp only at hrel)
            case atStart3 => exact ⟨0, rfl, Nat.zero_le _, rfl, Lib.hid (by simp), hs⟩
            case round3 =>
              clear hs
              obtain ⟨q, rfl, hq, rfl, HB, hs⟩ := hrel
              by_cases hqt : q < pot.length
              · obtain ⟨b1, o1, e1, hb1, hc1⟩ := (hs.rd hp).at q hqt
                subst e1
                have hst := far_step (pot := pot) hqt HB.out
                have hsp := far_stop (pot := pot) hqt
                obtain ⟨X, hX⟩ : ∃ X, X = pot.getD q 0 := ⟨_, rfl⟩
                rw [← hX] at hc1 hst hsp
                clear hX
                cases hfx : farB X
                · have HE := Lib.hid (show fitsB pot.length es fl pot = false by simp [fitsB, potB, hsp hfx])
                  rcases (farB_no X).1 hfx with q1 | q1
                  · have d1 : decide (1099511627776 < X) = false := decide_eq_false (by omega)
                    have d2 : decide (X < -1099511627776) = true := decide_eq_true q1
                    clear hst hsp hfx q1
                    go_wp2_with fail
                    go_ret
                    exact ⟨by rw [HE.out]; rfl, hs.below⟩
                  · have d1 : decide (1099511627776 < X) = true := decide_eq_true q1
                    clear hst hsp hfx q1
                    go_wp2_with fail
                    go_ret
                    exact ⟨by rw [HE.out]; rfl, hs.below⟩
                · have HST := Lib.hid (hst hfx)
                  have hq2 := (farB_iff X).1 hfx
                  have d1 : decide (X < -1099511627776) = false := decide_eq_false (by omega)
                  have d2 : decide (1099511627776 < X) = false := decide_eq_false (by omega)
                  clear hst hsp hfx hq2
                  go_wp2_with fail
                  refine Round.intro (pot.length - (q + 1)) ?measure4 (by kernel_rfl) (hJ2 _ _ _ ?rel4)
                  case' rel4 => (try dsimp only [nthV])
                  case measure4 => omega
                  case rel4 => exact ⟨q + 1, by go_num, hqt, rfl, HST, hs⟩
              · obtain rfl : q = pot.length := by omega
                have HP := Lib.hid (show potB pot.length pot = true by
                  have := HB.out
                  rw [List.take_length] at this
                  simp [potB, this])
                go_wp2_with fail
                refine wp_loopM [none, none, none, none, none, none, some 6, none, none, some 9, none, none, none, none, none, none, none, none, none, none, none, none, none, none, none, none, none, none, none, none, none, none, none, none, none, none, none, none, none, none, none, none, none, none, none, none, none, none, none, none, none, none, none, none, none, none, none, none, none, none, none, none, none, none, none, none, none, none, none, none, some 70, some 71, some 72, some 73, some 74, some 75, some 76, some 77, some 78, some 79, some 80, some 81, some 82, some 83, some 84, some 85, some 86, some 87, some 88] (fun (r : Nat) (f : Nat → Value) (wz : World) => (fun (v : Value) => ∃ (i : Nat), v = .int .i64 i ∧ i ≤ 2 * fl.length ∧ r = 2 * fl.length - i ∧ Hid ((List.range i).all (tightS es fl pot) = true) ∧ Sep w wz [cellsT w.heap.size #[.int .i64 pot.length, .slice a es.length c] 34]) (f 9)) (2 * fl.length) (by kernel_rfl) ?atStart5 ?round5
                case' atStart5 => (try dsimp only [nthV])
                case' round5 =>
                  intro gk f wr l hl hrel J3 K3 hJ3 hK3
                  (try simp only [mask] at hl)
                  generalize f 9 = u9 at hl hrel
                  subst hl
                  (try dsimp only at hrel)
                case atStart5 => exact ⟨0, by go_num, Nat.zero_le _, rfl, Lib.hid (by simp), hs⟩
                case round5 =>
                  clear hs
                  obtain ⟨z, rfl, hz, rfl, HC, hs⟩ := hrel
                  by_cases hzf : z < 2 * fl.length
                  · have hzt : z < 2 * es.length := by have := HL.out; omega
                    have hh : hasB es.length (z : Int) = true := by rw [hasB_iff]; omega
                    have hroom := room_in HW.out hh
                    obtain ⟨R, hRR⟩ : ∃ R, R = roomE es fl z := ⟨_, rfl⟩
                    rw [← hRR] at hroom
                    obtain ⟨T, hTT⟩ : ∃ T, T = lenA es pot z := ⟨_, rfl⟩
                    have HRR := Lib.hid hRR
                    have HTT := Lib.hid hTT
                    have HROOM := Lib.hid hroom
                    clear hRR hTT hroom hh
                    have n0 := cell_of (hs.cells 0 rfl) 0
                    have n1 := cell_of (hs.cells 0 rfl) 1
                    simp only [List.getElem?_toArray, List.getElem?_cons_zero, List.getElem?_cons_succ] at n0 n1
                    go_wp2_with fail
                    refine (rroom_any _ a c es _ fl z _ (hs.rdG h) (hs.rd hf) (by omega)).mono ?_
                    rintro en w5 ⟨rfl, hb⟩
                    rw [HROOM.out]
                    clear n0 n1
                    replace hs := hs.belowStep hb
                    clear hb
                    have n0 := cell_of (hs.cells 0 rfl) 0
                    have n1 := cell_of (hs.cells 0 rfl) 1
                    simp only [List.getElem?_toArray, List.getElem?_cons_zero, List.getElem?_cons_succ] at n0 n1
                    by_cases hR0 : 0 < R
                    · have d1 : decide (0 < R) = true := decide_eq_true hR0
                      go_wp2_with fail
                      refine (rlen_any _ a c es _ pot z _ (hs.rdG h) (hs.rd hp) HR.out hzt HP.out).mono ?_
                      rintro en w6 ⟨rfl, hb⟩
                      rw [← HTT.out]
                      clear n0 n1
                      replace hs := hs.belowStep hb
                      clear hb
                      by_cases hT0 : T < 0
                      · have HE := Lib.hid (show fitsB pot.length es fl pot = false by
                          have : tightB es fl pot = false := tight_stop hzt (by simp only [tightS, ← HTT.out, ← HRR.out]; simp [hT0, hR0])
                          simp [fitsB, this])
                        have d2 : decide (T < 0) = true := decide_eq_true hT0
                        clear hT0 hR0
                        go_wp2_with fail
                        go_ret
                        exact ⟨by rw [HE.out]; rfl, hs.below⟩
                      · have HST := Lib.hid (show (List.range (z + 1)).all (tightS es fl pot) = true by
                          rw [List.range_succ, List.all_append, HC.out]
                          simp only [List.all_cons, List.all_nil, Bool.and_true, Bool.true_and, tightS, ← HTT.out, ← HRR.out]
                          simp [hT0])
                        have d2 : decide (T < 0) = false := decide_eq_false hT0
                        clear hT0 hR0
                        go_wp2_with fail
                        refine Round.intro (2 * fl.length - (z + 1)) ?measure6 (by kernel_rfl) (hJ3 _ _ _ ?rel6)
                        case' rel6 => (try dsimp only [nthV])
                        case measure6 => omega
                        case rel6 => exact ⟨z + 1, by go_num, hzf, rfl, HST, hs⟩
                    · have d1 : decide (0 < R) = false := decide_eq_false hR0
                      have HST := Lib.hid (show (List.range (z + 1)).all (tightS es fl pot) = true by
                        rw [List.range_succ, List.all_append, HC.out]
                        simp only [List.all_cons, List.all_nil, Bool.and_true, Bool.true_and, tightS, ← HTT.out, ← HRR.out]
                        simp [hR0])
                      clear hR0
                      go_wp2_with fail
                      refine Round.intro (2 * fl.length - (z + 1)) ?measure7 (by kernel_rfl) (hJ3 _ _ _ ?rel7)
                      case' rel7 => (try dsimp only [nthV])
                      case measure7 => omega
                      case rel7 => exact ⟨z + 1, by go_num, hzf, rfl, HST, hs⟩
                  · obtain rfl : z = 2 * fl.length := by omega
                    have HE := Lib.hid (show fitsB pot.length es fl pot = true by
                      have : tightB es fl pot = true := by
                        have h1 := HC.out
                        rw [HL.out] at h1
                        exact h1
                      simp [fitsB, HW.out, HP.out, this])
                    go_wp2_with fail
                    go_ret
                    exact ⟨by rw [HE.out]; rfl, hs.below⟩
      · have e2 : ((pot.length : Int) != n) = true := by rw [bne_iff_ne]; exact hn
        have HE := Lib.hid (show fitsB n es fl pot = false by simp [fitsB, potB, hn])
        clear hr hn hl
        go_enter Try.func28, Try.ntmps28
        go_wp2_with fail
        refine (rright_any _ a c es _ (hs.rdG h)).mono ?_
        rintro en w1 ⟨rfl, hb⟩
        rw [HR.out]
        replace hs := hs.belowStep hb
        clear hb
        have n0 := cell_of (hs.cells 0 rfl) 0
        have n1 := cell_of (hs.cells 0 rfl) 1
        simp only [List.getElem?_toArray, List.getElem?_cons_zero, List.getElem?_cons_succ] at n0 n1
        go_wp2_with fail
        go_ret
        exact ⟨by rw [HE.out]; rfl, hs.below⟩
    · have e1 : ((fl.length : Int) != es.length) = true := by rw [bne_iff_ne]; omega
      have HE := Lib.hid (show fitsB n es fl pot = false by simp [fitsB, withinB, hl])
      clear hr hl
      go_enter Try.func28, Try.ntmps28
      go_wp2_with fail
      refine (rright_any _ a c es _ (hs.rdG h)).mono ?_
      rintro en w1 ⟨rfl, hb⟩
      rw [HR.out]
      replace hs := hs.belowStep hb
      clear hb
      have n0 := cell_of (hs.cells 0 rfl) 0
      have n1 := cell_of (hs.cells 0 rfl) 1
      simp only [List.getElem?_toArray, List.getElem?_cons_zero, List.getElem?_cons_succ] at n0 n1
      go_wp2_with fail
      go_ret
      exact ⟨by rw [HE.out]; rfl, hs.below⟩
end Go.Proofs.Ytfnkmkfkomhhnaa
