/-
  The law RestBottle, walked.
-/
import Derived.Test.YtmfjfhmoljnnkaaRW6
namespace Go.Proofs.Ytmfjfhmoljnnkaa
open Go Go.RowKit Go.Mem Go.NetP Go.RestP

theorem along_zero {n : Int} {es : List Ed} {fl arcs : List Int} (h : alongE n es fl arcs 0 = 0) : wayB n es arcs = true ∧ withinB n es fl = true := by
  cases hw : (wayB n es arcs && withinB n es fl)
  · rw [along_bad0 hw] at h; exact absurd h (by decide)
  · exact (Bool.and_eq_true _ _).mp hw
theorem along_zero' {n : Int} {es : List Ed} {fl arcs : List Int} (h : ¬ alongE n es fl arcs 0 = 0) : bottleV n es fl arcs = 0 := by
  cases hw : (wayB n es arcs && withinB n es fl)
  · simp [bottleV, hw]
  · have hw' := (Bool.and_eq_true _ _).mp hw
    exact absurd ((bottle_iff hw'.1 hw'.2 (Int.le_refl 0)).2 (bottle_bound n es fl arcs).1) h
theorem along_more {n : Int} {es : List Ed} {fl arcs : List Int} (hw : wayB n es arcs = true) (hr : withinB n es fl = true) : alongE n es fl arcs (bottleV n es fl arcs) = 0 ∧ alongE n es fl arcs (bottleV n es fl arcs + 1) = 7 := by
  have hB := (bottle_bound n es fl arcs).1
  refine ⟨(bottle_iff hw hr hB).2 (Int.le_refl _), ?_⟩
  have h : ¬ alongE n es fl arcs (bottleV n es fl arcs + 1) = 0 := fun h => by have := (bottle_iff hw hr (by omega)).1 h; omega
  revert h
  unfold alongE
  rw [if_neg (by simp [alongBad, hw, hr]; omega)]
  cases alongF es fl (bottleV n es fl arcs + 1) arcs <;> simp
theorem bottle_room {n : Int} {es : List Ed} {fl arcs : List Int} (hw : wayB n es arcs = true) (hr : withinB n es fl = true) : bottleV n es fl arcs ≤ roomV n es fl (arcs.getD 0 0) := by
  have h2 : bottleV n es fl arcs = leastS es fl arcs arcs.length := by simp [bottleV, hw, hr]
  have h3 := ((least_iff es fl arcs (bottleV n es fl arcs) arcs.length).1 (by rw [h2]; exact Int.le_refl _)).1
  have h4 := step_has ((way_cap hw).2.2 0 (way_cap hw).1)
  rw [roomV, if_pos (by rw [h4, hr]; rfl)]
  exact h3
set_option maxRecDepth 100000 in
set_option maxHeartbeats 4000000 in
theorem restBottle_any (n : Int) (a : Option Addr) (c : Nat) (es : List Ed) (v : Value) (fl : List Int) (va : Value) (arcs : List Int) (w : World) (h : RdG edR w (.slice a es.length c) es) (h' : Rd .i64 w v fl) (ha : Rd .i64 w va arcs) :
    Calls Try.prog 6 #[.agg #[.int .i64 n, .slice a es.length c], v, va] w fun e w' => e = .returned (.bool true) ∧ Below w.heap.size w w' := by
  have hle := h.le
  have hle2 := ha.le'
  unfold maxLen at hle hle2
  obtain ⟨a', c', rfl⟩ := h'.shape
  obtain ⟨a2, c2, rfl⟩ := ha.shape
  have hs := (Sep.start w).newCells #[.int .i64 n, .slice a es.length c] 24
  by_cases hv : 2000 < es.length ∨ 2000 < fl.length
  · have HV := Lib.hid (show (decide (2000 < es.length) || decide (2000 < fl.length)) = true by simpa using hv)
    clear hv
    (try clear n0 n1)
    have n0 := cell_of (hs.cells 0 rfl) 0
    have n1 := cell_of (hs.cells 0 rfl) 1
    simp only [List.getElem?_toArray, List.getElem?_cons_zero, List.getElem?_cons_succ] at n0 n1
    go_enter Try.func6, Try.ntmps6
    go_wp2_with fail
    refine (vast_any n a c es a' fl.length c' _ hle).mono ?_
    rintro en w1 ⟨rfl, hb⟩
    rw [HV.out]
    replace hs := hs.belowStep hb
    clear hb
    (try clear n0 n1)
    have n0 := cell_of (hs.cells 0 rfl) 0
    have n1 := cell_of (hs.cells 0 rfl) 1
    simp only [List.getElem?_toArray, List.getElem?_cons_zero, List.getElem?_cons_succ] at n0 n1
    clear n0 n1
    go_wp2_with fail
    refine (works_any _).mono ?_
    rintro en wz ⟨rfl, hb⟩
    go_wp2_with fail
    go_ret
    exact ⟨rfl, (hs.belowStep hb).below⟩
  · have HV := Lib.hid (show (decide (2000 < es.length) || decide (2000 < fl.length)) = false by simp; omega)
    have he : es.length ≤ 100000 := by omega
    clear hv
    (try clear n0 n1)
    have n0 := cell_of (hs.cells 0 rfl) 0
    have n1 := cell_of (hs.cells 0 rfl) 1
    simp only [List.getElem?_toArray, List.getElem?_cons_zero, List.getElem?_cons_succ] at n0 n1
    by_cases hl : 60 < arcs.length
    · have d1 : decide (60 < (arcs.length : Int)) = true := by simp; omega
      go_enter Try.func6, Try.ntmps6
      go_wp2_with fail
      refine (vast_any n a c es a' fl.length c' _ hle).mono ?_
      rintro en w1 ⟨rfl, hb⟩
      rw [HV.out]
      replace hs := hs.belowStep hb
      clear hb
      (try clear n0 n1)
      have n0 := cell_of (hs.cells 0 rfl) 0
      have n1 := cell_of (hs.cells 0 rfl) 1
      simp only [List.getElem?_toArray, List.getElem?_cons_zero, List.getElem?_cons_succ] at n0 n1
      clear n0 n1
      go_wp2_with fail
      refine (works_any _).mono ?_
      rintro en wz ⟨rfl, hb⟩
      go_wp2_with fail
      go_ret
      exact ⟨rfl, (hs.belowStep hb).below⟩
    · have d1 : decide (60 < (arcs.length : Int)) = false := by simp; omega
      go_enter Try.func6, Try.ntmps6
      go_wp2_with fail
      refine (vast_any n a c es a' fl.length c' _ hle).mono ?_
      rintro en w1 ⟨rfl, hb⟩
      rw [HV.out]
      replace hs := hs.belowStep hb
      clear hb
      (try clear n0 n1)
      have n0 := cell_of (hs.cells 0 rfl) 0
      have n1 := cell_of (hs.cells 0 rfl) 1
      simp only [List.getElem?_toArray, List.getElem?_cons_zero, List.getElem?_cons_succ] at n0 n1
      go_wp2_with fail
      refine (bottle_any n a c es _ fl _ arcs _ (hs.rdG h) (hs.rd h') (hs.rd ha) he (by omega)).mono ?_
      rintro en w2 ⟨rfl, hb⟩
      obtain ⟨B, hB⟩ : ∃ B, B = bottleV n es fl arcs := ⟨_, rfl⟩
      rw [← hB]
      have HB := Lib.hid hB
      clear hB
      replace hs := hs.belowStep hb
      clear hb
      (try clear n0 n1)
      have n0 := cell_of (hs.cells 0 rfl) 0
      have n1 := cell_of (hs.cells 0 rfl) 1
      simp only [List.getElem?_toArray, List.getElem?_cons_zero, List.getElem?_cons_succ] at n0 n1
      go_wp2_with fail
      refine (along_any n a c es _ fl _ arcs 0 _ (hs.rdG h) (hs.rd h') (hs.rd ha) he).mono ?_
      rintro en w3 ⟨u3, rfl, k3⟩
      by_cases hz : alongE n es fl arcs 0 = 0
      · have HW := Lib.hid (along_zero hz).1
        have HR := Lib.hid (along_zero hz).2
        rw [hz]
        clear hz
        have HM := Lib.hid (along_more HW.out HR.out)
        rw [← HB.out] at HM
        have hb0 := bottle_bound n es fl arcs
        rw [← HB.out] at hb0
        obtain ⟨hB0, hB1⟩ := hb0
        obtain ⟨uv, hu⟩ : ∃ x, x = alongV n es fl arcs 0 := ⟨_, rfl⟩
        rw [← hu] at k3
        clear hu
        replace hs := hs.join k3
        clear k3
        simp only [List.cons_append, List.nil_append] at hs
        (try clear n0 n1)
        have n0 := cell_of (hs.cells 1 rfl) 0
        have n1 := cell_of (hs.cells 1 rfl) 1
        simp only [List.getElem?_toArray, List.getElem?_cons_zero, List.getElem?_cons_succ] at n0 n1
        go_wp2_with fail
        refine (along_any n a c es _ fl _ arcs B _ (hs.rdG h) (hs.rd h') (hs.rd ha) he).mono ?_
        rintro en w4 ⟨u4, rfl, k4⟩
        rw [HM.out.1]
        generalize alongV n es fl arcs B = uv4 at *
        replace hs := hs.join k4
        clear k4
        simp only [List.cons_append, List.nil_append] at hs
        (try clear n0 n1)
        have n0 := cell_of (hs.cells 2 rfl) 0
        have n1 := cell_of (hs.cells 2 rfl) 1
        simp only [List.getElem?_toArray, List.getElem?_cons_zero, List.getElem?_cons_succ] at n0 n1
        go_wp2_with fail
        refine (along_any n a c es _ fl _ arcs (B + 1) _ (hs.rdG h) (hs.rd h') (hs.rd ha) he).mono ?_
        rintro en w5 ⟨u5, rfl, k5⟩
        rw [HM.out.2]
        generalize alongV n es fl arcs (B + 1) = uv5 at *
        replace hs := hs.join k5
        clear k5
        simp only [List.cons_append, List.nil_append] at hs
        (try clear n0 n1)
        have n0 := cell_of (hs.cells 3 rfl) 0
        have n1 := cell_of (hs.cells 3 rfl) 1
        simp only [List.getElem?_toArray, List.getElem?_cons_zero, List.getElem?_cons_succ] at n0 n1
        have hpos := (way_cap HW.out).1
        have hr := bottle_room HW.out HR.out
        rw [← HB.out] at hr
        obtain ⟨A0, hA0⟩ : ∃ A0, A0 = arcs.getD 0 0 := ⟨_, rfl⟩
        rw [← hA0] at hr
        have HA0 := Lib.hid hA0
        have HRM := Lib.hid hr
        clear hr hA0
        go_wp2_with fail
        refine wp_loopM [none, none, none, none, none, none, none, none, none, none, none, none, none, none, some 14, some 15, none, none, none, none, none, none, none, none, none, none, none, none, none, none, none, none, none, none, none, none, none, none, none, none, none, none, none, none, none, none, none, none, none, none, none, none, none, none, none, none, none, none, none, none, none, some 61, some 62, some 63, some 64, some 65, some 66, some 67, some 68, some 69, some 70, some 71, some 72, some 73, some 74, some 75, some 76, some 77, none, none, none, none, none, none, none, none, none, none, none, none, none, none, none, none, none, none] (fun (r : Nat) (f : Nat → Value) (wr : World) => (fun (v vl : Value) => ∃ (i : Nat), v = .int .i64 i ∧ vl = .int .i64 (if i = 0 then B else roomV n es fl A0) ∧ i ≤ 1 ∧ r = 1 - i ∧ Sep w wr [cellsT w.heap.size #[.int .i64 n, .slice a es.length c] 24]) (f 15) (f 14)) (1) (by kernel_rfl) ?atStart1 ?round1
        case' atStart1 => (try dsimp only [nthV])
        case' round1 =>
          intro gk f wr l hl hrel J1 K1 hJ1 hK1
          (try simp only [mask] at hl)
          generalize f 15 = u15 at hl hrel
          generalize f 14 = u14 at hl hrel
          subst hl
          (try dsimp only at hrel)
        case atStart1 => exact ⟨0, rfl, rfl, Nat.zero_le _, rfl, ((hs.tail).tail).tail⟩
        case round1 =>
          clear hs n0 n1
          obtain ⟨i, rfl, rfl, hi, rfl, hs⟩ := hrel
          by_cases hlt : i = 0
          · subst hlt
            obtain ⟨b3, o3, e3, hb3, x0⟩ := (hs.rd ha).at 0 hpos
            subst e3
            have hne : arcs ≠ [] := fun e => by rw [e] at hpos; simp at hpos
            rw [← HA0.out] at x0
            simp only [Nat.add_zero] at x0
            (try clear n0 n1)
            have n0 := cell_of (hs.cells 0 rfl) 0
            have n1 := cell_of (hs.cells 0 rfl) 1
            simp only [List.getElem?_toArray, List.getElem?_cons_zero, List.getElem?_cons_succ] at n0 n1
            go_wp2_with fail
            refine Mix.region [0, 0, 0, 0, 0, 0, 2, 0] (fun _ => True) (by kernel_rfl) (by kernel_rfl) trivial ?_
            simp only [List.zip_cons_cons, List.zip_nil_right]
            iterate 6 (refine Mix.step0 fun K hK => ?_; go_simp; (try (go_bits; try go_simp)); first | ((with_reducible refine hK _ _ ?_); clear hK K) | ((try (simp only [IntWalk.iteOmega]; try go_simp)); (try go_bits); (with_reducible refine hK _ _ ?_); clear hK K))
            refine Mix.step2n (by first | rfl | simp [Region.wanted, yielded]) fun K hK => ?_
            go_wp2_with fail
            replace hs := hs.drew
            refine (roomX_any n a c es _ fl _ _ (hs.rdG h) (hs.rd h') he).mono ?_
            rintro en w6 ⟨rfl, hb⟩
            replace hs := hs.belowStep hb
            clear hb
            (try clear n0 n1)
            have n0 := cell_of (hs.cells 0 rfl) 0
            have n1 := cell_of (hs.cells 0 rfl) 1
            simp only [List.getElem?_toArray, List.getElem?_cons_zero, List.getElem?_cons_succ] at n0 n1
            go_wp2_with fail
            refine Mix.post_mk (C := (fun _ => True)) trivial (hK _ _ ?_)
            clear hK K
            iterate 1 (refine Mix.step0 fun K hK => ?_; go_simp; (try (go_bits; try go_simp)); first | ((with_reducible refine hK _ _ ?_); clear hK K) | ((try (simp only [IntWalk.iteOmega]; try go_simp)); (try go_bits); (with_reducible refine hK _ _ ?_); clear hK K))
            refine Mix.done ?_
            go_wp2_with fail
            refine Round.intro (0) ?measure2 (by kernel_rfl) (hJ1 _ _ _ ?rel2)
            case' rel2 => (try dsimp only [nthV])
            case measure2 => omega
            case rel2 => exact ⟨1, rfl, rfl, Nat.le_refl _, rfl, hs⟩
          · obtain rfl : i = 1 := by omega
            have hr := HRM.out
            rw [if_neg (by decide)]
            generalize roomV n es fl A0 = Rm at *
            go_wp2_with fail
            all_goals
              refine (works_any _).mono ?_
              rintro en wz ⟨rfl, hb⟩
              go_wp2_with fail
              go_ret
              exact ⟨rfl, (hs.belowStep hb).below⟩
      · have HZ := Lib.hid (along_zero' hz)
        rw [← HB.out] at HZ
        have hz0 := HZ.out
        subst hz0
        generalize alongE n es fl arcs 0 = E at *
        have hE : (E != 0) = true := by simp [hz]
        generalize alongV n es fl arcs 0 = uv at *
        replace hs := hs.join k3
        clear k3
        simp only [List.cons_append, List.nil_append] at hs
        (try clear n0 n1)
        have n0 := cell_of (hs.cells 1 rfl) 0
        have n1 := cell_of (hs.cells 1 rfl) 1
        simp only [List.getElem?_toArray, List.getElem?_cons_zero, List.getElem?_cons_succ] at n0 n1
        clear n0 n1
        go_wp2_with fail
        refine (works_any _).mono ?_
        rintro en wz ⟨rfl, hb⟩
        go_wp2_with fail
        go_ret
        exact ⟨rfl, (hs.belowStep hb).below⟩
end Go.Proofs.Ytmfjfhmoljnnkaa
