/-
  The reference's rests (gabletref12), walked: Way, Along.
-/
import Derived.Test.YtmfjfhmoljnnkaaRRef
namespace Go.Proofs.Ytmfjfhmoljnnkaa
open Go Go.RowKit Go.Mem Go.NetP Go.RestP

set_option maxHeartbeats 2000000 in
/-- Of a net that is right. -/
theorem rway_any (n : Int) (a : Option Addr) (c : Nat) (es : List Ed) (v : Value) (arcs : List Int) (w : World) (h : RdG edR w (.slice a es.length c) es) (h' : Rd .i64 w v arcs) (hsm : es.length ≤ 100000) (hr : rightB n es = true) :
    Calls Try.prog 40 #[.agg #[.int .i64 n, .slice a es.length c], v] w fun en w' => en = .returned (.bool (wayB n es arcs)) ∧ Below w.heap.size w w' := by
  have hs := (Sep.start w).newCells #[.int .i64 n, .slice a es.length c] 24
  have hle := h'.le'
  obtain ⟨a', c', rfl⟩ := h'.shape
  have HR := Lib.hid hr
  clear hr
  go_enter Try.func40, Try.ntmps40
  go_wp2_with fail
  refine wp_loopM [none, none, none, none, some 4, some 5, some 6, some 7, some 8, some 9, some 10, some 11, some 12, some 13, some 14, some 15, some 16, some 17, some 18, some 19, some 20, some 21, some 22, some 23, some 24, some 25, some 26, some 27, some 28, some 29, some 30, some 31, some 32, some 33, some 34, some 35, some 36, some 37, some 38, some 39, some 40, some 41, some 42, some 43, some 44, some 45, some 46, some 47, some 48, some 49, some 50, none, none, none] (fun (r : Nat) (f : Nat → Value) (wr : World) => (fun (v : Value) => ∃ i : Nat, v = .int .i64 i ∧ i ≤ arcs.length ∧ r = arcs.length - i ∧ okW es arcs i = true ∧ Sep w wr [cellsT w.heap.size #[.int .i64 n, .slice a es.length c] 24]) (f 5)) (arcs.length) (by kernel_rfl) ?atStart1 ?round1
  case' atStart1 => (try dsimp only [nthV])
  case' round1 =>
    intro gk f wr l hl hrel J1 K1 hJ1 hK1
    (try simp only [mask] at hl)
    generalize f 5 = u5 at hl hrel
    subst hl
    (try dsimp only at hrel)
  case atStart1 => exact ⟨0, rfl, Nat.zero_le _, rfl, rfl, hs⟩
  case round1 =>
    clear hs
    obtain ⟨i, rfl, hi, rfl, hok, hs⟩ := hrel
    have HOK := Lib.hid hok
    clear hok
    by_cases hlt : i < arcs.length
    · obtain ⟨b2, o2, e2, hb2, x0⟩ := (hs.rd h').at i hlt
      subst e2
      have HRW := Lib.hid (fun (W : World) (L : List Thing) (h : Sep w W L) (j : Nat) (hj : j < arcs.length) => (h.rd h').at j hj)
      obtain ⟨x, hx⟩ : ∃ x, x = arcs.getD i 0 := ⟨_, rfl⟩
      rw [← hx] at x0
      have HX := Lib.hid hx
      clear hx
      have n0 := cell_of (hs.cells 0 rfl) 0
      have n1 := cell_of (hs.cells 0 rfl) 1
      simp only [List.getElem?_toArray, List.getElem?_cons_zero, List.getElem?_cons_succ] at n0 n1
      go_wp2_with fail
      refine Mix.region [0, 0, 0, 0, 0, 2, 0] (fun _ => True) (by kernel_rfl) (by kernel_rfl) trivial ?_
      simp only [List.zip_cons_cons, List.zip_nil_right]
      iterate 5 (refine Mix.step0 fun K hK => ?_; go_simp; (try (go_bits; try go_simp)); first | ((with_reducible refine hK _ _ ?_); clear hK K) | ((try (simp only [IntWalk.iteOmega]; try go_simp)); (try go_bits); (with_reducible refine hK _ _ ?_); clear hK K))
      refine Mix.step2n (by first | rfl | simp [Region.wanted, yielded]) fun K hK => ?_
      go_wp2_with fail
      refine (rhas_any n _ es.length c x _ (by omega)).mono ?_
      rintro en w2 ⟨rfl, hb⟩
      replace hs := hs.drew.belowStep hb
      clear hb n0 n1 x0
      go_wp2_with fail
      refine Mix.post_mk (C := (fun _ => True)) trivial (hK _ _ ?_)
      clear hK K
      iterate 1 (refine Mix.step0 fun K hK => ?_; go_simp; (try (go_bits; try go_simp)); first | ((with_reducible refine hK _ _ ?_); clear hK K) | ((try (simp only [IntWalk.iteOmega]; try go_simp)); (try go_bits); (with_reducible refine hK _ _ ?_); clear hK K))
      refine Mix.done ?_
      cases hh : hasB es.length x
      · have HE := Lib.hid (way_step (n := n) (es := es) hlt (by unfold stepB; rw [← HX.out, hh]; rfl))
        clear hh
        go_wp2_with fail
        go_ret
        exact ⟨by rw [HE.out]; rfl, hs.below⟩
      · have hi2 := (hasB_iff _ _).1 hh
        have HH := Lib.hid hh
        have HI := Lib.hid (show arcAt arcs i = x.toNat by unfold arcAt; rw [← HX.out])
        have HEN := Lib.hid (show endsV n es x = endsE es x.toNat by simp [endsV, hh, HR.out])
        clear hi2 hh
        obtain ⟨b3, o3, e3, hb3, x0⟩ := HRW.out _ _ hs i hlt
        injection e3 with e3
        injection e3 with e3 e4
        subst e3; subst e4
        rw [← HX.out] at x0
        have n0 := cell_of (hs.cells 0 rfl) 0
        have n1 := cell_of (hs.cells 0 rfl) 1
        simp only [List.getElem?_toArray, List.getElem?_cons_zero, List.getElem?_cons_succ] at n0 n1
        go_wp2_with fail
        refine Mix.region [0, 0, 0, 0, 0, 2, 0, 0, 0, 0, 0, 0, 0] (fun _ => True) (by kernel_rfl) (by kernel_rfl) trivial ?_
        simp only [List.zip_cons_cons, List.zip_nil_right]
        iterate 5 (refine Mix.step0 fun K hK => ?_; go_simp; (try (go_bits; try go_simp)); first | ((with_reducible refine hK _ _ ?_); clear hK K) | ((try (simp only [IntWalk.iteOmega]; try go_simp)); (try go_bits); (with_reducible refine hK _ _ ?_); clear hK K))
        refine Mix.step2n (by first | rfl | simp [Region.wanted, yielded]) fun K hK => ?_
        go_wp2_with fail
        refine (rends_any n a c es x _ (hs.drew.rdG h) hsm).mono ?_
        rintro en w3 ⟨rfl, hb⟩
        replace hs := hs.drew.belowStep hb
        clear hb n0 n1 x0
        rw [HEN.out]
        go_wp2_with fail
        refine Mix.post_mk (C := (fun _ => True)) trivial (hK _ _ ?_)
        clear hK K
        iterate 7 (refine Mix.step0 fun K hK => ?_; go_simp; (try (go_bits; try go_simp)); first | ((with_reducible refine hK _ _ ?_); clear hK K) | ((try (simp only [IntWalk.iteOmega]; try go_simp)); (try go_bits); (with_reducible refine hK _ _ ?_); clear hK K))
        refine Mix.done ?_
        obtain ⟨F, hF⟩ : ∃ F, F = (endsE es x.toNat).1 := ⟨_, rfl⟩
        rw [← hF]
        have HF := Lib.hid hF
        clear hF
        by_cases hi0 : i = 0
        · have HS := Lib.hid (show okW es arcs (i + 1) = true by rw [okW_succ, HOK.out]; unfold stepB; rw [← HX.out, HH.out, hi0]; rfl)
          have hd : decide (0 < (i : Int)) = false := by simp; omega
          go_wp2_with fail
          refine Round.intro (arcs.length - (i + 1)) ?measure2 (by kernel_rfl) (hJ1 _ _ _ ?rel2)
          case' rel2 => (try dsimp only [nthV])
          case measure2 => omega
          case rel2 => exact ⟨i + 1, by go_num, hlt, rfl, HS.out, hs⟩
        · have hd : decide (0 < (i : Int)) = true := by simp; omega
          obtain ⟨b3, o3, e3, hb3, x1⟩ := HRW.out _ _ hs (i - 1) (by omega)
          injection e3 with e3
          injection e3 with e3 e4
          subst e3; subst e4
          obtain ⟨y, hy⟩ : ∃ y, y = arcs.getD (i - 1) 0 := ⟨_, rfl⟩
          rw [← hy] at x1
          have HY := Lib.hid hy
          have hsp := step_has (es := es) (j := i - 1) (arcs := arcs) (List.all_eq_true.1 HOK.out (i - 1) (List.mem_range.2 (by omega)))
          rw [← hy] at hsp
          have HEY := Lib.hid (show endsV n es y = endsE es y.toNat by simp [endsV, hsp, HR.out])
          clear hy hsp
          have n0 := cell_of (hs.cells 0 rfl) 0
          have n1 := cell_of (hs.cells 0 rfl) 1
          simp only [List.getElem?_toArray, List.getElem?_cons_zero, List.getElem?_cons_succ] at n0 n1
          go_wp2_with fail
          refine Mix.region [0, 0, 0, 0, 0, 0, 2, 0, 0, 0, 0, 0, 0, 0] (fun _ => True) (by kernel_rfl) (by kernel_rfl) trivial ?_
          simp only [List.zip_cons_cons, List.zip_nil_right]
          iterate 6 (refine Mix.step0 fun K hK => ?_; go_simp; (try (go_bits; try go_simp)); first | ((with_reducible refine hK _ _ ?_); clear hK K) | ((try (simp only [IntWalk.iteOmega]; try go_simp)); (try go_bits); (with_reducible refine hK _ _ ?_); clear hK K))
          refine Mix.step2n (by first | rfl | simp [Region.wanted, yielded]) fun K hK => ?_
          go_wp2_with fail
          refine (rends_any n a c es y _ (hs.drew.rdG h) hsm).mono ?_
          rintro en w4 ⟨rfl, hb⟩
          replace hs := hs.drew.belowStep hb
          clear hb n0 n1 x1
          rw [HEY.out]
          go_wp2_with fail
          refine Mix.post_mk (C := (fun _ => True)) trivial (hK _ _ ?_)
          clear hK K
          iterate 7 (refine Mix.step0 fun K hK => ?_; go_simp; (try (go_bits; try go_simp)); first | ((with_reducible refine hK _ _ ?_); clear hK K) | ((try (simp only [IntWalk.iteOmega]; try go_simp)); (try go_bits); (with_reducible refine hK _ _ ?_); clear hK K))
          refine Mix.done ?_
          obtain ⟨Z, hZ⟩ : ∃ Z, Z = (endsE es y.toNat).2.1 := ⟨_, rfl⟩
          rw [← hZ]
          have HZ := Lib.hid hZ
          clear hZ
          have HLZ := Lib.hid (show (endsE es (arcAt arcs (i - 1))).2.1 = Z by rw [HZ.out]; unfold arcAt; rw [← HY.out])
          by_cases hfz : Z = F
          · have HS := Lib.hid (show okW es arcs (i + 1) = true by rw [okW_succ, HOK.out]; unfold stepB; rw [← HX.out, HH.out, HI.out, HLZ.out, ← HF.out, hfz]; simp)
            have hd2 : (Z != F) = false := by simpa using hfz
            clear hfz
            go_wp2_with fail
            refine Round.intro (arcs.length - (i + 1)) ?measure3 (by kernel_rfl) (hJ1 _ _ _ ?rel3)
            case' rel3 => (try dsimp only [nthV])
            case measure3 => omega
            case rel3 => exact ⟨i + 1, by go_num, hlt, rfl, HS.out, hs⟩
          · have HE := Lib.hid (way_step (n := n) (es := es) hlt (by unfold stepB; rw [← HX.out, HH.out, HI.out, HLZ.out, ← HF.out]; simp [hi0]; exact fun e => hfz e.symm))
            have hd2 : (Z != F) = true := by simpa using hfz
            clear hfz
            go_wp2_with fail
            go_ret
            exact ⟨by rw [HE.out]; rfl, hs.below⟩
    · obtain rfl : i = arcs.length := by omega
      have HE := Lib.hid (show wayB n es arcs = decide (0 < arcs.length) by simp [wayB, HR.out, HOK.out])
      go_wp2_with fail
      go_ret
      exact ⟨by rw [HE.out]; rfl, hs.below⟩

set_option maxHeartbeats 2000000 in
theorem ralong_any (n : Int) (a : Option Addr) (c : Nat) (es : List Ed) (v : Value) (fl : List Int) (va : Value) (arcs : List Int) (b : Int) (w : World) (h : RdG edR w (.slice a es.length c) es) (h' : Rd .i64 w v fl) (ha : Rd .i64 w va arcs) (hsm : es.length ≤ 100000) :
    Calls Try.prog 22 #[.agg #[.int .i64 n, .slice a es.length c], v, va, .int .i64 b] w fun en w' => ∃ u, en = .returned (.tuple #[u, .int .i64 (alongE n es fl arcs b)]) ∧ Rd .i64 w' u (alongV n es fl arcs b) ∧ Below w.heap.size w w' := by
  have hs := (Sep.start w).newCells #[.int .i64 n, .slice a es.length c] 24
  have hle := ha.le'
  obtain ⟨a', c', rfl⟩ := h'.shape
  obtain ⟨a2, c2, rfl⟩ := ha.shape
  go_enter Try.func22, Try.ntmps22
  go_wp2_with fail
  refine (rwithin_any n a c es _ fl _ (hs.rdG h) (hs.rd h')).mono ?_
  rintro en w2 ⟨rfl, hb⟩
  replace hs := hs.belowStep hb
  clear hb; (try clear n0 n1)
  cases hr : withinB n es fl
  · have HE := Lib.hid (along_bad (n := n) (es := es) (fl := fl) (arcs := arcs) (b := b) (by simp [alongBad, hr]))
    clear hr
    go_wp2_with fail
    go_ret2
    exact ⟨_, by rw [HE.out.1]; rfl, by rw [HE.out.2]; exact Rd.nil _ _, hs.below⟩
  · have HR := Lib.hid hr
    clear hr
    by_cases hb0 : b < 0
    · have HE := Lib.hid (along_bad (n := n) (es := es) (fl := fl) (arcs := arcs) (b := b) (by simp [alongBad, hb0]))
      go_wp2_with fail
      go_ret2
      exact ⟨_, by rw [HE.out.1]; rfl, by rw [HE.out.2]; exact Rd.nil _ _, hs.below⟩
    · have n0 := cell_of (hs.cells 0 rfl) 0
      have n1 := cell_of (hs.cells 0 rfl) 1
      simp only [List.getElem?_toArray, List.getElem?_cons_zero, List.getElem?_cons_succ] at n0 n1
      go_wp2_with fail
      refine (rway_any n a c es _ arcs _ (hs.rdG h) (hs.rd ha) hsm (within_cap HR.out).2.1).mono ?_
      rintro en w1 ⟨rfl, hb⟩
      replace hs := hs.belowStep hb
      clear hb; (try clear n0 n1)
      cases hw : wayB n es arcs
      · have HE := Lib.hid (along_bad (n := n) (es := es) (fl := fl) (arcs := arcs) (b := b) (by simp [alongBad, hw]))
        clear hw
        go_wp2_with fail
        go_ret2
        exact ⟨_, by rw [HE.out.1]; rfl, by rw [HE.out.2]; exact Rd.nil _ _, hs.below⟩
      · have HBAD := Lib.hid (show alongBad n es fl arcs b = false by simp [alongBad, hw, HR.out]; omega)
        have HW := Lib.hid hw
        clear hw
        have hrf := hs.rd h'
        go_wp2_with fail
        refine wp_loopM [none, none, none, none, none, none, none, none, some 8, some 9, some 10, some 11, some 12, some 13, none, none, none, none, none, none, none, none, none, none, none, none, none, none, none, some 29, some 30, some 31, some 32, some 33, some 34, some 35, some 36, some 37, some 38, some 39, some 40, some 41, some 42, some 43, some 44, some 45, some 46, some 47, some 48, some 49, none] (fun (r : Nat) (f : Nat → Value) (wr : World) => (fun (v vo : Value) => ∃ (i : Nat) (l : List Int), v = .int .i64 i ∧ i ≤ arcs.length ∧ r = arcs.length - i ∧ alongF es fl b (arcs.take i) = some l ∧ withinB n es l = true ∧ Rd .i64 wr vo l ∧ Sep w wr [cellsT w.heap.size #[.int .i64 n, .slice a es.length c] 24]) (f 11) (f 10)) (arcs.length) (by kernel_rfl) ?atStart4 ?round4
        case' atStart4 => (try dsimp only [nthV])
        case' round4 =>
          intro gk f wr l hl hrel J1 K1 hJ1 hK1
          (try simp only [mask] at hl)
          generalize f 11 = u11 at hl hrel
          generalize f 10 = u10 at hl hrel
          subst hl
          (try dsimp only at hrel)
        case atStart4 => exact ⟨0, fl, rfl, Nat.zero_le _, rfl, rfl, HR.out, hrf, hs⟩
        case round4 =>
          clear hs hrf
          obtain ⟨i, l, rfl, hi, rfl, hal, hwl, hrl, hs⟩ := hrel
          have HAL := Lib.hid hal
          have HWL := Lib.hid hwl
          clear hal hwl
          by_cases hlt : i < arcs.length
          · obtain ⟨b2, o2, e2, hb2, x0⟩ := (hs.rd ha).at i hlt
            subst e2
            have hst := step_has ((way_cap HW.out).2.2 i hlt)
            obtain ⟨I, hI⟩ : ∃ I : Nat, arcs.getD i 0 = I := ⟨_, has_cast hst⟩
            rw [hI] at x0 hst
            have HI := Lib.hid hI
            have HH := Lib.hid hst
            have HSU := Lib.hid (along_succ (es := es) (fl := fl) (b := b) hlt)
            clear hI hst
            have n0 := cell_of (hs.cells 0 rfl) 0
            have n1 := cell_of (hs.cells 0 rfl) 1
            simp only [List.getElem?_toArray, List.getElem?_cons_zero, List.getElem?_cons_succ] at n0 n1
            have HRL := Lib.hid (hrl.below ((Below.refl _ _).drew))
            clear hrl
            go_wp2_with fail
            refine Mix.region [0, 0, 0, 0, 0, 0, 0, 2, 0, 0, 0, 0, 0] (fun _ => True) (by kernel_rfl) (by kernel_rfl) trivial ?_
            simp only [List.zip_cons_cons, List.zip_nil_right]
            iterate 7 (refine Mix.step0 fun K hK => ?_; go_simp; (try (go_bits; try go_simp)); first | ((with_reducible refine hK _ _ ?_); clear hK K) | ((try (simp only [IntWalk.iteOmega]; try go_simp)); (try go_bits); (with_reducible refine hK _ _ ?_); clear hK K))
            refine Mix.step2n (by first | rfl | simp [Region.wanted, yielded]) fun K hK => ?_
            go_wp2_with fail
            refine (rpush_any n a c es _ l I b _ (hs.drew.rdG h) HRL.out hsm).mono ?_
            rintro en w5 ⟨u, rfl, hs5⟩
            replace hs := hs.drew.join hs5
            clear hs5 n0 n1 x0
            simp only [List.cons_append, List.nil_append] at hs
            go_wp2_with fail
            refine Mix.post_mk (C := (fun _ => True)) trivial (hK _ _ ?_)
            clear hK K
            iterate 5 (refine Mix.step0 fun K hK => ?_; go_simp; (try (go_bits; try go_simp)); first | ((with_reducible refine hK _ _ ?_); clear hK K) | ((try (simp only [IntWalk.iteOmega]; try go_simp)); (try go_bits); (with_reducible refine hK _ _ ?_); clear hK K))
            refine Mix.done ?_
            by_cases hbr : roomE es l I < b
            · have HP := Lib.hid (pushE_full (n := n) (es := es) (fl := l) (a := (I : Int)) (b := b) (by omega) HH.out HWL.out (by simpa using hbr))
              have HE := Lib.hid (along_full (n := n) HBAD.out (along_stop (i := i + 1) (by rw [HSU.out, HAL.out, HI.out]; simp [alongO, hbr])))
              rw [HP.out.1]
              go_wp2_with fail
              go_ret2
              exact ⟨_, by rw [HE.out.1]; rfl, by rw [HE.out.2]; exact Rd.nil _ _, hs.below⟩
            · have HP := Lib.hid (pushE_ok (n := n) (es := es) (fl := l) (a := (I : Int)) (b := b) (by omega) HH.out HWL.out (by simpa using hbr))
              have HN := Lib.hid (show alongF es fl b (arcs.take (i + 1)) = some (pushL l I b) by rw [HSU.out, HAL.out, HI.out]; simp [alongO, hbr])
              have HWN := Lib.hid (push_within HWL.out HH.out (by omega) (by omega : b ≤ roomE es l I))
              have HRN := Lib.hid (hs.rdInts 0 rfl)
              rw [HP.out.2] at HRN
              simp only [Int.toNat_natCast] at HRN
              rw [HP.out.1]
              replace hs := hs.tail
              go_wp2_with fail
              refine Round.intro (arcs.length - (i + 1)) ?measure5 (by kernel_rfl) (hJ1 _ _ _ ?rel5)
              case' rel5 => (try dsimp only [nthV])
              case measure5 => omega
              case rel5 => exact ⟨i + 1, _, by go_num, hlt, rfl, HN.out, HWN.out, HRN.out, hs⟩
          · obtain rfl : i = arcs.length := by omega
            rw [List.take_length] at HAL
            have HE := Lib.hid (along_ok (n := n) HBAD.out HAL.out)
            have HRL := Lib.hid hrl
            clear hrl
            go_wp2_with fail
            go_ret2
            exact ⟨_, by rw [HE.out.1]; rfl, by rw [HE.out.2]; exact HRL.out, hs.below⟩
end Go.Proofs.Ytmfjfhmoljnnkaa
