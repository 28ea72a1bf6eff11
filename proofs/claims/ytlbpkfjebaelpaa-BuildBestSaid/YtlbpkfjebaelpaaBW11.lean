/-
  Package build, walked: Permit itself.
-/
import Derived.Test.YtlbpkfjebaelpaaBC
set_option linter.unusedVariables false
set_option linter.unusedSimpArgs false
namespace Go.Proofs.Ytlbpkfjebaelpaa
open Go Go.RowKit Go.Mem Go.MoneyP Go.NetP Go.BuildP Go.Shelf
set_option maxHeartbeats 4000000 in
set_option maxRecDepth 100000 in
theorem permit_any (rooms : List Int) (l : List Du) (c : Bool) (ps : List Int) (vr vl vp : Value) (w : World) (hr : Rd .i64 w vr rooms) (h : RdG duR w vl l) (hp : Rd .i64 w vp ps) (hsm : l.length ≤ 1000) (hsr : rooms.length ≤ 1000000) :
    Calls Try.prog 12 #[vr, vl, .bool c, vp] w fun en w' => en = .returned (.bool (permitB rooms l c ps)) ∧ Below w.heap.size w w' := by
  obtain ⟨i0, hi0, hz0, hz1, hz2⟩ := info_parts Try.infoI64b
  have hzv : ∀ w : World, (zeroValue 2).run Try.prog w = .ok (.int .i64 0) w := fun w => by simp [zeroValue, typeInfo, hi0, hz0]
  have HZV := Lib.hid hzv
  clear hzv hi0 hz0 hz1 hz2 i0
  obtain ⟨ar, cr, rfl⟩ := hr.shape
  obtain ⟨ap, cp, rfl⟩ := hp.shape
  have hle := hr.le'
  have hlp := hp.le'
  have hs0 := (Sep.start w).newCells #[.bool c] 4
  have RR := Lib.hid (right_b rooms l _ vl _ (hs0.rd hr) (hs0.rdG h) (by omega))
  cases hrt : rightR rooms l
  · rw [hrt] at RR
    have HE := Lib.hid (show permitB rooms l c ps = false by simp [permitB, hrt])
    clear hrt
    go_enter Try.func12, Try.ntmps12
    go_wp2_with fail
    refine (RR.out).mono ?_
    rintro en w2 ⟨rfl, hb⟩
    go_wp2_with fail
    go_ret
    exact ⟨by rw [HE.out]; rfl, (hs0.belowStep hb).below⟩
  rw [hrt] at RR
  have HRT := Lib.hid hrt
  clear hrt
  go_enter Try.func12, Try.ntmps12
  go_wp2_with fail
  refine (RR.out).mono ?_
  rintro en w1 ⟨rfl, hb⟩
  replace hs0 := hs0.belowStep hb
  clear hb RR
  go_wp2_with fail
  refine (open_any l vl _ (hs0.rdG h) hsm).mono ?_
  rintro en w2 ⟨uo, rfl, k1⟩
  have hs := hs0.join k1
  simp only [List.cons_append, List.nil_append] at hs
  clear hs0 k1
  obtain ⟨O, hO⟩ : ∃ O, O = openL l := ⟨_, rfl⟩
  rw [← hO] at hs
  have hol : O.length ≤ 1000 := by rw [hO]; exact Nat.le_trans (open_le l) hsm
  obtain ⟨ao, co, rfl⟩ := (hs.rdWin 0 rfl).shape
  have HO := Lib.hid hO
  clear hO
  by_cases hlen : O.length = ps.length
  rotate_left
  · have HE := Lib.hid (show permitB rooms l c ps = false by simp [permitB, ← HO.out, hlen])
    have eL : ((O.length : Int) != (ps.length : Int)) = true := by simpa using (fun q => hlen (by omega))
    clear hlen
    go_wp2_with fail
    go_ret
    exact ⟨by rw [HE.out]; rfl, hs.below⟩
  have HPE := Lib.hid (show permitB rooms l c ps = permitQ rooms (O.zip ps) c by simp [permitB, HRT.out, ← HO.out, hlen])
  have HRQ := Lib.hid (show RoundQ rooms.length O ps by rw [HO.out] at hlen ⊢; exact roundQ HRT.out hlen)
  have HMR := Lib.hid (right_parts HRT.out).2.2.1
  have eL : ((ps.length : Int) != (ps.length : Int)) = false := by simp
  have HLEN := Lib.hid hlen
  rw [hlen] at hs hol ⊢
  clear hlen HO HRT
  go_wp2_with fail
  refine (bclone_any _ rooms _ (hs.rd hr) hsr).mono ?_
  rintro en w3 ⟨ul, rfl, k1⟩
  replace hs := hs.join k1
  simp only [List.cons_append, List.nil_append] at hs
  clear k1
  obtain ⟨al, cl, rfl⟩ := (hs.rdInts 0 rfl).shape
  have cB := cell_of (hs.cells 2 rfl) 0
  simp only [List.getElem?_toArray, List.getElem?_cons_zero] at cB
  go_upto_if 25 with fail
  refine wp_cutM [none, none, none, none, none, none, none, none, none, none, none, none, none, none, none, none, none, none, none, none, none, none, none, none, none, none, some 26, none, none, none, none, none, none, none, none, none, none, none, none, none, none, none, none, none, none, none, none, none, none, none, none, none, none, none, none, none, none, none, none, none, none, none, none, none, none, none, none, none, none, none, none, none, none, none, none] (fun (f : Nat → Value) (wq : World) => Sep w wq [intsT .i64 2 (.slice al rooms.length cl) (startL rooms c), winT duR (.slice ao ps.length co) O, cellsT w.heap.size #[.bool c] 4]) ?first1 ?rest1
  case' first1 => intro JC KC hJC hKC
  case' rest1 =>
    intro f wr l hl hrel
    (try simp only [mask] at hl)
    subst hl
    (try dsimp only at hrel)
  case first1 =>
    cases c
    · go_wp2_with fail
      refine Meet.intro (by kernel_rfl) (hJC _ _ ?rel2)
      case' rel2 => (try dsimp only [nthV])
      exact hs
    · go_wp2_with (refine wpList_clearInts rfl (.tmp 26) 22 2 .i64 rfl Try.underlying22 HZV.out _ rooms hs 0 rfl rfl ?clr)
      case clr =>
        intro w5 hs5
        (try simp only [List.set_cons_zero] at hs5)
        clear hs
        go_wp2_with fail
        refine Meet.intro (by kernel_rfl) (hJC _ _ ?rel3)
        case' rel3 => (try dsimp only [nthV])
        exact hs5
  case rest1 =>
    clear hs cB
    have hs := hrel
    clear hrel
    go_wp2_with fail
    refine wp_loopM [none, none, none, none, none, none, none, none, some 8, none, some 10, some 11, none, none, none, none, none, none, none, none, none, none, none, none, none, none, none, none, none, some 29, some 30, some 31, some 32, some 33, some 34, some 35, some 36, some 37, some 38, some 39, some 40, some 41, some 42, some 43, some 44, some 45, some 46, some 47, some 48, some 49, some 50, some 51, some 52, some 53, some 54, some 55, some 56, some 57, some 58, some 59, some 60, some 61, some 62, some 63, some 64, some 65, some 66, some 67, some 68, some 69, some 70, none, none, none, none] (fun (r : Nat) (f : Nat → Value) (wr : World) => (fun (v : Value) => ∃ (i : Nat) (OX : List Int), v = .int .i64 i ∧ i ≤ ps.length ∧ r = ps.length - i ∧ Hid (OX = leftQ rooms c ((O.zip ps).take i) ∧ ((O.zip ps).take i).all payB = true) ∧ Sep w wr [intsT .i64 2 (.slice al rooms.length cl) OX, winT duR (.slice ao ps.length co) O, cellsT w.heap.size #[.bool c] 4]) (f 29)) (ps.length) (by kernel_rfl) ?atStart4 ?round4
    case' atStart4 => (try dsimp only [nthV])
    case' round4 =>
      intro gk f wr l hl hrel J1 K1 hJ1 hK1
      (try simp only [mask] at hl)
      generalize f 29 = u29 at hl hrel
      subst hl
      (try dsimp only at hrel)
    case atStart4 => exact ⟨0, _, rfl, Nat.zero_le _, rfl, Lib.hid ⟨rfl, rfl⟩, hs⟩
    case round4 =>
      clear hs
      obtain ⟨i, OX, rfl, hi, rfl, HI, hs⟩ := hrel
      by_cases hlt : i < ps.length
      · have hlo : i < O.length := by rw [HLEN.out]; exact hlt
        obtain ⟨b1, o1, e1, hb1, hc1⟩ := (hs.rdWin 1 rfl).at i hlo
        subst e1
        obtain ⟨b2, o2, e2, hb2, hc2⟩ := ((hs.drew).rd hp).at i hlt
        subst e2
        obtain ⟨hz, hze⟩ := zip_at HRQ.out.len hlo
        have hmay := HRQ.out.may _ (List.getElem_mem hz)
        rw [hze] at hmay
        have HST := Lib.hid (left_step (rooms := rooms) (c := c) HRQ.out.len hlo)
        have HPS := Lib.hid (fun hpb => pay_step HRQ.out hlo HI.out.2 hpb)
        have HPX := Lib.hid (fun hpb => pay_stop (rooms := rooms) (c := c) HRQ.out.len hlo hpb)
        obtain ⟨x, hx⟩ : ∃ x, x = O[i] := ⟨_, rfl⟩
        obtain ⟨P, hP⟩ : ∃ P, P = ps.getD i 0 := ⟨_, rfl⟩
        rw [← hx, ← hP] at HST HPS HPX hmay
        rw [← hx] at hc1
        have HPP := Lib.hid hP
        clear hx hP hz hze hc2
        obtain ⟨id, f, t, xx, we, u, hh⟩ := x
        have x0 := hc1 0 (by decide)
        have x1 := hc1 1 (by decide)
        have x2 := hc1 2 (by decide)
        have x3 := hc1 3 (by decide)
        have x4 := hc1 4 (by decide)
        have x5 := hc1 5 (by decide)
        have x6 := hc1 6 (by decide)
        simp only [duR, Nat.add_zero, List.getElem?_cons_zero, List.getElem?_cons_succ] at x0 x1 x2 x3 x4 x5 x6
        clear hc1
        obtain ⟨hm1, hm2, hm3⟩ := hmay
        obtain ⟨hf0, _, ht0, _, hne, _, hxb, _, _, _⟩ := hm1
        dsimp only at hm2 hm3 hf0 ht0 hne hxb
        replace hs := hs.newCells #[.int .u64 id, .int .i64 f, .int .i64 t, .int .i64 xx, .int .i64 we, .int .i64 u, .bool hh] 45
        go_upto_region 12 with fail
        clear x0 x1 x2 x3 x4 x5 x6
        obtain ⟨BX, hBX⟩ : ∃ BX, BX = wr.heap.size := ⟨_, rfl⟩
        rw [← hBX] at hs ⊢
        have HBX := Lib.hid hBX
        clear hBX
        generalize World.alloc wr _ = W1 at hs ⊢
        have x0 := cell_of (hs.drew.cells 0 rfl) 0
        have x1 := cell_of (hs.drew.cells 0 rfl) 1
        have x2 := cell_of (hs.drew.cells 0 rfl) 2
        have x3 := cell_of (hs.drew.cells 0 rfl) 3
        have x4 := cell_of (hs.drew.cells 0 rfl) 4
        have x5 := cell_of (hs.drew.cells 0 rfl) 5
        have x6 := cell_of (hs.drew.cells 0 rfl) 6
        simp only [List.getElem?_toArray, List.getElem?_cons_zero, List.getElem?_cons_succ] at x0 x1 x2 x3 x4 x5 x6
        obtain ⟨b2', o2', e2', hb2', hc2⟩ := ((hs.drew).rd hp).at i hlt
        injection e2' with e2'
        injection e2' with q3 q4
        subst q3; subst q4
        rw [← HPP.out] at hc2
        by_cases hp0 : 0 ≤ P
        rotate_left
        · have HE := Lib.hid (HPX.out (by simp [payB]; intro q; exact absurd q hp0))
          have e1 : decide (P < 0) = true := decide_eq_true (by omega)
          clear hp0
          refine Mix.region [0, 0, 0, 0, 0, 0, 0, 0, 0, 0, 0, 0, 0, 0] (fun _ => True) (by kernel_rfl) (by kernel_rfl) trivial ?_
          simp only [List.zip_cons_cons, List.zip_nil_right]
          iterate 6 (refine Mix.step0 fun K hK => ?_; go_simp; (try (go_bits; try go_simp)); first | ((with_reducible refine hK _ _ ?_); clear hK K) | ((try (simp only [IntWalk.iteOmega]; try go_simp)); (try go_bits); (with_reducible refine hK _ _ ?_); clear hK K))
          iterate 7 (first | (refine Mix.stepS rfl fun K hK => ?_; go_simp; (with_reducible refine hK _ _ ?_); clear hK K) | (refine Mix.step0 fun K hK => ?_; go_simp; (try (go_bits; try go_simp)); first | ((with_reducible refine hK _ _ ?_); clear hK K) | ((try (simp only [IntWalk.iteOmega]; try go_simp)); (try go_bits); (with_reducible refine hK _ _ ?_); clear hK K)))
          iterate 1 (refine Mix.step0 fun K hK => ?_; go_simp; (try (go_bits; try go_simp)); first | ((with_reducible refine hK _ _ ?_); clear hK K) | ((try (simp only [IntWalk.iteOmega]; try go_simp)); (try go_bits); (with_reducible refine hK _ _ ?_); clear hK K))
          refine Mix.done ?_
          go_wp2_with fail
          go_ret
          exact ⟨by rw [HPE.out, HE.out]; rfl, hs.drew.below⟩
        have e1 : decide (P < 0) = false := decide_eq_false (by omega)
        by_cases hpx : P ≤ xx
        rotate_left
        · have HE := Lib.hid (HPX.out (by simp [payB, hpx]))
          have e2 : decide (xx < P) = true := decide_eq_true (by omega)
          clear hp0 hpx
          refine Mix.region [0, 0, 0, 0, 0, 0, 0, 0, 0, 0, 0, 0, 0, 0] (fun _ => True) (by kernel_rfl) (by kernel_rfl) trivial ?_
          simp only [List.zip_cons_cons, List.zip_nil_right]
          iterate 6 (refine Mix.step0 fun K hK => ?_; go_simp; (try (go_bits; try go_simp)); first | ((with_reducible refine hK _ _ ?_); clear hK K) | ((try (simp only [IntWalk.iteOmega]; try go_simp)); (try go_bits); (with_reducible refine hK _ _ ?_); clear hK K))
          iterate 7 (first | (refine Mix.stepS rfl fun K hK => ?_; go_simp; (with_reducible refine hK _ _ ?_); clear hK K) | (refine Mix.step0 fun K hK => ?_; go_simp; (try (go_bits; try go_simp)); first | ((with_reducible refine hK _ _ ?_); clear hK K) | ((try (simp only [IntWalk.iteOmega]; try go_simp)); (try go_bits); (with_reducible refine hK _ _ ?_); clear hK K)))
          iterate 1 (refine Mix.step0 fun K hK => ?_; go_simp; (try (go_bits; try go_simp)); first | ((with_reducible refine hK _ _ ?_); clear hK K) | ((try (simp only [IntWalk.iteOmega]; try go_simp)); (try go_bits); (with_reducible refine hK _ _ ?_); clear hK K))
          refine Mix.done ?_
          go_wp2_with fail
          go_ret
          exact ⟨by rw [HPE.out, HE.out]; rfl, hs.drew.below⟩
        have e2 : decide (xx < P) = false := decide_eq_false (by omega)
        have HA := Lib.hid (HPS.out (by simp [payB, hp0, hpx]))
        refine Mix.region [0, 0, 0, 0, 0, 0, 0, 0, 0, 0, 0, 0, 0, 0] (fun _ => True) (by kernel_rfl) (by kernel_rfl) trivial ?_
        simp only [List.zip_cons_cons, List.zip_nil_right]
        iterate 6 (refine Mix.step0 fun K hK => ?_; go_simp; (try (go_bits; try go_simp)); first | ((with_reducible refine hK _ _ ?_); clear hK K) | ((try (simp only [IntWalk.iteOmega]; try go_simp)); (try go_bits); (with_reducible refine hK _ _ ?_); clear hK K))
        iterate 7 (first | (refine Mix.stepS rfl fun K hK => ?_; go_simp; (with_reducible refine hK _ _ ?_); clear hK K) | (refine Mix.step0 fun K hK => ?_; go_simp; (try (go_bits; try go_simp)); first | ((with_reducible refine hK _ _ ?_); clear hK K) | ((try (simp only [IntWalk.iteOmega]; try go_simp)); (try go_bits); (with_reducible refine hK _ _ ?_); clear hK K)))
        iterate 1 (refine Mix.step0 fun K hK => ?_; go_simp; (try (go_bits; try go_simp)); first | ((with_reducible refine hK _ _ ?_); clear hK K) | ((try (simp only [IntWalk.iteOmega]; try go_simp)); (try go_bits); (with_reducible refine hK _ _ ?_); clear hK K))
        refine Mix.done ?_
        obtain ⟨F, rfl⟩ : ∃ F : Nat, f = F := ⟨f.toNat, by omega⟩
        obtain ⟨T, rfl⟩ : ∃ T : Nat, t = T := ⟨t.toNat, by omega⟩
        have hF : F < rooms.length := by omega
        have hT : T < rooms.length := by omega
        have hFT : F ≠ T := by omega
        have HOXl := Lib.hid (show OX.length = rooms.length by rw [HI.out.1]; exact leftQ_len _ _ _)
        obtain ⟨g, cg, eg, hg', hcR, hfr⟩ := (hs.drew.ints 1 rfl).get F (by rw [HOXl.out]; exact hF)
        injection eg with eg q1 q2
        subst eg
        have r0 := hcR F (by rw [HOXl.out]; exact hF)
        clear q1 q2
        have hnF := left_near HMR.out HRQ.out c i HI.out.2 F
        have hnT := left_near HMR.out HRQ.out c i HI.out.2 T
        rw [← HI.out.1] at hnF hnT
        obtain ⟨XF, hXF⟩ : ∃ x, x = OX.getD F 0 := ⟨_, rfl⟩
        obtain ⟨XT, hXT⟩ : ∃ x, x = OX.getD T 0 := ⟨_, rfl⟩
        rw [← hXF] at r0 hnF
        rw [← hXT] at hnT
        obtain ⟨n1, n2⟩ := hnF
        obtain ⟨n3, n4⟩ := hnT
        have HST2 := Lib.hid (show leftQ rooms c ((O.zip ps).take (i + 1)) = (OX.set F (XF - P)).set T (XT + P) by
          rw [HST.out, ← HI.out.1]
          unfold BuildP.stepL
          dsimp only
          rw [show ((F : Int)).toNat = F by omega, show ((T : Int)).toNat = T by omega, getD_set _ _ _ _ (by rw [HOXl.out]; exact hF), if_neg hFT, ← hXF, ← hXT])
        have HXT := Lib.hid (show (OX.set F (XF - P)).getD T 0 = XT by rw [getD_set _ _ _ _ (by rw [HOXl.out]; exact hF), if_neg hFT, hXT])
        clear hXF hXT hcR HST HPS HPX
        go_wp2_with fail
        refine Mix.region [0, 0, 0, 0, 0, 0, 0, 0, 0, 0, 0, 2] (fun _ => True) (by kernel_rfl) (by kernel_rfl) trivial ?_
        simp only [List.zip_cons_cons, List.zip_nil_right]
        iterate 11 (refine Mix.step0 fun K hK => ?_; go_simp; (try (go_bits; try go_simp)); first | ((with_reducible refine hK _ _ ?_); clear hK K) | ((try (simp only [IntWalk.iteOmega]; try go_simp)); (try go_bits); (with_reducible refine hK _ _ ?_); clear hK K))
        refine Mix.step2n (by first | rfl | simp [Region.wanted, yielded]) fun K hK => ?_
        go_wp2_with fail
        refine Mix.post_mk (C := (fun _ => True)) trivial (hK _ _ ?_)
        clear hK K
        refine Mix.done ?_
        have hs2 := (hs.setInts (j := F) 1 rfl (XF - P)).drew.drew
        simp only [List.set_cons_zero, List.set_cons_succ] at hs2
        clear hs r0 hfr x0 x1 x2 x3 x4 x5 x6 hg' hc2
        generalize World.drew (World.drew _) = W2 at hs2 ⊢
        obtain ⟨g', cg', eg, hg2, hcR, hfr⟩ := (hs2.ints 1 rfl).get T (by rw [List.length_set, HOXl.out]; exact hT)
        injection eg with eg q1 q2
        injection eg with eg
        injection eg with eg
        subst eg
        have r1 := hcR T (by rw [List.length_set, HOXl.out]; exact hT)
        rw [HXT.out] at r1
        have x0 := cell_of (hs2.cells 0 rfl) 0
        have x1 := cell_of (hs2.cells 0 rfl) 1
        have x2 := cell_of (hs2.cells 0 rfl) 2
        have x3 := cell_of (hs2.cells 0 rfl) 3
        have x4 := cell_of (hs2.cells 0 rfl) 4
        have x5 := cell_of (hs2.cells 0 rfl) 5
        have x6 := cell_of (hs2.cells 0 rfl) 6
        simp only [List.getElem?_toArray, List.getElem?_cons_zero, List.getElem?_cons_succ] at x0 x1 x2 x3 x4 x5 x6
        obtain ⟨b2', o2', e2', hb2', hc2⟩ := (hs2.rd hp).at i hlt
        injection e2' with e2'
        injection e2' with q3 q4
        subst q3; subst q4
        rw [← HPP.out] at hc2
        clear q1 q2 hcR hg2
        go_wp2_with fail
        refine Mix.region [0, 0, 0, 0, 0, 0, 0, 0, 0, 0, 0, 2] (fun _ => True) (by kernel_rfl) (by kernel_rfl) trivial ?_
        simp only [List.zip_cons_cons, List.zip_nil_right]
        iterate 11 (refine Mix.step0 fun K hK => ?_; go_simp; (try (go_bits; try go_simp)); first | ((with_reducible refine hK _ _ ?_); clear hK K) | ((try (simp only [IntWalk.iteOmega]; try go_simp)); (try go_bits); (with_reducible refine hK _ _ ?_); clear hK K))
        refine Mix.step2n (by first | rfl | simp [Region.wanted, yielded]) fun K hK => ?_
        go_wp2_with fail
        refine Mix.post_mk (C := (fun _ => True)) trivial (hK _ _ ?_)
        clear hK K
        refine Mix.done ?_
        have hs3 := (hs2.setInts (j := T) 1 rfl (XT + P)).drew
        simp only [List.set_cons_zero, List.set_cons_succ] at hs3
        clear hs2 r1 hfr x0 x1 x2 x3 x4 x5 x6 hc2
        go_wp2_with fail
        refine Round.intro (ps.length - (i + 1)) ?measure5 (by kernel_rfl) (hJ1 _ _ _ ?rel5)
        case' rel5 => (try dsimp only [nthV])
        case measure5 => omega
        case rel5 => exact ⟨i + 1, _, by go_num, hlt, rfl, Lib.hid ⟨HST2.out.symm, HA.out⟩, hs3.tail⟩
      · obtain rfl : i = ps.length := by omega
        have hzt : (O.zip ps).take ps.length = O.zip ps := List.take_of_length_le (by rw [List.length_zip]; omega)
        have hia := HI.out
        rw [hzt] at hia
        have HPB := Lib.hid (permit_bad HMR.out HRQ.out.may c hia.2)
        rw [← hia.1] at HPB
        have HLX := Lib.hid (show OX.length = rooms.length by rw [hia.1]; exact leftQ_len _ _ _)
        have CN := Lib.hid (contains_any OX c w.heap.size _ _ (hs.rdInts 0 rfl) (by have := cell_of (hs.cells 2 rfl) 0; simpa using this))
        clear hzt hia HI
        go_wp2_with fail
        refine (CN.out).mono ?_
        rintro en w5 ⟨rfl, rfl⟩
        generalize OX.any (badX c) = Z at HPB
        go_wp2_with fail
        go_ret
        exact ⟨by rw [HPE.out, HPB.out]; rfl, hs.below⟩
end Go.Proofs.Ytlbpkfjebaelpaa
