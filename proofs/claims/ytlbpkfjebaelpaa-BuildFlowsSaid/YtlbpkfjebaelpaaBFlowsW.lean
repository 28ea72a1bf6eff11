/-
  BuildFlows, walked.
-/
import Derived.Test.YtlbpkfjebaelpaaBPlaysW
import Derived.Test.YtlbpkfjebaelpaaBFlP
import Derived.Test.YtlbpkfjebaelpaaNRef5W
import Derived.Test.YtlbpkfjebaelpaaNRef3W
namespace Go.Proofs.Ytlbpkfjebaelpaa
open Go Go.RowKit Go.Mem Go.MoneyP Go.NetP Go.BuildP
theorem worthQ_bound {O : List Du} {ps : List Int} (h : PayQ O ps) : 0 ≤ worthQ (O.zip ps) ∧ worthQ (O.zip ps) ≤ 4503599627370496000 := by
  have := worth_bound (O.zip ps) h.may h.all
  have := h.sum
  omega
set_option maxRecDepth 100000 in
set_option maxHeartbeats 6000000 in
theorem buildFlows_any (rooms : List Int) (l : List Du) (c : Bool) (ps : List Int) (vr vl vp : Value) (w : World) (hr : Rd .i64 w vr rooms) (h : RdG duR w vl l) (hp : Rd .i64 w vp ps) (hcap : ∀ a n c, vp = .slice a n c → n ≤ c) :
    Calls Try.prog 4 #[vr, vl, .bool c, vp] w fun e w' => e = .returned (.bool true) ∧ Below w.heap.size w w' := by
  obtain ⟨i0, hi0, hz0, hz1, hz2⟩ := info_parts Try.infoI64b
  obtain ⟨ar, cr, rfl⟩ := hr.shape
  obtain ⟨al, cl, rfl⟩ := h.shape
  obtain ⟨ap, cp, rfl⟩ := hp.shape
  have FW := Lib.hid (bfew_any ar al ap rooms.length l.length ps.length cr cl cp w hr.le' h.le' hp.le')
  have hlp := hp.le'
  cases hf : fewB rooms.length l.length ps.length
  · rw [hf] at FW
    clear hf
    go_enter Try.func4, Try.ntmps4
    go_wp2_with fail
    refine (FW.out).mono ?_
    rintro en w1 ⟨rfl, rfl⟩
    go_wp2_with fail
    refine (bworks_any _).mono ?_
    rintro en w2 ⟨rfl, hb⟩
    go_wp2_with fail
    go_ret
    exact ⟨rfl, hb⟩
  rw [hf] at FW
  obtain ⟨f1, f2, f3⟩ := fewB_parts hf
  clear hf
  have HRG := Lib.hid (brright_any rooms l _ _ w hr h)
  cases hrt : rightR rooms l
  · rw [hrt] at HRG
    clear hrt
    go_enter Try.func4, Try.ntmps4
    go_wp2_with fail
    refine (FW.out).mono ?_
    rintro en w1 ⟨rfl, rfl⟩
    go_wp2_with fail
    refine (HRG.out).mono ?_
    rintro en w1 ⟨rfl, hb⟩
    have hs := (Sep.start _).belowStep hb
    clear hb
    go_wp2_with fail
    refine (bworks_any _).mono ?_
    rintro en w2 ⟨rfl, hb⟩
    go_wp2_with fail
    go_ret
    exact ⟨rfl, (hs.belowStep hb).below⟩
  rw [hrt] at HRG
  have HRT := Lib.hid hrt
  have HNET := Lib.hid (right_net hrt c)
  clear hrt
  go_enter Try.func4, Try.ntmps4
  go_wp2_with fail
  refine (FW.out).mono ?_
  rintro en w1 ⟨rfl, rfl⟩
  go_wp2_with fail
  refine (HRG.out).mono ?_
  rintro en w2 ⟨rfl, hb⟩
  clear FW HRG
  have hs := (Sep.start _).belowStep hb
  clear hb
  go_wp2_with fail
  refine (round_any rooms l c _ _ _ (hs.rd hr) (hs.rdG h) (by omega)).mono ?_
  rintro en w3 (⟨h0, _, _⟩ | ⟨_, ve, vi, rfl, k1⟩)
  · exact absurd (HRT.out.symm.trans h0) (by decide)
  replace hs := hs.join k1
  clear k1
  simp only [List.cons_append, List.nil_append] at hs
  obtain ⟨ae, ce, rfl⟩ := (hs.rdRecs 0 rfl).shape
  obtain ⟨ai, ci, rfl⟩ := (hs.rdInts 1 rfl).shape
  obtain ⟨O, hO⟩ : ∃ O, O = openL l := ⟨_, rfl⟩
  obtain ⟨E, hE⟩ : ∃ E, E = edgesL rooms l c := ⟨_, rfl⟩
  rw [← hO, ← hE] at hs
  rw [List.length_map] at hs ⊢
  rw [← hO]
  rw [← hE] at HNET ⊢
  have HOL := Lib.hid (show O.length ≤ 64 by rw [hO]; have := open_le l; have := (right_parts HRT.out).2.1; omega)
  have HO := Lib.hid hO
  have HE := Lib.hid hE
  clear hO hE
  replace hs := hs.newCells #[.int .i64 (rooms.length + 1), .slice ae E.length ce] 28
  obtain ⟨B1, hB1⟩ : ∃ B1, B1 = w3.heap.size := ⟨_, rfl⟩
  have n0 := cell_of (hs.cells 0 rfl) 0
  have n1 := cell_of (hs.cells 0 rfl) 1
  simp only [List.getElem?_toArray, List.getElem?_cons_zero, List.getElem?_cons_succ] at n0 n1
  have HR := Lib.hid (rright_any (rooms.length + 1) ae ce E _ (hs.rdRecs 1 rfl))
  rw [HNET.out] at HR
  go_wp2_with fail
  rw [← hB1] at hs n0 n1 ⊢
  clear hB1
  refine HR.out.mono ?_
  rintro en w4 ⟨rfl, hb⟩
  clear HR
  replace hs := hs.belowStep hb
  clear hb n0 n1
  have n0 := cell_of (hs.cells 0 rfl) 0
  have n1 := cell_of (hs.cells 0 rfl) 1
  simp only [List.getElem?_toArray, List.getElem?_cons_zero, List.getElem?_cons_succ] at n0 n1
  go_wp2_with fail
  refine (rflows_any (rooms.length + 1) ae ce E _ ps _ (hs.rdRecs 1 rfl) (hs.rd hp)).mono ?_
  rintro en w5 ⟨rfl, hb⟩
  replace hs := hs.belowStep hb
  clear hb n0 n1
  have n0 := cell_of (hs.cells 0 rfl) 0
  have n1 := cell_of (hs.cells 0 rfl) 1
  simp only [List.getElem?_toArray, List.getElem?_cons_zero, List.getElem?_cons_succ] at n0 n1
  cases hfl : flowsB (rooms.length + 1) E ps
  rotate_left
  · obtain ⟨g1, g2, g3⟩ := flows_pay HRT.out (by rw [← HE.out]; exact hfl)
    rw [← HO.out, ← HE.out] at g3
    rw [← HO.out] at g1 g2
    have HPT := Lib.hid (show ps.take (payN (O.length : Int) ps.length) = ps.take O.length by unfold payN; rw [Int.toNat_natCast, Nat.min_eq_left g2])
    have HPQ := Lib.hid (show PayQ O (ps.take O.length) by rw [HO.out] at g1 ⊢; exact payQ_of g1)
    have HG1 := Lib.hid g1
    have HG3 := Lib.hid g3
    clear hfl g1 g2 g3
    go_wp2_with fail
    refine (pays_any (rooms.length + 1) ae E.length ce _ ps O.length _ (hs.rd hp) hcap (by omega)).mono ?_
    rintro en w6 ⟨up, rfl, k2⟩
    rw [HPT.out] at k2
    replace hs := hs.join k2
    clear k2 n0 n1
    simp only [List.cons_append, List.nil_append] at hs
    obtain ⟨P, hP⟩ : ∃ P, P = ps.take O.length := ⟨_, rfl⟩
    rw [← hP] at hs HPQ HG1 HG3
    clear hP
    have n0 := cell_of (hs.cells 1 rfl) 0
    have n1 := cell_of (hs.cells 1 rfl) 1
    simp only [List.getElem?_toArray, List.getElem?_cons_zero, List.getElem?_cons_succ] at n0 n1
    go_wp2_with fail
    refine (permit_any rooms l c P _ _ _ _ (hs.rd hr) (hs.rdG h) (hs.rdInts 0 rfl) (by omega) (by omega)).mono ?_
    rintro en w7 ⟨rfl, hb⟩
    rw [HG1.out]
    replace hs := hs.belowStep hb
    clear hb n0 n1
    have n0 := cell_of (hs.cells 1 rfl) 0
    have n1 := cell_of (hs.cells 1 rfl) 1
    simp only [List.getElem?_toArray, List.getElem?_cons_zero, List.getElem?_cons_succ] at n0 n1
    go_wp2_with fail
    refine (rcost_any (rooms.length + 1) ae ce E _ ps _ (hs.rdRecs 2 rfl) (hs.rd hp)).mono ?_
    rintro en w8 ⟨rfl, hb⟩
    rw [HG3.out]
    replace hs := hs.belowStep hb
    clear hb n0 n1
    have n0 := cell_of (hs.cells 1 rfl) 0
    have n1 := cell_of (hs.cells 1 rfl) 1
    simp only [List.getElem?_toArray, List.getElem?_cons_zero, List.getElem?_cons_succ] at n0 n1
    go_wp2_with fail
    refine (worth_any l P _ _ _ (hs.rdG h) (hs.rdInts 0 rfl) (by omega) (by rw [← HO.out]; exact HPQ.out)).mono ?_
    rintro en w9 ⟨rfl, hb⟩
    rw [← HO.out]
    obtain ⟨q0, q1⟩ := worthQ_bound HPQ.out
    generalize worthQ (O.zip P) = WW at q0 q1 ⊢
    replace hs := hs.belowStep hb
    clear hb n0 n1
    have n0 := cell_of (hs.cells 1 rfl) 0
    have n1 := cell_of (hs.cells 1 rfl) 1
    simp only [List.getElem?_toArray, List.getElem?_cons_zero, List.getElem?_cons_succ] at n0 n1
    go_wp2_with fail
    refine (bworks_any _).mono ?_
    rintro en w10 ⟨rfl, hb⟩
    go_wp2_with fail
    go_ret
    exact ⟨rfl, (hs.belowStep hb).below⟩
  clear hfl hcap
  cases hpm : permitB rooms l c ps
  · have HPM := Lib.hid hpm
    clear hpm
    go_wp2_with fail
    refine (permit_any rooms l c ps _ _ _ _ (hs.rd hr) (hs.rdG h) (hs.rd hp) (by omega) (by omega)).mono ?_
    rintro en w6 ⟨rfl, hb⟩
    rw [HPM.out]
    replace hs := hs.belowStep hb
    clear hb n0 n1
    have n0 := cell_of (hs.cells 0 rfl) 0
    have n1 := cell_of (hs.cells 0 rfl) 1
    simp only [List.getElem?_toArray, List.getElem?_cons_zero, List.getElem?_cons_succ] at n0 n1
    go_wp2_with fail
    refine (bworks_any _).mono ?_
    rintro en w7 ⟨rfl, hb⟩
    go_wp2_with fail
    go_ret
    exact ⟨rfl, (hs.belowStep hb).below⟩
  have HPQ := Lib.hid (payQ_of hpm)
  rw [← HO.out] at HPQ
  have HPM := Lib.hid hpm
  have HRQ := Lib.hid (show RoundQ rooms.length O ps by rw [HO.out]; exact roundQ HRT.out (by rw [← HO.out]; exact HPQ.out.len))
  obtain ⟨g1, g2⟩ := pay_flows hpm
  rw [← HE.out] at g1 g2
  rw [← HO.out] at g2
  have HG1 := Lib.hid g1
  have HG2 := Lib.hid g2
  clear hpm g1 g2
  go_wp2_with fail
  refine (permit_any rooms l c ps _ _ _ _ (hs.rd hr) (hs.rdG h) (hs.rd hp) (by omega) (by omega)).mono ?_
  rintro en w6 ⟨rfl, hb⟩
  rw [HPM.out]
  replace hs := hs.belowStep hb
  clear hb n0 n1
  have n0 := cell_of (hs.cells 0 rfl) 0
  have n1 := cell_of (hs.cells 0 rfl) 1
  simp only [List.getElem?_toArray, List.getElem?_cons_zero, List.getElem?_cons_succ] at n0 n1
  go_wp2_with fail
  refine (ropen_any l _ _ (hs.rdG h) (by omega)).mono ?_
  rintro en w7 ⟨uo, rfl, k2⟩
  replace hs := hs.join k2
  clear k2 n0 n1
  simp only [List.cons_append, List.nil_append] at hs
  rw [← HO.out] at hs
  obtain ⟨ao, co, rfl⟩ := (hs.rdRecs 0 rfl).shape
  have HLEN := Lib.hid HPQ.out.len
  rw [HLEN.out] at hs ⊢
  go_wp2_with (at_make; refine wpList_makeInts rfl (.tmp 81) (.tmp 81) 22 rfl 2 i0 .i64 8 Try.underlying22 hi0 hz0 hz1 hz2 rooms.length .i64 .i64 rfl rfl hs ?m1 ?m2 ?m3)
  case m1 => unfold maxLen; omega
  case m2 => omega
  case m3 =>
    intro w8 g hs3
    clear hs
    go_wp2_with fail
    refine wp_loopM [none, none, none, none, none, none, none, none, none, none, none, none, none, none, none, some 15, none, none, none, none, none, none, none, none, none, none, none, none, none, none, none, none, none, none, none, none, none, none, none, none, none, none, none, none, none, none, none, none, none, none, none, none, none, none, none, none, none, none, none, none, none, none, none, none, none, none, none, none, none, none, none, none, none, none, none, none, none, none, none, none, none, none, none, some 83, some 84, some 85, some 86, some 87, some 88, some 89, some 90, some 91, some 92, some 93, some 94, some 95, some 96, some 97, some 98, some 99, some 100, some 101, some 102, some 103, some 104, some 105, some 106, some 107, some 108, some 109, some 110, some 111, some 112, some 113, some 114, some 115, some 116, none, none, none, none, none, none, none, none, none, none, none, none, none, none, none, none, none, none, none, none, none, none, none, none, none, none, none, none, none, none, none, none, none, none, none, none, none, none, none, none, none, none, none] (fun (r : Nat) (f : Nat → Value) (wr : World) => (fun (v : Value) => ∃ (i : Nat) (OX : List Int), v = .int .i64 i ∧ i ≤ ps.length ∧ r = ps.length - i ∧ Hid (OX = outQ rooms.length ((O.zip ps).take i)) ∧ Sep w1 wr [intsT .i64 2 (.slice (some ⟨g, 0, none⟩) rooms.length rooms.length) OX, recT duR 45 (.slice ao ps.length co) O, cellsT B1 #[.int .i64 (rooms.length + 1), .slice ae E.length ce] 28, recT edR 52 (.slice ae E.length ce) E]) (f 15)) (ps.length) (by kernel_rfl) ?atStart1 ?round1
    case' atStart1 => (try dsimp only [nthV])
    case' round1 =>
      intro gk f wr l hl hrel J1 K1 hJ1 hK1
      (try simp only [mask] at hl)
      generalize f 15 = u15 at hl hrel
      subst hl
      (try dsimp only at hrel)
    case atStart1 => exact ⟨0, _, rfl, Nat.zero_le _, rfl, Lib.hid rfl, hs3.takeN 4⟩
    case round1 =>
      clear hs3
      obtain ⟨i, OX, rfl, hi, rfl, HI, hs⟩ := hrel
      have HOXl := Lib.hid (show OX.length = rooms.length by rw [HI.out]; exact outQ_len _ _)
      by_cases hlt : i < ps.length
      · have hlo : i < O.length := by rw [HLEN.out]; exact hlt
        obtain ⟨b1, o1, e1, hb1, hc1⟩ := ((hs.drew).rdRecs 1 rfl).at i hlo
        subst e1
        obtain ⟨b2, o2, e2, hb2, hc2⟩ := ((hs.drew).rd hp).at i hlt
        subst e2
        obtain ⟨hz, hze⟩ := zip_at HRQ.out.len hlo
        have hmay := HRQ.out.may _ (List.getElem_mem hz)
        have hpy := List.all_eq_true.1 HPQ.out.all _ (List.getElem_mem hz)
        rw [hze] at hmay hpy
        have HST := Lib.hid (out_step HRQ.out hlo)
        obtain ⟨x, hx⟩ : ∃ x, x = O[i] := ⟨_, rfl⟩
        obtain ⟨P, hP⟩ : ∃ P, P = ps.getD i 0 := ⟨_, rfl⟩
        rw [← hx, ← hP] at HST hmay hpy
        rw [← hx] at hc1
        rw [← hP] at hc2
        have HXX := Lib.hid hx
        have HPP := Lib.hid hP
        clear hx hP hz hze
        obtain ⟨id, f, t, xx, we, u, hh⟩ := x
        have x0 := hc1 0 (by decide)
        have x1 := hc1 1 (by decide)
        have x2 := hc1 2 (by decide)
        have x3 := hc1 3 (by decide)
        have x4 := hc1 4 (by decide)
        have x5 := hc1 5 (by decide)
        have x6 := hc1 6 (by decide)
        simp only [duR, Nat.add_zero, List.getElem?_cons_zero, List.getElem?_cons_succ] at x0 x1 x2 x3 x4 x5 x6
        clear hc1
        obtain ⟨hm1, hm2, hm3⟩ := hmay
        obtain ⟨hf0, _, ht0, _, hne, _, hxb, _, _, _⟩ := hm1
        dsimp only at hm2 hm3 hf0 ht0 hne hxb
        simp only [payB, Bool.and_eq_true, decide_eq_true_eq] at hpy
        obtain ⟨hp0, hpx⟩ := hpy
        obtain ⟨F, rfl⟩ : ∃ F : Nat, f = F := ⟨f.toNat, by omega⟩
        obtain ⟨T, rfl⟩ : ∃ T : Nat, t = T := ⟨t.toNat, by omega⟩
        have hF : F < rooms.length := by omega
        have hT : T < rooms.length := by omega
        have hFT : F ≠ T := by omega
        obtain ⟨g', cg', eg, hg', hcR, hfr⟩ := (hs.drew.ints 0 rfl).get F (by rw [HOXl.out]; exact hF)
        injection eg with eg q1 q2
        injection eg with eg
        injection eg with eg
        subst eg
        have r0 := hcR F (by rw [HOXl.out]; exact hF)
        clear q1 q2
        have hall : ((O.zip ps).take i).all payB = true := List.all_eq_true.2 fun q hq => List.all_eq_true.1 HPQ.out.all q (List.mem_of_mem_take hq)
        have hnF := out_near HRQ.out i hall F
        have hnT := out_near HRQ.out i hall T
        clear hall
        rw [← HI.out] at hnF hnT
        obtain ⟨XF, hXF⟩ : ∃ x, x = OX.getD F 0 := ⟨_, rfl⟩
        obtain ⟨XT, hXT⟩ : ∃ x, x = OX.getD T 0 := ⟨_, rfl⟩
        rw [← hXF] at r0 hnF
        rw [← hXT] at hnT
        obtain ⟨n1, n2⟩ := hnF
        obtain ⟨n3, n4⟩ := hnT
        have HST2 := Lib.hid (show outQ rooms.length ((O.zip ps).take (i + 1)) = (OX.set F (XF + P)).set T (XT - P) by
          rw [HST.out, ← HI.out]
          unfold stepO
          dsimp only
          rw [show ((F : Int)).toNat = F by omega, show ((T : Int)).toNat = T by omega, getD_set _ _ _ _ (by rw [HOXl.out]; exact hF), if_neg hFT, ← hXF, ← hXT])
        have HXT := Lib.hid (show (OX.set F (XF + P)).getD T 0 = XT by rw [getD_set _ _ _ _ (by rw [HOXl.out]; exact hF), if_neg hFT, hXT])
        clear hXF hXT hcR HST
        go_wp2_with fail
        refine Mix.region [0, 0, 0, 0, 0, 0, 0, 0, 0, 0, 0, 0, 0, 0, 2] (fun _ => True) (by kernel_rfl) (by kernel_rfl) trivial ?_
        simp only [List.zip_cons_cons, List.zip_nil_right]
        iterate 14 (refine Mix.step0 fun K hK => ?_; go_simp; (try (go_bits; try go_simp)); first | ((with_reducible refine hK _ _ ?_); clear hK K) | ((try (simp only [IntWalk.iteOmega]; try go_simp)); (try go_bits); (with_reducible refine hK _ _ ?_); clear hK K))
        refine Mix.step2n (by first | rfl | simp [Region.wanted, yielded]) fun K hK => ?_
        go_wp2_with fail
        refine Mix.post_mk (C := (fun _ => True)) trivial (hK _ _ ?_)
        clear hK K
        refine Mix.done ?_
        have hs2 := (hs.setInts (j := F) 0 rfl (XF + P)).drew
        simp only [List.set_cons_zero] at hs2
        clear hs r0 hfr x0 x1 x2 x3 x4 x5 x6 hg' hb1 hb2 hc2
        go_wp2_with fail
        generalize World.drew _ = W2 at hs2 ⊢
        obtain ⟨g', cg', eg, hg2, hcR, hfr⟩ := (hs2.drew.ints 0 rfl).get T (by rw [List.length_set, HOXl.out]; exact hT)
        injection eg with eg q1 q2
        injection eg with eg
        injection eg with eg
        subst eg
        have r1 := hcR T (by rw [List.length_set, HOXl.out]; exact hT)
        rw [HXT.out] at r1
        obtain ⟨b1', o1', e1', hb1', hc1⟩ := (hs2.drew.rdRecs 1 rfl).at i hlo
        injection e1' with e1'
        injection e1' with q3 q4
        subst q3; subst q4
        rw [← HXX.out] at hc1
        have x0 := hc1 0 (by decide)
        have x1 := hc1 1 (by decide)
        have x2 := hc1 2 (by decide)
        have x3 := hc1 3 (by decide)
        have x4 := hc1 4 (by decide)
        have x5 := hc1 5 (by decide)
        have x6 := hc1 6 (by decide)
        simp only [duR, Nat.add_zero, List.getElem?_cons_zero, List.getElem?_cons_succ] at x0 x1 x2 x3 x4 x5 x6
        clear hc1
        obtain ⟨b2', o2', e2', hb2', hc2⟩ := (hs2.drew.rd hp).at i hlt
        injection e2' with e2'
        injection e2' with q3 q4
        subst q3; subst q4
        rw [← HPP.out] at hc2
        clear q1 q2 hcR hg2 hb1' hb2'
        refine Mix.region [0, 0, 0, 0, 0, 0, 0, 0, 0, 0, 0, 0, 0, 0, 2] (fun _ => True) (by kernel_rfl) (by kernel_rfl) trivial ?_
        simp only [List.zip_cons_cons, List.zip_nil_right]
        iterate 14 (refine Mix.step0 fun K hK => ?_; go_simp; (try (go_bits; try go_simp)); first | ((with_reducible refine hK _ _ ?_); clear hK K) | ((try (simp only [IntWalk.iteOmega]; try go_simp)); (try go_bits); (with_reducible refine hK _ _ ?_); clear hK K))
        refine Mix.step2n (by first | rfl | simp [Region.wanted, yielded]) fun K hK => ?_
        go_wp2_with fail
        refine Mix.post_mk (C := (fun _ => True)) trivial (hK _ _ ?_)
        clear hK K
        refine Mix.done ?_
        have hs3 := (hs2.setInts (j := T) 0 rfl (XT - P)).drew
        simp only [List.set_cons_zero] at hs3
        clear hs2 r1 hfr x0 x1 x2 x3 x4 x5 x6 hc2
        go_wp2_with fail
        refine Round.intro (ps.length - (i + 1)) ?measure2 (by kernel_rfl) (hJ1 _ _ _ ?rel2)
        case' rel2 => (try dsimp only [nthV])
        case measure2 => omega
        case rel2 => exact ⟨i + 1, _, by go_num, hlt, rfl, Lib.hid HST2.out.symm, hs3⟩
      · obtain rfl : i = ps.length := by omega
        have HOX := Lib.hid (show OX = outQ rooms.length (O.zip ps) by rw [HI.out, ← HPQ.out.len, zip_take_len HPQ.out.len])
        have HNE := Lib.hid (fun v => (show -4503599627370496 ≤ OX.getD v 0 ∧ OX.getD v 0 ≤ 4503599627370496 by
          have := out_near HRQ.out O.length (by rw [zip_take_len HPQ.out.len]; exact HPQ.out.all) v
          rw [zip_take_len HPQ.out.len, ← HOX.out] at this
          exact this))
        clear HI
        have hs4 := hs.litInts .i64 2 [] (by simp [maxLen])
        simp only [List.map_cons, List.map_nil, List.length_cons, List.length_nil, Nat.reduceAdd, World.size_alloc] at hs4
        clear hs
        go_wp2_with (at_builtin; refine wpList_appRd rfl (.tmp 117) (.tmp 118) 22 rfl 2 i0 _ 8 Try.underlying22 hi0 hz0 hz1 hz2 rfl _ [] .i64 _ ps hs4 0 rfl (hs4.rd hp) rfl rfl ?c3 ?c4 ?grow)
        case c3 => (try simp); (try simp only [maxLen]); (try omega)
        case c4 => (try simp); (try simp only [maxLen]); (try omega)
        case grow =>
          intro vf w10 hs5
          (try simp only [List.set_cons_zero, List.nil_append] at hs5)
          clear hs4
          obtain ⟨af, cf, rfl⟩ := (hs5.rdInts 0 rfl).shape
          cases c
          · go_wp2_with fail
            refine wp_loopM [none, none, none, none, none, none, none, none, none, none, none, none, none, none, none, none, some 16, some 17, none, none, none, none, none, none, none, none, none, none, none, none, none, none, none, none, none, none, none, none, none, none, none, none, none, none, none, none, none, none, none, none, none, none, none, none, none, none, none, none, none, none, none, none, none, none, none, none, none, none, none, none, none, none, none, none, none, none, none, none, none, none, none, none, none, none, none, none, none, none, none, none, none, none, none, none, none, none, none, none, none, none, none, none, none, none, none, none, none, none, none, none, none, none, none, none, none, none, none, none, none, none, some 120, some 121, some 122, some 123, some 124, some 125, some 126, some 127, some 128, some 129, some 130, some 131, some 132, some 133, some 134, some 135, some 136, some 137, some 138, some 139, some 140, some 141, some 142, some 143, none, none, none, none, none, none, none, none, none, none, none, none, none, none, none, none] (fun (r2 : Nat) (f : Nat → Value) (wq : World) => (fun (v vq : Value) => ∃ (k : Nat) (ag : Option Addr) (cg : Nat), v = .int .i64 k ∧ k ≤ rooms.length ∧ r2 = rooms.length - k ∧ vq = .slice ag (ps.length + 2 * k) cg ∧ Sep w1 wq [intsT .i64 2 (.slice ag (ps.length + 2 * k) cg) (ps ++ outY OX k), intsT .i64 2 (.slice (some ⟨g, 0, none⟩) rooms.length rooms.length) OX, recT duR 45 (.slice ao ps.length co) O, cellsT B1 #[.int .i64 (rooms.length + 1), .slice ae E.length ce] 28, recT edR 52 (.slice ae E.length ce) E]) (f 17) (f 16)) (rooms.length) (by kernel_rfl) ?atStart3 ?round3
            case' atStart3 => (try dsimp only [nthV])
            case' round3 =>
              intro gk f wr l hl hrel J2 K2 hJ2 hK2
              (try simp only [mask] at hl)
              generalize f 17 = u17 at hl hrel
              generalize f 16 = u16 at hl hrel
              subst hl
              (try dsimp only at hrel)
            case atStart3 => exact ⟨0, af, cf, rfl, Nat.zero_le _, rfl, rfl, by rw [Nat.mul_zero, Nat.add_zero, show outY OX 0 = [] from rfl, List.append_nil]; exact hs5⟩
            case round3 =>
              clear hs5
              obtain ⟨k, ag, cg, rfl, hk, rfl, rfl, hs⟩ := hrel
              by_cases hlk : k < rooms.length
              · obtain ⟨g', cg', eg, hg', hcR, hfr⟩ := (hs.drew.ints 1 rfl).get k (by rw [HOXl.out]; exact hlk)
                injection eg with eg q1 q2
                injection eg with eg
                injection eg with eg
                subst eg
                have r0 := hcR k (by rw [HOXl.out]; exact hlk)
                obtain ⟨hx1, hx2⟩ := HNE.out k
                have HYS := Lib.hid (show ps ++ outY OX (k + 1) = (ps ++ outY OX k) ++ [max (OX.getD k 0) 0, max (-(OX.getD k 0)) 0] by rw [outY_succ, List.append_assoc])
                have HYL := Lib.hid (show (ps ++ outY OX k).length = ps.length + 2 * k by rw [List.length_append, outY_len])
                obtain ⟨X, hX⟩ : ∃ x, x = OX.getD k 0 := ⟨_, rfl⟩
                rw [← hX] at r0 hx1 hx2 HYS
                obtain ⟨YL, hYL⟩ : ∃ YL, YL = ps ++ outY OX k := ⟨_, rfl⟩
                rw [← hYL] at HYS HYL hs
                clear hX hYL hcR q1 q2 hfr hg'
                rcases (show X = 0 ∨ 0 < X ∨ X < 0 by omega) with hx0 | hx0 | hx0
                · subst hx0
                  rw [show max (0 : Int) 0 = 0 from rfl, show max (-(0 : Int)) 0 = 0 from rfl] at HYS
                  have hsa := (hs.alloc (.cells #[.int .i64 (0), .int .i64 (0)] 2)).drew
                  have HRD := Lib.hid (Rd.ofCells (k := .i64) [0, 0] (show (wr.alloc (.cells #[.int .i64 (0), .int .i64 (0)] 2)).drew.heap[wr.heap.size]? = _ from heap_alloc_new wr _) 2 (by simp [maxLen]))
                  go_wp2_with fail
                  refine Mix.region [1, 0, 0, 0, 0, 0, 0, 0, 0, 0, 0, 0, 2, 2, 0] (fun _ => True) (by kernel_rfl) (by kernel_rfl) trivial ?_
                  simp only [List.zip_cons_cons, List.zip_nil_right]
                  iterate 1 (refine Mix.step1 fun K hK => ?_; go_simp; (try (go_bits; try go_simp)); first | ((with_reducible refine hK _ _ ?_); clear hK K) | ((try (simp only [IntWalk.iteOmega]; try go_simp)); (try go_bits); (with_reducible refine hK _ _ ?_); clear hK K))
                  iterate 11 (refine Mix.step0 fun K hK => ?_; go_simp; (try (go_bits; try go_simp)); first | ((with_reducible refine hK _ _ ?_); clear hK K) | ((try (simp only [IntWalk.iteOmega]; try go_simp)); (try go_bits); (with_reducible refine hK _ _ ?_); clear hK K))
                  refine Mix.step2n (by first | rfl | simp [Region.wanted, yielded]) fun K hK => ?_
                  go_wp2_with fail
                  refine Mix.post_mk (C := (fun _ => True)) trivial (hK _ _ ?_)
                  clear hK K
                  refine Mix.step2n (by first | rfl | simp [Region.wanted, yielded]) fun K hK => ?_
                  refine wpList_appRd rfl (.tmp 130) (.tmp 142) 22 rfl 2 i0 _ 8 Try.underlying22 hi0 hz0 hz1 hz2 rfl _ YL .i64 _ [0, 0] hsa 0 rfl HRD.out rfl rfl (by rw [HYL.out]; simp [maxLen]; omega) (by rw [HYL.out]; simp; omega) ?_
                  intro v' w5 hs2
                  (try simp only [List.set_cons_zero] at hs2)
                  rw [← HYS.out] at hs2
                  have HLN := Lib.hid (show (ps ++ outY OX (k + 1)).length = ps.length + 2 * (k + 1) by rw [List.length_append, outY_len])
                  obtain ⟨ah, ch, rfl⟩ := (hs2.rdInts 0 rfl).shape
                  rw [HLN.out] at hs2 ⊢
                  clear hs hsa HRD r0
                  go_wp2_with fail
                  refine Mix.post_mk (C := (fun _ => True)) trivial (hK _ _ ?_)
                  clear hK K
                  iterate 1 (refine Mix.step0 fun K hK => ?_; go_simp; (try (go_bits; try go_simp)); first | ((with_reducible refine hK _ _ ?_); clear hK K) | ((try (simp only [IntWalk.iteOmega]; try go_simp)); (try go_bits); (with_reducible refine hK _ _ ?_); clear hK K))
                  refine Mix.done ?_
                  go_wp2_with fail
                  refine Round.intro (rooms.length - (k + 1)) ?measure4 (by kernel_rfl) (hJ2 _ _ _ ?rel4)
                  case' rel4 => (try dsimp only [nthV])
                  case measure4 => omega
                  case rel4 => exact ⟨k + 1, _, _, by go_num, hlk, rfl, rfl, hs2⟩
                · have e1 : max X 0 = X := by omega
                  have e2 : max (-X) 0 = 0 := by omega
                  rw [e1, e2] at HYS
                  clear e1 e2
                  have hsa := (hs.alloc (.cells #[.int .i64 (X), .int .i64 (0)] 2)).drew
                  have HRD := Lib.hid (Rd.ofCells (k := .i64) [X, 0] (show (wr.alloc (.cells #[.int .i64 (X), .int .i64 (0)] 2)).drew.heap[wr.heap.size]? = _ from heap_alloc_new wr _) 2 (by simp [maxLen]))
                  go_wp2_with fail
                  refine Mix.region [1, 0, 0, 0, 0, 0, 0, 0, 0, 0, 0, 0, 2, 2, 0] (fun _ => True) (by kernel_rfl) (by kernel_rfl) trivial ?_
                  simp only [List.zip_cons_cons, List.zip_nil_right]
                  iterate 1 (refine Mix.step1 fun K hK => ?_; go_simp; (try (go_bits; try go_simp)); first | ((with_reducible refine hK _ _ ?_); clear hK K) | ((try (simp only [IntWalk.iteOmega]; try go_simp)); (try go_bits); (with_reducible refine hK _ _ ?_); clear hK K))
                  iterate 11 (refine Mix.step0 fun K hK => ?_; go_simp; (try (go_bits; try go_simp)); first | ((with_reducible refine hK _ _ ?_); clear hK K) | ((try (simp only [IntWalk.iteOmega]; try go_simp)); (try go_bits); (with_reducible refine hK _ _ ?_); clear hK K))
                  refine Mix.step2n (by first | rfl | simp [Region.wanted, yielded]) fun K hK => ?_
                  go_wp2_with fail
                  refine Mix.post_mk (C := (fun _ => True)) trivial (hK _ _ ?_)
                  clear hK K
                  refine Mix.step2n (by first | rfl | simp [Region.wanted, yielded]) fun K hK => ?_
                  refine wpList_appRd rfl (.tmp 130) (.tmp 142) 22 rfl 2 i0 _ 8 Try.underlying22 hi0 hz0 hz1 hz2 rfl _ YL .i64 _ [X, 0] hsa 0 rfl HRD.out rfl rfl (by rw [HYL.out]; simp [maxLen]; omega) (by rw [HYL.out]; simp; omega) ?_
                  intro v' w5 hs2
                  (try simp only [List.set_cons_zero] at hs2)
                  rw [← HYS.out] at hs2
                  have HLN := Lib.hid (show (ps ++ outY OX (k + 1)).length = ps.length + 2 * (k + 1) by rw [List.length_append, outY_len])
                  obtain ⟨ah, ch, rfl⟩ := (hs2.rdInts 0 rfl).shape
                  rw [HLN.out] at hs2 ⊢
                  clear hs hsa HRD r0
                  go_wp2_with fail
                  refine Mix.post_mk (C := (fun _ => True)) trivial (hK _ _ ?_)
                  clear hK K
                  iterate 1 (refine Mix.step0 fun K hK => ?_; go_simp; (try (go_bits; try go_simp)); first | ((with_reducible refine hK _ _ ?_); clear hK K) | ((try (simp only [IntWalk.iteOmega]; try go_simp)); (try go_bits); (with_reducible refine hK _ _ ?_); clear hK K))
                  refine Mix.done ?_
                  go_wp2_with fail
                  refine Round.intro (rooms.length - (k + 1)) ?measure5 (by kernel_rfl) (hJ2 _ _ _ ?rel5)
                  case' rel5 => (try dsimp only [nthV])
                  case measure5 => omega
                  case rel5 => exact ⟨k + 1, _, _, by go_num, hlk, rfl, rfl, hs2⟩
                · have e1 : max X 0 = 0 := by omega
                  have e2 : max (-X) 0 = -X := by omega
                  rw [e1, e2] at HYS
                  clear e1 e2
                  have hsa := (hs.alloc (.cells #[.int .i64 (0), .int .i64 ((-X))] 2)).drew
                  have HRD := Lib.hid (Rd.ofCells (k := .i64) [0, (-X)] (show (wr.alloc (.cells #[.int .i64 (0), .int .i64 ((-X))] 2)).drew.heap[wr.heap.size]? = _ from heap_alloc_new wr _) 2 (by simp [maxLen]))
                  go_wp2_with fail
                  refine Mix.region [1, 0, 0, 0, 0, 0, 0, 0, 0, 0, 0, 0, 2, 2, 0] (fun _ => True) (by kernel_rfl) (by kernel_rfl) trivial ?_
                  simp only [List.zip_cons_cons, List.zip_nil_right]
                  iterate 1 (refine Mix.step1 fun K hK => ?_; go_simp; (try (go_bits; try go_simp)); first | ((with_reducible refine hK _ _ ?_); clear hK K) | ((try (simp only [IntWalk.iteOmega]; try go_simp)); (try go_bits); (with_reducible refine hK _ _ ?_); clear hK K))
                  iterate 11 (refine Mix.step0 fun K hK => ?_; go_simp; (try (go_bits; try go_simp)); first | ((with_reducible refine hK _ _ ?_); clear hK K) | ((try (simp only [IntWalk.iteOmega]; try go_simp)); (try go_bits); (with_reducible refine hK _ _ ?_); clear hK K))
                  refine Mix.step2n (by first | rfl | simp [Region.wanted, yielded]) fun K hK => ?_
                  go_wp2_with fail
                  refine Mix.post_mk (C := (fun _ => True)) trivial (hK _ _ ?_)
                  clear hK K
                  refine Mix.step2n (by first | rfl | simp [Region.wanted, yielded]) fun K hK => ?_
                  refine wpList_appRd rfl (.tmp 130) (.tmp 142) 22 rfl 2 i0 _ 8 Try.underlying22 hi0 hz0 hz1 hz2 rfl _ YL .i64 _ [0, (-X)] hsa 0 rfl HRD.out rfl rfl (by rw [HYL.out]; simp [maxLen]; omega) (by rw [HYL.out]; simp; omega) ?_
                  intro v' w5 hs2
                  (try simp only [List.set_cons_zero] at hs2)
                  rw [← HYS.out] at hs2
                  have HLN := Lib.hid (show (ps ++ outY OX (k + 1)).length = ps.length + 2 * (k + 1) by rw [List.length_append, outY_len])
                  obtain ⟨ah, ch, rfl⟩ := (hs2.rdInts 0 rfl).shape
                  rw [HLN.out] at hs2 ⊢
                  clear hs hsa HRD r0
                  go_wp2_with fail
                  refine Mix.post_mk (C := (fun _ => True)) trivial (hK _ _ ?_)
                  clear hK K
                  iterate 1 (refine Mix.step0 fun K hK => ?_; go_simp; (try (go_bits; try go_simp)); first | ((with_reducible refine hK _ _ ?_); clear hK K) | ((try (simp only [IntWalk.iteOmega]; try go_simp)); (try go_bits); (with_reducible refine hK _ _ ?_); clear hK K))
                  refine Mix.done ?_
                  go_wp2_with fail
                  refine Round.intro (rooms.length - (k + 1)) ?measure6 (by kernel_rfl) (hJ2 _ _ _ ?rel6)
                  case' rel6 => (try dsimp only [nthV])
                  case measure6 => omega
                  case rel6 => exact ⟨k + 1, _, _, by go_num, hlk, rfl, rfl, hs2⟩
              · obtain rfl : k = rooms.length := by omega
                have HFL := Lib.hid (show flowL rooms l false ps = ps ++ outY OX rooms.length by rw [flowL, ← HO.out, ← HOX.out]; rfl)
                obtain ⟨FL, hFL⟩ : ∃ FL, FL = ps ++ outY OX rooms.length := ⟨_, rfl⟩
                have HLL := Lib.hid (show FL.length = ps.length + 2 * rooms.length by rw [hFL, List.length_append, outY_len])
                rw [← hFL] at HFL hs
                clear hFL
                rw [HFL.out] at HG1 HG2
                have n0 := cell_of (hs.cells 3 rfl) 0
                have n1 := cell_of (hs.cells 3 rfl) 1
                simp only [List.getElem?_toArray, List.getElem?_cons_zero, List.getElem?_cons_succ] at n0 n1
                go_wp2_with fail
                refine (rflows_any (rooms.length + 1) ae ce E _ (FL) _ (hs.rdRecs 4 rfl) (hs.rdInts 0 rfl)).mono ?_
                rintro en w11 ⟨rfl, hb⟩
                rw [HG1.out]
                replace hs := hs.belowStep hb
                clear hb n0 n1
                have n0 := cell_of (hs.cells 3 rfl) 0
                have n1 := cell_of (hs.cells 3 rfl) 1
                simp only [List.getElem?_toArray, List.getElem?_cons_zero, List.getElem?_cons_succ] at n0 n1
                go_wp2_with fail
                refine (rcost_any (rooms.length + 1) ae ce E _ (FL) _ (hs.rdRecs 4 rfl) (hs.rdInts 0 rfl)).mono ?_
                rintro en w12 ⟨rfl, hb⟩
                rw [HG2.out]
                replace hs := hs.belowStep hb
                clear hb n0 n1
                have n0 := cell_of (hs.cells 3 rfl) 0
                have n1 := cell_of (hs.cells 3 rfl) 1
                simp only [List.getElem?_toArray, List.getElem?_cons_zero, List.getElem?_cons_succ] at n0 n1
                go_wp2_with fail
                refine (worth_any l ps _ _ _ (hs.rdG h) (hs.rd hp) (by omega) (by rw [← HO.out]; exact HPQ.out)).mono ?_
                rintro en w13 ⟨rfl, hb⟩
                rw [← HO.out]
                obtain ⟨q0, q1⟩ := worthQ_bound HPQ.out
                generalize worthQ (O.zip ps) = WW at q0 q1 ⊢
                replace hs := hs.belowStep hb
                clear hb n0 n1
                have n0 := cell_of (hs.cells 3 rfl) 0
                have n1 := cell_of (hs.cells 3 rfl) 1
                simp only [List.getElem?_toArray, List.getElem?_cons_zero, List.getElem?_cons_succ] at n0 n1
                go_wp2_with fail
                refine (bworks_any _).mono ?_
                rintro en w14 ⟨rfl, hb⟩
                go_wp2_with fail
                go_ret
                exact ⟨rfl, (hs.belowStep hb).below⟩
          · have HFL := Lib.hid (show flowL rooms l true ps = ps by simp [flowL])
            rw [HFL.out] at HG1 HG2
            go_wp2_with fail
            refine wp_loopM [none, none, none, none, none, none, none, none, none, none, none, none, none, none, none, none, some 16, some 17, none, none, none, none, none, none, none, none, none, none, none, none, none, none, none, none, none, none, none, none, none, none, none, none, none, none, none, none, none, none, none, none, none, none, none, none, none, none, none, none, none, none, none, none, none, none, none, none, none, none, none, none, none, none, none, none, none, none, none, none, none, none, none, none, none, none, none, none, none, none, none, none, none, none, none, none, none, none, none, none, none, none, none, none, none, none, none, none, none, none, none, none, none, none, none, none, none, none, none, none, none, none, some 120, some 121, some 122, some 123, some 124, some 125, some 126, some 127, some 128, some 129, some 130, some 131, some 132, some 133, some 134, some 135, some 136, some 137, some 138, some 139, some 140, some 141, some 142, some 143, none, none, none, none, none, none, none, none, none, none, none, none, none, none, none, none] (fun (r2 : Nat) (f : Nat → Value) (wq : World) => (fun (v vq : Value) => v = .int .i64 0 ∧ vq = .slice af ps.length cf ∧ wq = w10) (f 17) (f 16)) (0) (by kernel_rfl) ?atStart7 ?round7
            case' atStart7 => (try dsimp only [nthV])
            case' round7 =>
              intro gk f wr l hl hrel J2 K2 hJ2 hK2
              (try simp only [mask] at hl)
              generalize f 17 = u17 at hl hrel
              generalize f 16 = u16 at hl hrel
              subst hl
              (try dsimp only at hrel)
            case atStart7 => exact ⟨rfl, rfl, rfl⟩
            case round7 =>
              obtain ⟨rfl, rfl, rfl⟩ := hrel
              have hs := hs5
              clear hs5
              by_cases h0 : 0 < rooms.length
              · have e0 : decide ((0 : Int) < (rooms.length : Int)) = true := decide_eq_true (by omega)
                have n0 := cell_of (hs.cells 3 rfl) 0
                have n1 := cell_of (hs.cells 3 rfl) 1
                simp only [List.getElem?_toArray, List.getElem?_cons_zero, List.getElem?_cons_succ] at n0 n1
                go_wp2_with fail
                refine (rflows_any (rooms.length + 1) ae ce E _ (ps) _ (hs.rdRecs 4 rfl) (hs.rdInts 0 rfl)).mono ?_
                rintro en w11 ⟨rfl, hb⟩
                rw [HG1.out]
                replace hs := hs.belowStep hb
                clear hb n0 n1
                have n0 := cell_of (hs.cells 3 rfl) 0
                have n1 := cell_of (hs.cells 3 rfl) 1
                simp only [List.getElem?_toArray, List.getElem?_cons_zero, List.getElem?_cons_succ] at n0 n1
                go_wp2_with fail
                refine (rcost_any (rooms.length + 1) ae ce E _ (ps) _ (hs.rdRecs 4 rfl) (hs.rdInts 0 rfl)).mono ?_
                rintro en w12 ⟨rfl, hb⟩
                rw [HG2.out]
                replace hs := hs.belowStep hb
                clear hb n0 n1
                have n0 := cell_of (hs.cells 3 rfl) 0
                have n1 := cell_of (hs.cells 3 rfl) 1
                simp only [List.getElem?_toArray, List.getElem?_cons_zero, List.getElem?_cons_succ] at n0 n1
                go_wp2_with fail
                refine (worth_any l ps _ _ _ (hs.rdG h) (hs.rd hp) (by omega) (by rw [← HO.out]; exact HPQ.out)).mono ?_
                rintro en w13 ⟨rfl, hb⟩
                rw [← HO.out]
                obtain ⟨q0, q1⟩ := worthQ_bound HPQ.out
                generalize worthQ (O.zip ps) = WW at q0 q1 ⊢
                replace hs := hs.belowStep hb
                clear hb n0 n1
                have n0 := cell_of (hs.cells 3 rfl) 0
                have n1 := cell_of (hs.cells 3 rfl) 1
                simp only [List.getElem?_toArray, List.getElem?_cons_zero, List.getElem?_cons_succ] at n0 n1
                go_wp2_with fail
                refine (bworks_any _).mono ?_
                rintro en w14 ⟨rfl, hb⟩
                go_wp2_with fail
                go_ret
                exact ⟨rfl, (hs.belowStep hb).below⟩
              · have e0 : decide ((0 : Int) < (rooms.length : Int)) = false := decide_eq_false (by omega)
                have n0 := cell_of (hs.cells 3 rfl) 0
                have n1 := cell_of (hs.cells 3 rfl) 1
                simp only [List.getElem?_toArray, List.getElem?_cons_zero, List.getElem?_cons_succ] at n0 n1
                go_wp2_with fail
                refine (rflows_any (rooms.length + 1) ae ce E _ (ps) _ (hs.rdRecs 4 rfl) (hs.rdInts 0 rfl)).mono ?_
                rintro en w11 ⟨rfl, hb⟩
                rw [HG1.out]
                replace hs := hs.belowStep hb
                clear hb n0 n1
                have n0 := cell_of (hs.cells 3 rfl) 0
                have n1 := cell_of (hs.cells 3 rfl) 1
                simp only [List.getElem?_toArray, List.getElem?_cons_zero, List.getElem?_cons_succ] at n0 n1
                go_wp2_with fail
                refine (rcost_any (rooms.length + 1) ae ce E _ (ps) _ (hs.rdRecs 4 rfl) (hs.rdInts 0 rfl)).mono ?_
                rintro en w12 ⟨rfl, hb⟩
                rw [HG2.out]
                replace hs := hs.belowStep hb
                clear hb n0 n1
                have n0 := cell_of (hs.cells 3 rfl) 0
                have n1 := cell_of (hs.cells 3 rfl) 1
                simp only [List.getElem?_toArray, List.getElem?_cons_zero, List.getElem?_cons_succ] at n0 n1
                go_wp2_with fail
                refine (worth_any l ps _ _ _ (hs.rdG h) (hs.rd hp) (by omega) (by rw [← HO.out]; exact HPQ.out)).mono ?_
                rintro en w13 ⟨rfl, hb⟩
                rw [← HO.out]
                obtain ⟨q0, q1⟩ := worthQ_bound HPQ.out
                generalize worthQ (O.zip ps) = WW at q0 q1 ⊢
                replace hs := hs.belowStep hb
                clear hb n0 n1
                have n0 := cell_of (hs.cells 3 rfl) 0
                have n1 := cell_of (hs.cells 3 rfl) 1
                simp only [List.getElem?_toArray, List.getElem?_cons_zero, List.getElem?_cons_succ] at n0 n1
                go_wp2_with fail
                refine (bworks_any _).mono ?_
                rintro en w14 ⟨rfl, hb⟩
                go_wp2_with fail
                go_ret
                exact ⟨rfl, (hs.belowStep hb).below⟩
end Go.Proofs.Ytlbpkfjebaelpaa
