/-
  Package solve: anew, narrow, walked.
-/
import Derived.Test.YtlbpkfjebaelpaaSW1
import Derived.Test.YtlbpkfjebaelpaaLD
set_option linter.unusedVariables false
set_option linter.unusedSimpArgs false
namespace Go.SolveP
open Go Go.Mem Go.NetP Go.RestP Go.CertP Go.PathP
/-- An arc of a net where the flow is within, with its numbers. -/
theorem arc_is {N : Nat} {es : List Ed} {fl : List Int} (hw : withinB N es fl = true) {m : Nat} (hm : m < 2 * es.length) :
    ∃ (U V : Nat) (C R : Int), endsV N es m = ((U : Int), (V : Int), C) ∧ roomV N es fl m = R ∧ roomE es fl m = R ∧ 0 ≤ R ∧ R ≤ 4503599627370496 ∧ U < N ∧ V < N ∧ -1000 ≤ C ∧ C ≤ 1000 ∧ endsE es m = ((U : Int), (V : Int), C) := by
  have hr := (within_cap hw).2.1
  have hh : hasB es.length (m : Int) = true := by rw [hasB_iff]; omega
  obtain ⟨h1, h2, h3, h4⟩ := ends_node hr hm
  have e1 : ((endsE es m).1.toNat : Int) = (endsE es m).1 := by omega
  have e2 : ((endsE es m).2.1.toNat : Int) = (endsE es m).2.1 := by omega
  have hb := room_bound hw hh
  exact ⟨(endsE es m).1.toNat, (endsE es m).2.1.toNat, (endsE es m).2.2, roomE es fl m, by rw [ends_in hw hh, e1, e2], room_in hw hh, rfl, hb.1, hb.2, by omega, by omega, h3, h4, by rw [e1, e2]⟩
theorem relax_is {es : List Ed} {fl pot : List Int} {m U V : Nat} {C R : Int} (he : endsE es m = ((U : Int), (V : Int), C)) (hr : roomE es fl m = R) : relaxA es fl pot m = if g pot U + C < g pot V ∧ 0 < R then pot.set V (g pot U + C) else pot := by
  unfold relaxA
  rw [he, hr]
  simp only [Int.toNat_natCast]
end Go.SolveP
namespace Go.Proofs.Ytlbpkfjebaelpaa
open Go Go.RowKit Go.Mem Go.NetP Go.RestP Go.CertP Go.PathP Go.SolveP
theorem Try.infoI64v : (Try.prog.info? 2).map (fun i => (i.zero, i.size, i.bytes)) = some (some (.int .i64 0), 1, 8) := by kernel_rfl
set_option maxRecDepth 100000 in
set_option maxHeartbeats 4000000 in
theorem anew_any (M : Sol) (S : St) (w0 w : World) (hw : withinB M.N S.es S.fl = true) (ht : tightB S.es S.fl S.pot = true) (hl : S.pot.length = M.N) (hs : Sep w0 w (solL M S)) :
    Calls Try.prog 78 #[.pointer (some ⟨M.bs, 0, none⟩)] w fun e w' => (∃ v, e = .returned v) ∧ Sep w0 w' (solL M { S with pot := anewK S.es S.fl M.N M.N }) := by
  obtain ⟨i0, hi0, hz0, hz1, hz2⟩ := info_parts Try.infoI64v
  have hzv : ∀ w : World, (zeroValue 2).run Try.prog w = .ok (.int .i64 0) w := fun w => by simp [zeroValue, typeInfo, hi0, hz0]
  have hr := (within_cap hw).2.1
  have hfl : S.fl.length = S.es.length := (within_cap hw).1
  obtain ⟨hn1, hn40, hes, _, _⟩ := right_cap hr
  have HW := Lib.hid hw
  have HR := Lib.hid hr
  have HMID := Lib.hid (fun k m (hm : m ≤ 2 * S.es.length) => anew_mid (fl := S.fl) hr ht k m hm)
  have HZV := Lib.hid hzv
  clear hzv hi0 hz0 hz1 hz2 i0 hr ht
  unfold solL at hs
  have s0 := cell_of (hs.cells 0 rfl) 0
  have s1 := cell_of (hs.cells 0 rfl) 1
  have s2 := cell_of (hs.cells 0 rfl) 2
  have s3 := cell_of (hs.cells 0 rfl) 3
  have s4 := cell_of (hs.cells 0 rfl) 4
  simp only [Sol.cells, List.getElem?_toArray, List.getElem?_cons_zero, List.getElem?_cons_succ] at s0 s1 s2 s3 s4
  go_enter Try.func78, Try.ntmps78
  go_wp2_with (refine wpList_clearInts rfl (.tmp 10) 22 2 .i64 rfl Try.underlying22 HZV.out _ S.pot hs 2 rfl rfl ?clr)
  case clr =>
    intro w1 hs1
    (try simp only [List.set_cons_zero, List.set_cons_succ, hl] at hs1)
    replace hs1 : Sep w0 w1 (solL M { S with pot := anewK S.es S.fl M.N 0 }) := hs1
    clear hs s0 s1 s2 s3 s4
    have hs := hs1
    clear hs1
    unfold solL at hs
    have s0 := cell_of (hs.cells 0 rfl) 0
    have s1 := cell_of (hs.cells 0 rfl) 1
    have s2 := cell_of (hs.cells 0 rfl) 2
    have s3 := cell_of (hs.cells 0 rfl) 3
    have s4 := cell_of (hs.cells 0 rfl) 4
    simp only [Sol.cells, List.getElem?_toArray, List.getElem?_cons_zero, List.getElem?_cons_succ] at s0 s1 s2 s3 s4
    go_wp2_with fail
    clear s0 s1 s2 s3 s4
    refine wp_loopM [none, none, some 2, some 3, some 4, some 5, some 6, none, none, none, none, none, none, none, none, none, some 16, some 17, some 18, some 19, some 20, some 21, some 22, some 23, some 24, some 25, some 26, some 27, some 28, some 29, some 30, some 31, some 32, some 33, some 34, some 35, some 36, some 37, some 38, some 39, some 40, some 41, some 42, some 43, some 44, some 45, some 46, some 47, some 48, some 49, some 50, some 51, some 52, some 53, some 54, some 55, some 56, some 57, some 58, some 59, some 60, some 61, some 62, some 63, some 64, some 65, some 66, some 67, some 68, some 69, some 70, some 71, some 72, some 73, some 74, some 75, some 76] (fun (r : Nat) (f : Nat → Value) (wr : World) => (fun (v : Value) => ∃ k : Nat, v = .int .i64 k ∧ k ≤ M.N ∧ r = M.N - k ∧ Sep w0 wr (solL M { S with pot := anewK S.es S.fl M.N k })) (f 16)) (M.N) (by kernel_rfl) ?atStart1 ?round1
    case' atStart1 => (try dsimp only [nthV])
    case' round1 =>
      intro gk f wr l hl hrel J1 K1 hJ1 hK1
      (try simp only [mask] at hl)
      generalize f 16 = u16 at hl hrel
      subst hl
      (try dsimp only at hrel)
    case atStart1 => exact ⟨0, rfl, Nat.zero_le _, rfl, hs⟩
    case round1 =>
      clear hs
      obtain ⟨k, rfl, hk, rfl, hs⟩ := hrel
      by_cases hlt : k < M.N
      · unfold solL at hs
        have s0 := cell_of (hs.cells 0 rfl) 0
        have s1 := cell_of (hs.cells 0 rfl) 1
        have s2 := cell_of (hs.cells 0 rfl) 2
        have s3 := cell_of (hs.cells 0 rfl) 3
        have s4 := cell_of (hs.cells 0 rfl) 4
        simp only [Sol.cells, List.getElem?_toArray, List.getElem?_cons_zero, List.getElem?_cons_succ] at s0 s1 s2 s3 s4
        go_wp2_with fail
        clear s0 s1 s2 s3 s4
        refine wp_loopM [none, none, some 2, some 3, some 4, some 5, some 6, none, none, none, none, none, none, none, none, none, none, none, none, none, none, none, none, none, some 24, some 25, some 26, some 27, some 28, some 29, some 30, some 31, some 32, some 33, some 34, some 35, some 36, some 37, some 38, some 39, some 40, some 41, some 42, some 43, some 44, some 45, some 46, some 47, some 48, some 49, some 50, some 51, some 52, some 53, some 54, some 55, some 56, some 57, some 58, some 59, some 60, some 61, some 62, some 63, some 64, some 65, some 66, some 67, some 68, some 69, some 70, some 71, some 72, some 73, some 74, some 75, none] (fun (r : Nat) (f : Nat → Value) (wq : World) => (fun (v : Value) => ∃ m : Nat, v = .int .i64 m ∧ m ≤ 2 * S.es.length ∧ r = 2 * S.es.length - m ∧ Sep w0 wq (solL M { S with pot := roundA S.es S.fl m (anewK S.es S.fl M.N k) })) (f 24)) (2 * S.es.length) (by kernel_rfl) ?atStart2 ?round2
        case' atStart2 => (try dsimp only [nthV])
        case' round2 =>
          intro gk f wr l hl hrel J2 K2 hJ2 hK2
          (try simp only [mask] at hl)
          generalize f 24 = u24 at hl hrel
          subst hl
          (try dsimp only at hrel)
        case atStart2 => exact ⟨0, rfl, Nat.zero_le _, rfl, hs⟩
        case round2 =>
          clear hs
          obtain ⟨m, rfl, hm, rfl, hs⟩ := hrel
          by_cases hmt : m < 2 * S.es.length
          · obtain ⟨U, V, C, R, q1, q2, q3, q4, q5, hU, hV, q6, q7, q8⟩ := arc_is HW.out hmt
            obtain ⟨hPl, hPb⟩ := HMID.out k m hm
            have HRL := Lib.hid (relax_is (pot := roundA S.es S.fl m (anewK S.es S.fl M.N k)) q8 q3)
            obtain ⟨P, hP⟩ : ∃ P, P = roundA S.es S.fl m (anewK S.es S.fl M.N k) := ⟨_, rfl⟩
            rw [← hP] at hs hPl hPb HRL
            have HPP := Lib.hid hP
            have HQ1 := Lib.hid q1
            have HQ2 := Lib.hid q2
            obtain ⟨b1, b2⟩ := hPb U hU
            obtain ⟨b3, b4⟩ := hPb V hV
            clear hP q1 q2 q3 q8 hPb
            unfold solL at hs
            have s0 := cell_of (hs.cells 0 rfl) 0
            have s1 := cell_of (hs.cells 0 rfl) 1
            have s2 := cell_of (hs.cells 0 rfl) 2
            have s3 := cell_of (hs.cells 0 rfl) 3
            have s4 := cell_of (hs.cells 0 rfl) 4
            simp only [Sol.cells, List.getElem?_toArray, List.getElem?_cons_zero, List.getElem?_cons_succ] at s0 s1 s2 s3 s4
            go_wp2_with fail
            refine (endsX_any _ _ _ S.es m _ (hs.rdRecs 4 rfl) (by omega)).mono ?_
            rintro en w4 ⟨rfl, hb⟩
            rw [HQ1.out]
            replace hs := hs.belowStep hb
            clear hb s0 s1 s2 s3 s4
            have s0 := cell_of (hs.cells 0 rfl) 0
            have s1 := cell_of (hs.cells 0 rfl) 1
            have s2 := cell_of (hs.cells 0 rfl) 2
            have s3 := cell_of (hs.cells 0 rfl) 3
            have s4 := cell_of (hs.cells 0 rfl) 4
            simp only [Sol.cells, List.getElem?_toArray, List.getElem?_cons_zero, List.getElem?_cons_succ] at s0 s1 s2 s3 s4
            have HPL := Lib.hid hPl
            obtain ⟨g', cg', eg, _, hcR, xf1⟩ := (hs.ints 2 rfl).get U (by rw [HPL.out]; exact hU)
            injection eg with eg q1 q2
            injection eg with eg
            injection eg with eg
            subst eg
            have x1 := hcR U (by rw [HPL.out]; exact hU)
            clear q1 q2 hcR
            obtain ⟨g', cg', eg, _, hcR, xf⟩ := (hs.ints 2 rfl).get V (by rw [HPL.out]; exact hV)
            injection eg with eg q1 q2
            injection eg with eg
            injection eg with eg
            subst eg
            have x2 := hcR V (by rw [HPL.out]; exact hV)
            clear q1 q2 hcR
            obtain ⟨x, hx⟩ : ∃ x, x = g P U := ⟨_, rfl⟩
            obtain ⟨y, hy⟩ : ∃ y, y = g P V := ⟨_, rfl⟩
            rw [show P.getD U 0 = x from hx.symm] at x1
            rw [show P.getD V 0 = y from hy.symm] at x2
            rw [← hx] at b1 b2 HRL
            rw [← hy] at b3 b4 HRL
            have hUI : (U : Int) < M.N := by omega
            have hVI : (V : Int) < M.N := by omega
            clear hx hy xf1 xf hPl
            by_cases h1 : x + C < y
            · have d1 : decide (x + C < y) = true := decide_eq_true h1
              by_cases h2 : 0 < R
              · have d2 : decide (0 < R) = true := decide_eq_true h2
                rw [if_pos ⟨h1, h2⟩] at HRL
                clear h1 h2
                go_wp2_with fail
                refine Mix.region [0, 0, 0, 0, 0, 0, 0, 0, 0, 0, 0, 0, 0, 0, 0, 0, 0, 0, 0, 2, 0, 0] (fun _ => True) (by kernel_rfl) (by kernel_rfl) trivial ?_
                simp only [List.zip_cons_cons, List.zip_nil_right]
                iterate 10 (refine Mix.step0 fun K hK => ?_; go_simp; (try (go_bits; try go_simp)); first | ((with_reducible refine hK _ _ ?_); clear hK K) | ((try (simp only [IntWalk.iteOmega]; try go_simp)); (try go_bits); (with_reducible refine hK _ _ ?_); clear hK K))
                iterate 9 (first | (refine Mix.stepS rfl fun K hK => ?_; go_simp; (with_reducible refine hK _ _ ?_); clear hK K) | (refine Mix.step0 fun K hK => ?_; go_simp; (try (go_bits; try go_simp)); first | ((with_reducible refine hK _ _ ?_); clear hK K) | ((try (simp only [IntWalk.iteOmega]; try go_simp)); (try go_bits); (with_reducible refine hK _ _ ?_); clear hK K)))
                refine Mix.step2n (by first | rfl | simp [Region.wanted, yielded]) fun K hK => ?_
                go_wp2_with fail
                refine (roomX_any _ _ _ S.es _ S.fl m _ (hs.drew.rdRecs 4 rfl) (hs.drew.rdInts 1 rfl) (by omega)).mono ?_
                rintro en w5 ⟨rfl, hb⟩
                rw [HQ2.out]
                replace hs := hs.drew.belowStep hb
                clear hb s0 s1 s2 s3 s4 x1 x2
                go_wp2_with fail
                refine Mix.post_mk (C := (fun _ => True)) trivial (hK _ _ ?_)
                clear hK K
                iterate 1 (first | (refine Mix.stepS rfl fun K hK => ?_; go_simp; (with_reducible refine hK _ _ ?_); clear hK K) | (refine Mix.step0 fun K hK => ?_; go_simp; (try (go_bits; try go_simp)); first | ((with_reducible refine hK _ _ ?_); clear hK K) | ((try (simp only [IntWalk.iteOmega]; try go_simp)); (try go_bits); (with_reducible refine hK _ _ ?_); clear hK K)))
                iterate 1 (refine Mix.step0 fun K hK => ?_; go_simp; (try (go_bits; try go_simp)); first | ((with_reducible refine hK _ _ ?_); clear hK K) | ((try (simp only [IntWalk.iteOmega]; try go_simp)); (try go_bits); (with_reducible refine hK _ _ ?_); clear hK K))
                refine Mix.done ?_
                have s0 := cell_of (hs.cells 0 rfl) 0
                have s1 := cell_of (hs.cells 0 rfl) 1
                have s2 := cell_of (hs.cells 0 rfl) 2
                have s3 := cell_of (hs.cells 0 rfl) 3
                have s4 := cell_of (hs.cells 0 rfl) 4
                simp only [Sol.cells, List.getElem?_toArray, List.getElem?_cons_zero, List.getElem?_cons_succ] at s0 s1 s2 s3 s4
                obtain ⟨g', cg', eg, _, hcR, xf⟩ := (hs.ints 2 rfl).get V (by rw [HPL.out]; exact hV)
                injection eg with eg q1 q2
                injection eg with eg
                injection eg with eg
                subst eg
                have x2 := hcR V (by rw [HPL.out]; exact hV)
                clear q1 q2 hcR
                go_wp2_with fail
                have hs2 := hs.setInts (j := V) 2 rfl (x + C)
                simp only [List.set_cons_zero, List.set_cons_succ] at hs2
                clear hs s0 s1 s2 s3 s4 x2 xf
                have hs := hs2
                clear hs2
                refine Round.intro (2 * S.es.length - (m + 1)) ?measure3 (by kernel_rfl) (hJ2 _ _ _ ?rel3)
                case' rel3 => (try dsimp only [nthV])
                case measure3 => omega
                case rel3 => exact ⟨m + 1, by go_num, hmt, rfl, by rw [roundA_succ, ← HPP.out, HRL.out]; exact hs⟩
              · have d2 : decide (0 < R) = false := decide_eq_false h2
                rw [if_neg (fun q => h2 q.2)] at HRL
                clear h1 h2
                go_wp2_with fail
                refine Mix.region [0, 0, 0, 0, 0, 0, 0, 0, 0, 0, 0, 0, 0, 0, 0, 0, 0, 0, 0, 2, 0, 0] (fun _ => True) (by kernel_rfl) (by kernel_rfl) trivial ?_
                simp only [List.zip_cons_cons, List.zip_nil_right]
                iterate 10 (refine Mix.step0 fun K hK => ?_; go_simp; (try (go_bits; try go_simp)); first | ((with_reducible refine hK _ _ ?_); clear hK K) | ((try (simp only [IntWalk.iteOmega]; try go_simp)); (try go_bits); (with_reducible refine hK _ _ ?_); clear hK K))
                iterate 9 (first | (refine Mix.stepS rfl fun K hK => ?_; go_simp; (with_reducible refine hK _ _ ?_); clear hK K) | (refine Mix.step0 fun K hK => ?_; go_simp; (try (go_bits; try go_simp)); first | ((with_reducible refine hK _ _ ?_); clear hK K) | ((try (simp only [IntWalk.iteOmega]; try go_simp)); (try go_bits); (with_reducible refine hK _ _ ?_); clear hK K)))
                refine Mix.step2n (by first | rfl | simp [Region.wanted, yielded]) fun K hK => ?_
                go_wp2_with fail
                refine (roomX_any _ _ _ S.es _ S.fl m _ (hs.drew.rdRecs 4 rfl) (hs.drew.rdInts 1 rfl) (by omega)).mono ?_
                rintro en w5 ⟨rfl, hb⟩
                rw [HQ2.out]
                replace hs := hs.drew.belowStep hb
                clear hb s0 s1 s2 s3 s4 x1 x2
                go_wp2_with fail
                refine Mix.post_mk (C := (fun _ => True)) trivial (hK _ _ ?_)
                clear hK K
                iterate 1 (first | (refine Mix.stepS rfl fun K hK => ?_; go_simp; (with_reducible refine hK _ _ ?_); clear hK K) | (refine Mix.step0 fun K hK => ?_; go_simp; (try (go_bits; try go_simp)); first | ((with_reducible refine hK _ _ ?_); clear hK K) | ((try (simp only [IntWalk.iteOmega]; try go_simp)); (try go_bits); (with_reducible refine hK _ _ ?_); clear hK K)))
                iterate 1 (refine Mix.step0 fun K hK => ?_; go_simp; (try (go_bits; try go_simp)); first | ((with_reducible refine hK _ _ ?_); clear hK K) | ((try (simp only [IntWalk.iteOmega]; try go_simp)); (try go_bits); (with_reducible refine hK _ _ ?_); clear hK K))
                refine Mix.done ?_
                go_wp2_with fail
                refine Round.intro (2 * S.es.length - (m + 1)) ?measure4 (by kernel_rfl) (hJ2 _ _ _ ?rel4)
                case' rel4 => (try dsimp only [nthV])
                case measure4 => omega
                case rel4 => exact ⟨m + 1, by go_num, hmt, rfl, by rw [roundA_succ, ← HPP.out, HRL.out]; exact hs⟩
            · have d1 : decide (x + C < y) = false := decide_eq_false h1
              rw [if_neg (fun q => h1 q.1)] at HRL
              clear h1
              go_wp2_with fail
              refine Mix.region [0, 0, 0, 0, 0, 0, 0, 0, 0, 0, 0, 0, 0, 0, 0, 0, 0, 0, 0, 2, 0, 0] (fun _ => True) (by kernel_rfl) (by kernel_rfl) trivial ?_
              simp only [List.zip_cons_cons, List.zip_nil_right]
              iterate 10 (refine Mix.step0 fun K hK => ?_; go_simp; (try (go_bits; try go_simp)); first | ((with_reducible refine hK _ _ ?_); clear hK K) | ((try (simp only [IntWalk.iteOmega]; try go_simp)); (try go_bits); (with_reducible refine hK _ _ ?_); clear hK K))
              iterate 9 (first | (refine Mix.stepS rfl fun K hK => ?_; go_simp; (with_reducible refine hK _ _ ?_); clear hK K) | (refine Mix.step0 fun K hK => ?_; go_simp; (try (go_bits; try go_simp)); first | ((with_reducible refine hK _ _ ?_); clear hK K) | ((try (simp only [IntWalk.iteOmega]; try go_simp)); (try go_bits); (with_reducible refine hK _ _ ?_); clear hK K)))
              refine Mix.step2s (by first | rfl | simp [Region.wanted, yielded]) ?_
              iterate 1 (first | (refine Mix.stepS rfl fun K hK => ?_; go_simp; (with_reducible refine hK _ _ ?_); clear hK K) | (refine Mix.step0 fun K hK => ?_; go_simp; (try (go_bits; try go_simp)); first | ((with_reducible refine hK _ _ ?_); clear hK K) | ((try (simp only [IntWalk.iteOmega]; try go_simp)); (try go_bits); (with_reducible refine hK _ _ ?_); clear hK K)))
              iterate 1 (refine Mix.step0 fun K hK => ?_; go_simp; (try (go_bits; try go_simp)); first | ((with_reducible refine hK _ _ ?_); clear hK K) | ((try (simp only [IntWalk.iteOmega]; try go_simp)); (try go_bits); (with_reducible refine hK _ _ ?_); clear hK K))
              refine Mix.done ?_
              replace hs := hs.drew
              go_wp2_with fail
              refine Round.intro (2 * S.es.length - (m + 1)) ?measure5 (by kernel_rfl) (hJ2 _ _ _ ?rel5)
              case' rel5 => (try dsimp only [nthV])
              case measure5 => omega
              case rel5 => exact ⟨m + 1, by go_num, hmt, rfl, by rw [roundA_succ, ← HPP.out, HRL.out]; exact hs⟩
          · obtain rfl : m = 2 * S.es.length := by omega
            go_wp2_with fail
            refine Round.intro (M.N - (k + 1)) ?measure6 (by kernel_rfl) (hJ1 _ _ _ ?rel6)
            case' rel6 => (try dsimp only [nthV])
            case measure6 => omega
            case rel6 => exact ⟨k + 1, by go_num, hlt, rfl, hs⟩
      · obtain rfl : k = M.N := by omega
        go_wp2_with fail
        exact bodyPost_end (results_none rfl _ _ _) rfl ⟨⟨_, rfl⟩, hs⟩
set_option maxRecDepth 100000 in
set_option maxHeartbeats 4000000 in
theorem narrow_any (M : Sol) (S : St) (w0 w : World) (hw : withinB M.N S.es S.fl = true) (ht : tightB S.es S.fl S.pot = true) (hl : S.pot.length = M.N) (hs : Sep w0 w (solL M S)) :
    Calls Try.prog 56 #[.pointer (some ⟨M.bs, 0, none⟩)] w fun e w' => (∃ v, e = .returned v) ∧ Sep w0 w' (solL M { S with pot := narrowF S.es S.fl S.pot M.N }) := by
  obtain ⟨hn1, hn40, hes, _, _⟩ := right_cap (within_cap hw).2.1
  have HAN := Lib.hid (fun (W : World) (q : Sep w0 W (solL M S)) => anew_any M S w0 W hw ht hl q)
  have hs0 := hs
  unfold solL at hs
  have s0 := cell_of (hs.cells 0 rfl) 0
  have s1 := cell_of (hs.cells 0 rfl) 1
  have s2 := cell_of (hs.cells 0 rfl) 2
  have s3 := cell_of (hs.cells 0 rfl) 3
  have s4 := cell_of (hs.cells 0 rfl) 4
  simp only [Sol.cells, List.getElem?_toArray, List.getElem?_cons_zero, List.getElem?_cons_succ] at s0 s1 s2 s3 s4
  go_enter Try.func56, Try.ntmps56
  go_wp2_with fail
  refine wp_loopM [none, none, none, some 3, none, none, none, none, none, some 9, some 10, some 11, some 12, some 13, some 14, some 15, some 16, some 17, some 18, some 19, some 20, some 21] (fun (r : Nat) (f : Nat → Value) (wr : World) => (fun (v : Value) => ∃ k : Nat, v = .int .i64 k ∧ k ≤ M.N ∧ r = M.N - k ∧ Hid ((S.pot.take k).any bigB = false) ∧ wr = w) (f 9)) (M.N) (by kernel_rfl) ?atStart7 ?round7
  case' atStart7 => (try dsimp only [nthV])
  case' round7 =>
    intro gk f wr l hl hrel J1 K1 hJ1 hK1
    (try simp only [mask] at hl)
    generalize f 9 = u9 at hl hrel
    subst hl
    (try dsimp only at hrel)
  case atStart7 => exact ⟨0, rfl, Nat.zero_le _, rfl, Lib.hid (by simp), rfl⟩
  case round7 =>
    obtain ⟨k, rfl, hk, rfl, HA, rfl⟩ := hrel
    by_cases hlt : k < M.N
    · obtain ⟨_, _, eqz, _, x1⟩ := (hs.rdInts 2 rfl).at k (by rw [hl]; exact hlt)
      injection eqz with eqz
      injection eqz with eqz eqo
      subst eqz
      subst eqo
      rw [Nat.zero_add] at x1
      have hkl : k < S.pot.length := by omega
      have HT := Lib.hid (show (S.pot.take (k + 1)).any bigB = bigB (g S.pot k) from by
        rw [List.take_succ_eq_append_getElem hkl, List.any_append, HA.out]
        have : g S.pot k = S.pot[k] := by unfold g; rw [List.getD_eq_getElem?_getD, List.getElem?_eq_getElem hkl]; rfl
        rw [this]; simp)
      have HM := Lib.hid (g_mem hkl)
      obtain ⟨x, hx⟩ : ∃ x, x = g S.pot k := ⟨_, rfl⟩
      rw [show S.pot.getD k 0 = x from hx.symm] at x1
      rw [← hx] at HT HM
      clear hx hkl
      by_cases c1 : x < -1073741824
      · have d1 : decide (x < -1073741824) = true := decide_eq_true c1
        have HY := Lib.hid (show narrowF S.es S.fl S.pot M.N = anewK S.es S.fl M.N M.N by unfold narrowF; rw [if_pos (List.any_eq_true.2 ⟨x, HM.out, by unfold bigB; rw [d1]; rfl⟩)])
        clear c1
        go_wp2_with fail
        refine (HAN.out _ hs0).mono ?_
        rintro en w5 ⟨⟨v5, rfl⟩, hs5⟩
        rw [← HY.out] at hs5
        go_wp2_with fail
        (repeat rw [Exit.noGoto_ret]); refine bodyPost_ret (results_none rfl _ _ _) rfl ?_
        exact ⟨⟨_, rfl⟩, hs5⟩
      · have d1 : decide (x < -1073741824) = false := decide_eq_false c1
        by_cases c2 : 1073741824 < x
        · have d2 : decide (1073741824 < x) = true := decide_eq_true c2
          have HY := Lib.hid (show narrowF S.es S.fl S.pot M.N = anewK S.es S.fl M.N M.N by unfold narrowF; rw [if_pos (List.any_eq_true.2 ⟨x, HM.out, by unfold bigB; rw [d1, d2]; rfl⟩)])
          clear c1 c2
          go_wp2_with fail
          refine (HAN.out _ hs0).mono ?_
          rintro en w5 ⟨⟨v5, rfl⟩, hs5⟩
          rw [← HY.out] at hs5
          go_wp2_with fail
          (repeat rw [Exit.noGoto_ret]); refine bodyPost_ret (results_none rfl _ _ _) rfl ?_
          exact ⟨⟨_, rfl⟩, hs5⟩
        · have d2 : decide (1073741824 < x) = false := decide_eq_false c2
          have HA2 := Lib.hid (show (S.pot.take (k + 1)).any bigB = false by rw [HT.out]; unfold bigB; rw [d1, d2]; rfl)
          clear c1 c2
          go_wp2_with fail
          refine Round.intro (M.N - (k + 1)) ?measure8 (by kernel_rfl) (hJ1 _ _ _ ?rel8)
          case' rel8 => (try dsimp only [nthV])
          case measure8 => omega
          case rel8 => exact ⟨k + 1, by go_num, hlt, rfl, HA2, rfl⟩
    · obtain rfl : k = M.N := by omega
      have HY := Lib.hid (show narrowF S.es S.fl S.pot M.N = S.pot by
        have := HA.out
        rw [← hl, List.take_length] at this
        unfold narrowF
        rw [this]; rfl)
      go_wp2_with fail
      exact bodyPost_end (results_none rfl _ _ _) rfl ⟨⟨_, rfl⟩, by rw [HY.out]; exact hs0⟩
end Go.Proofs.Ytlbpkfjebaelpaa
