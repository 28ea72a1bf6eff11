/-
  DevicePlays, walked.
-/
import Derived.Test.YtpjbafpbgacnkaaDvPlaysW
set_option linter.unusedVariables false
set_option linter.unusedSimpArgs false
namespace Go.Proofs.Ytpjbafpbgacnkaa
open Go Go.RowKit Go.Mem Go.DevP
attribute [local go_sem] Oper.semAt_some
set_option maxRecDepth 100000 in
set_option maxHeartbeats 8000000 in
theorem devicePlays_any (n : Int) (hn : -9223372036854775808 ≤ n ∧ n ≤ 9223372036854775807) {v : Value} {l : List St} (W : World) (hl : RdG stR W v l) (hok : ∀ s ∈ l, s.Ok W) : Calls Try.prog 3 #[.int .i64 n, v] W fun e w' => e = .returned (.bool true) ∧ Below W.heap.size W w' := by
  have HFEW := Lib.hid (few_any l v W hl)
  obtain ⟨a, c, rfl⟩ := hl.shape
  have hle := hl.le'
  have HOK := Lib.hid hok
  obtain ⟨hn1, hn2⟩ := hn
  have hs := Sep.start W
  clear hok
  cases hf : fewL l
  · rw [hf] at HFEW
    clear hf
    go_enter Try.func3, Try.ntmps3
    go_wp2_with fail
    refine HFEW.out.mono ?_
    rintro en w1 ⟨rfl, rfl⟩
    go_wp2_with fail
    refine (works_any _).mono ?_
    rintro en w9 ⟨rfl, hw⟩
    replace hs := hs.belowStep hw
    clear hw
    go_wp2_with fail
    go_ret
    exact ⟨rfl, hs.below⟩
  rw [hf] at HFEW
  have hfl : l.length ≤ 200 := by
    unfold fewL at hf
    rw [Bool.and_eq_true] at hf
    exact of_decide_eq_true hf.1
  have HPL := Lib.hid (show ∀ s ∈ l, s.ps.length ≤ 200 from fun s hs => by
    unfold fewL at hf
    rw [Bool.and_eq_true] at hf
    exact of_decide_eq_true (List.all_eq_true.1 hf.2 s hs))
  clear hf
  by_cases h40 : 40 < n ∧ n ≤ 4096
  · obtain ⟨h40, h41⟩ := h40
    go_enter Try.func3, Try.ntmps3
    go_wp2_with fail
    refine HFEW.out.mono ?_
    rintro en w1 ⟨rfl, rfl⟩
    go_wp2_with fail
    refine (works_any _).mono ?_
    rintro en w9 ⟨rfl, hw⟩
    replace hs := hs.belowStep hw
    clear hw
    go_wp2_with fail
    go_ret
    exact ⟨rfl, hs.below⟩
  have HFL := Lib.hid hfl
  clear hfl
  have d0 : (decide (40 < n) && decide (n ≤ 4096)) = false := by
    rw [Bool.and_eq_false_iff, decide_eq_false_iff_not, decide_eq_false_iff_not]; omega
  by_cases hok2 : n < 1 ∨ 4096 < n
  · have HOR := Lib.hid hok2
    by_cases h41 : n < 1
    · have d1 : decide ((40 : Int) < n) = false := decide_eq_false (by omega)
      clear hok2 h40 d0 hn1 hn2
      go_enter Try.func3, Try.ntmps3
      go_wp2_with fail
      refine HFEW.out.mono ?_
      rintro en w1 ⟨rfl, rfl⟩
      go_wp2_with fail
      refine (new_any n _).mono ?_
      rintro en w2 (⟨-, rfl, rfl⟩ | ⟨M, b, hM, h1, h2, rfl, hs1⟩)
      rotate_left
      · have := HOR.out
        omega
      go_wp2_with fail
      refine (rnew_any n _).mono ?_
      rintro en w3 (⟨-, rfl, rfl⟩ | ⟨M, rb, hM, h1, h2, rfl, hs2⟩)
      rotate_left
      · have := HOR.out
        omega
      go_wp2_with fail
      refine (works_any _).mono ?_
      rintro en w9 ⟨rfl, hw⟩
      replace hs := hs.belowStep hw
      clear hw
      go_wp2_with fail
      go_ret
      exact ⟨rfl, hs.below⟩
    · have d1 : decide ((40 : Int) < n) = true := decide_eq_true (by omega)
      have d2 : decide (n ≤ (4096 : Int)) = false := decide_eq_false (by omega)
      clear hok2 h40 d0 hn1 hn2 h41
      go_enter Try.func3, Try.ntmps3
      go_wp2_with fail
      refine HFEW.out.mono ?_
      rintro en w1 ⟨rfl, rfl⟩
      go_wp2_with fail
      refine (new_any n _).mono ?_
      rintro en w2 (⟨-, rfl, rfl⟩ | ⟨M, b, hM, h1, h2, rfl, hs1⟩)
      rotate_left
      · have := HOR.out
        omega
      go_wp2_with fail
      refine (rnew_any n _).mono ?_
      rintro en w3 (⟨-, rfl, rfl⟩ | ⟨M, rb, hM, h1, h2, rfl, hs2⟩)
      rotate_left
      · have := HOR.out
        omega
      go_wp2_with fail
      refine (works_any _).mono ?_
      rintro en w9 ⟨rfl, hw⟩
      replace hs := hs.belowStep hw
      clear hw
      go_wp2_with fail
      go_ret
      exact ⟨rfl, hs.below⟩
  · obtain ⟨N, rfl⟩ : ∃ N : Nat, n = N := ⟨n.toNat, by omega⟩
    have d1 : decide ((40 : Int) < N) = false := decide_eq_false (by omega)
    have hN1 : 1 ≤ N := by omega
    have hN4 : N ≤ 40 := by omega
    clear h40 hok2 d0 hn1 hn2
    go_enter Try.func3, Try.ntmps3
    go_wp2_with fail
    refine HFEW.out.mono ?_
    rintro en w1 ⟨rfl, rfl⟩
    go_wp2_with fail
    refine (new_any N _).mono ?_
    rintro en w2 (⟨h, -⟩ | ⟨M, b, hM, h1, h2, rfl, hs1⟩)
    · omega
    obtain rfl : N = M := by omega
    clear hM h1 h2 hs
    go_wp2_with fail
    refine (rnew_any N _).mono ?_
    rintro en w3 (⟨h, -⟩ | ⟨M, rb, hM, h1, h2, rfl, hs2⟩)
    · omega
    obtain rfl : N = M := by omega
    have hs := (hs1.join hs2).perm (List.Perm.swap _ _ _)
    have HG0 := Lib.hid (new_good (n := N) hN1 (by omega))
    have HB0 := Lib.hid (big_new N)
    have HN0 := Lib.hid (show (Dv.new N).B.length = N by simp [Dv.new])
    generalize Dv.new N = d0 at hs HG0 HB0 HN0
    clear hM h1 h2 hs1 hs2
    go_wp2_with fail
    refine wp_loopM [none, none, none, none, some 4, none, none, none, none, some 9, none, none, none, none, none, none, none, none, none, none, none, none, none, none, none, none, none, none, none, none, none, none, none, none, none, none, none, none, none, none, none, none, none, none, none, none, some 46, some 47, some 48, some 49, some 50, some 51, some 52, some 53, some 54, some 55, some 56, some 57, some 58, some 59, some 60, some 61, some 62, some 63, some 64, some 65, some 66, some 67, some 68, none, none, none, none, none, none, none, none, none, none, none, none, none, none, none, none, none, none] (fun (r : Nat) (f : Nat → Value) (wr : World) => (fun (v : Value) => ∃ (i : Nat) (d : Dv), v = .int .i64 i ∧ i ≤ l.length ∧ r = l.length - i ∧ Hid (d.Good ∧ d.Big i ∧ d.B.length = N) ∧ Sep w1 wr [devT b d, refT rb d]) (f 9)) (l.length) (by kernel_rfl) ?atStart1 ?round1
    case' atStart1 => (try dsimp only [nthV])
    case' round1 =>
      intro gk f wr l hl hrel J1 K1 hJ1 hK1
      (try simp only [mask] at hl)
      generalize f 9 = u9 at hl hrel
      subst hl
      (try dsimp only at hrel)
    case atStart1 => exact ⟨0, d0, rfl, Nat.zero_le _, rfl, Lib.hid ⟨HG0.out, HB0.out, HN0.out⟩, hs⟩
    case round1 =>
      clear hs HG0 HB0 HN0
      obtain ⟨i, d, rfl, hi, rfl, HD, hs⟩ := hrel
      by_cases hlt : i < l.length
      · obtain ⟨b1, o1, e1, hb1, hc1⟩ := hl.at i hlt
        subst e1
        have HS := Lib.hid (And.intro (HOK.out _ (List.getElem_mem hlt)) (HPL.out _ (List.getElem_mem hlt)))
        obtain ⟨s, hsd⟩ : ∃ s, s = l[i] := ⟨_, rfl⟩
        rw [← hsd] at hc1 HS
        clear hsd
        obtain ⟨q, k, n, c', e, sh, sa, spc, ps⟩ := s
        have x0 := (hs.cell hb1).trans (hc1 0 (by decide))
        have x1 := (hs.cell hb1).trans (hc1 1 (by decide))
        have x2 := (hs.cell hb1).trans (hc1 2 (by decide))
        have x3 := (hs.cell hb1).trans (hc1 3 (by decide))
        have x4 := (hs.cell hb1).trans (hc1 4 (by decide))
        have x5 := (hs.cell hb1).trans (hc1 5 (by decide))
        have x6 := (hs.cell hb1).trans (hc1 6 (by decide))
        simp only [stR, Nat.add_zero, List.getElem?_cons_zero, List.getElem?_cons_succ] at x0 x1 x2 x3 x4 x5 x6
        have HDO := Lib.hid (do_any (hs.drew) (HD.out).1 (HD.out).2.1 (by have := HFL.out; omega) _ (HS.out).1 (HS.out).2)
        have HD2 := Lib.hid (doD_ok (HD.out).1 (HD.out).2.1 _ (HS.out).1)
        obtain ⟨d', hd'⟩ : ∃ d', d' = doD d ⟨q, k, n, c', e, sh, sa, spc, ps⟩ := ⟨_, rfl⟩
        rw [← hd'] at HDO HD2
        dsimp only at HDO
        obtain ⟨o, ho⟩ : ∃ o, o = !d'.off := ⟨_, rfl⟩
        have HO := Lib.hid ho
        clear hc1 hs hd' ho
        go_wp2_with fail
        refine Mix.region3 9 [0, 0, 0, 0, 0, 0, 2, 0, 0, 0, 2, 1, 1, 1, 1, 0, 0] (fun _ => True) (fun W : World => W.cell? ⟨rb, 2, none⟩ = some (.bool o)) (by kernel_rfl) (by kernel_rfl) trivial ?_
        simp only [List.zip_cons_cons, List.zip_nil_right, List.take_succ_cons, List.take_zero, List.drop_succ_cons, List.drop_zero]
        iterate 6 (refine Mix.step0 fun K hK => ?_; go_simp; (try (go_bits; try go_simp)); first | ((with_reducible refine hK _ _ ?_); clear hK K) | ((try (simp only [IntWalk.iteOmega]; try go_simp)); (try go_bits); (with_reducible refine hK _ _ ?_); clear hK K))
        refine Mix.step2n (by first | rfl | simp [Region.wanted, yielded]) fun K hK => ?_
        go_wp2_with fail
        refine HDO.out.mono ?_
        rintro en w4 ⟨rfl, hs⟩
        have hCW : (fun W : World => W.cell? ⟨rb, 2, none⟩ = some (.bool o)) w4 := by rw [HO.out]; exact ref_on hs (i := 1) rfl
        have hcr : w4.cell? ⟨rb, 2, none⟩ = some (.bool o) := hCW
        go_wp2_with fail
        refine Mix.post_mk (C := (fun _ => True)) trivial (hK _ _ ?_)
        clear hK K
        iterate 2 (refine Mix.step0 fun K hK => ?_; go_simp; (try (go_bits; try go_simp)); first | ((with_reducible refine hK _ _ ?_); clear hK K) | ((try (simp only [IntWalk.iteOmega]; try go_simp)); (try go_bits); (with_reducible refine hK _ _ ?_); clear hK K))
        refine Mix.done ?_
        refine ⟨(by first | exact hCW | exact HCW.out _), ?_⟩
        iterate 1 (first | (refine Mix.stepS rfl fun K hK => ?_; go_simp; (with_reducible refine hK _ _ ?_); clear hK K) | (refine Mix.step0 fun K hK => ?_; go_simp; (try (go_bits; try go_simp)); first | ((with_reducible refine hK _ _ ?_); clear hK K) | ((try (simp only [IntWalk.iteOmega]; try go_simp)); (try go_bits); (with_reducible refine hK _ _ ?_); clear hK K)))
        refine Mix.step2n (by first | rfl | simp [Region.wanted, yielded]) fun K hK => ?_
        go_wp2_with fail
        refine (power_any hs (i := 0) rfl).mono ?_
        rintro en w5 ⟨rfl, rfl⟩
        rw [← HO.out]
        go_wp2_with fail
        refine Mix.post_mk (C := (fun W : World => W.cell? ⟨rb, 2, none⟩ = some (.bool o))) (by first | exact hCW | exact HCW.out _) (hK _ _ ?_)
        clear hK K
        (first | (refine Mix.stepS rfl fun K hK => ?_; go_simp; (with_reducible refine hK _ _ ?_); clear hK K) | (refine Mix.step1 fun K hK => ?_; go_simp; (try (go_bits; try go_simp)); first | ((with_reducible refine hK _ _ ?_); clear hK K) | ((try (simp only [IntWalk.iteOmega]; try go_simp)); (try go_bits); (with_reducible refine hK _ _ ?_); clear hK K)))
        (first | (refine Mix.stepS rfl fun K hK => ?_; go_simp; (with_reducible refine hK _ _ ?_); clear hK K) | (refine Mix.step1 fun K hK => ?_; go_simp; (try (go_bits; try go_simp)); first | ((with_reducible refine hK _ _ ?_); clear hK K) | ((try (simp only [IntWalk.iteOmega]; try go_simp)); (try go_bits); (with_reducible refine hK _ _ ?_); clear hK K)))
        (first | (refine Mix.stepS rfl fun K hK => ?_; go_simp; (with_reducible refine hK _ _ ?_); clear hK K) | (refine Mix.step1 fun K hK => ?_; go_simp; (try (go_bits; try go_simp)); first | ((with_reducible refine hK _ _ ?_); clear hK K) | ((try (simp only [IntWalk.iteOmega]; try go_simp)); (try go_bits); (with_reducible refine hK _ _ ?_); clear hK K)))
        (first | (refine Mix.stepS rfl fun K hK => ?_; go_simp; (with_reducible refine hK _ _ ?_); clear hK K) | (refine Mix.step1 fun K hK => ?_; go_simp; refine ⟨fun W => ?_, hK _ _ ?_⟩; (intro hW1; (try intro hW2); (try intro hW3); (try intro hW4); (try intro hW5); (try intro hW6); (try intro hW7); (try intro hW8); go_simp); clear hK K))
        iterate 1 (first | (refine Mix.stepS rfl fun K hK => ?_; go_simp; (with_reducible refine hK _ _ ?_); clear hK K) | (refine Mix.step0 fun K hK => ?_; go_simp; (try (go_bits; try go_simp)); first | ((with_reducible refine hK _ _ ?_); clear hK K) | ((try (simp only [IntWalk.iteOmega]; try go_simp)); (try go_bits); (with_reducible refine hK _ _ ?_); clear hK K)))
        iterate 1 (refine Mix.step0 fun K hK => ?_; go_simp; (try (go_bits; try go_simp)); first | ((with_reducible refine hK _ _ ?_); clear hK K) | ((try (simp only [IntWalk.iteOmega]; try go_simp)); (try go_bits); (with_reducible refine hK _ _ ?_); clear hK K))
        refine Mix.done ?_
        go_wp2_with fail
        refine Round.intro (l.length - (i + 1)) ?measure2 (by kernel_rfl) (hJ1 _ _ _ ?rel2)
        case' rel2 => (try dsimp only [nthV])
        case measure2 => omega
        case rel2 => exact ⟨i + 1, d', by go_num, hlt, rfl, Lib.hid ⟨(HD2.out).1, (HD2.out).2.1, (HD2.out).2.2.trans (HD.out).2.2⟩, hs⟩
      · obtain rfl : l.length = i := by omega
        have HDG := Lib.hid (HD.out).1
        have HDN := Lib.hid (HD.out).2.2
        clear HD
        go_wp2_with fail
        refine wp_loopM [none, none, none, none, some 4, none, none, none, none, none, some 10, none, none, none, none, none, none, none, none, none, none, none, none, none, none, none, none, none, none, none, none, none, none, none, none, none, none, none, none, none, none, none, none, none, none, none, none, none, none, none, none, none, none, none, none, none, none, none, none, none, none, none, none, none, none, none, none, none, none, some 69, some 70, some 71, some 72, some 73, some 74, some 75, some 76, some 77, some 78, some 79, none, none, none, none, none, none, none] (fun (r : Nat) (f : Nat → Value) (wr : World) => (fun (v : Value) => ∃ z : Int, v = .int .i64 z ∧ -1 ≤ z ∧ z ≤ N + 1 ∧ r = (N + 1 - z).toNat ∧ Sep w1 wr [devT b d, refT rb d]) (f 10)) ((N + 2)) (by kernel_rfl) ?atStart3 ?round3
        case' atStart3 => (try dsimp only [nthV])
        case' round3 =>
          intro gk f wr l hl hrel J2 K2 hJ2 hK2
          (try simp only [mask] at hl)
          generalize f 10 = u10 at hl hrel
          subst hl
          (try dsimp only at hrel)
        case atStart3 => exact ⟨-1, rfl, by omega, by omega, by omega, hs⟩
        case round3 =>
          clear hs
          obtain ⟨z, rfl, hz0, hz1, rfl, hs⟩ := hrel
          by_cases hzn : z ≤ N
          · go_wp2_with fail
            refine (do_read hs HDG.out).mono ?_
            rintro en w4 ⟨rfl, hs2⟩
            clear hs
            go_wp2_with fail
            refine Round.intro ((N + 1 - (z + 1)).toNat) ?measure4 (by kernel_rfl) (hJ2 _ _ _ ?rel4)
            case' rel4 => (try dsimp only [nthV])
            case measure4 => omega
            case rel4 => exact ⟨z + 1, by go_num, by omega, by omega, rfl, hs2⟩
          · go_wp2_with fail
            refine (size_any hs (i := 0) rfl).mono ?_
            rintro en w4 ⟨rfl, rfl⟩
            rw [HDN.out]
            go_wp2_with fail
            refine (works_any _).mono ?_
            rintro en w9 ⟨rfl, hw⟩
            replace hs := hs.belowStep hw
            clear hw
            go_wp2_with fail
            go_ret
            exact ⟨rfl, hs.below⟩
end Go.Proofs.Ytpjbafpbgacnkaa
