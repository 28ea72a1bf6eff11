/-
  DeviceArms, walked.
-/
import Derived.Test.YtpjbafpbgacnkaaDvW8
import Derived.Test.YtpjbafpbgacnkaaDvGood
set_option linter.unusedVariables false
set_option linter.unusedSimpArgs false
namespace Go.Proofs.Ytpjbafpbgacnkaa
open Go Go.RowKit Go.Mem Go.DevP
attribute [local go_sem] Oper.semAt_some
set_option maxRecDepth 100000 in
set_option maxHeartbeats 4000000 in
theorem deviceArms_any (n : Int) (hn : 0 ≤ n ∧ n ≤ 255) {v : Value} {zs : List Int} (W : World) (hv : Rd .u8 W v zs) (hz : ∀ z ∈ zs, 0 ≤ z ∧ z ≤ 255) : Calls Try.prog 5 #[.int .u8 n, v] W fun e w' => e = .returned (.bool true) ∧ Below W.heap.size W w' := by
  obtain ⟨a, c, rfl⟩ := hv.shape
  have hle := hv.le'
  obtain ⟨N, rfl⟩ : ∃ N : Nat, n = N := ⟨n.toNat, by omega⟩
  have hN : N ≤ 255 := by omega
  have HZ := Lib.hid hz
  clear hz hn
  by_cases hb : 400 < zs.length
  · clear hv
    go_enter Try.func5, Try.ntmps5
    go_wp2_with fail
    refine (works_any _).mono ?_
    rintro en w1 ⟨rfl, hw⟩
    go_wp2_with fail
    go_ret
    exact ⟨rfl, hw⟩
  go_enter Try.func5, Try.ntmps5
  go_wp2_with fail
  refine (new_any 3 _).mono ?_
  rintro en w1 (⟨h, -⟩ | ⟨M, b, hM, h1, h2, rfl, hs⟩)
  · omega
  obtain rfl : M = 3 := by omega
  clear hM h1 h2
  go_wp2_with fail
  refine (arm_any hs (i := 0) rfl N).mono ?_
  rintro en w2 ⟨rfl, hs2⟩
  rw [show onE (Dv.new 3).off = 0 from rfl]
  have HI0 := Lib.hid (ArmI.start hN)
  clear hs
  have hs := hs2
  clear hs2
  simp only [List.set_cons_zero] at hs
  generalize Dv.armD (Dv.new 3) (N : Int) = d0 at hs HI0
  go_wp2_with fail
  refine wp_loopM [none, none, none, none, some 4, none, none, some 7, some 8, some 9, some 10, some 11, none, none, none, none, none, none, none, none, none, none, none, none, none, none, none, none, none, none, none, none, none, some 33, some 34, some 35, some 36, some 37, some 38, some 39, some 40, some 41, some 42, some 43, some 44, some 45, some 46, some 47, some 48, some 49, some 50, some 51, some 52, some 53, some 54, some 55, some 56, some 57, some 58, some 59, some 60, some 61, some 62, some 63, some 64, some 65, some 66, some 67, some 68, some 69, some 70, some 71, some 72, some 73, some 74, some 75, some 76, some 77, some 78, some 79, some 80, some 81, some 82, some 83, some 84, some 85, some 86, some 87, some 88, some 89, some 90, some 91, some 92, some 93, some 94, some 95, some 96, some 97, some 98, some 99, some 100, some 101, some 102, some 103, some 104, some 105, some 106, some 107, some 108, none] (fun (r : Nat) (f : Nat → Value) (wr : World) => (fun (v : Value) => ∃ (i : Nat) (d : Dv), v = .int .i64 i ∧ i ≤ zs.length ∧ r = zs.length - i ∧ ArmI N i d ∧ Sep W wr [devT b d]) (f 7)) (zs.length) (by kernel_rfl) ?atStart1 ?round1
  case' atStart1 => (try dsimp only [nthV])
  case' round1 =>
    intro gk f wr l hl hrel J1 K1 hJ1 hK1
    (try simp only [mask] at hl)
    generalize f 7 = u7 at hl hrel
    subst hl
    (try dsimp only at hrel)
  case atStart1 => exact ⟨0, d0, rfl, Nat.zero_le _, rfl, HI0.out, hs⟩
  case round1 =>
    clear hs HI0
    obtain ⟨i, d, rfl, hi, rfl, hI, hs⟩ := hrel
    have HI := Lib.hid hI
    clear hI
    by_cases hlt : i < zs.length
    · obtain ⟨b1, o1, e1, hb1, hc1⟩ := hv.at i hlt
      subst e1
      obtain ⟨x, hx⟩ : ∃ x, x = zs.getD i 0 := ⟨_, rfl⟩
      rw [← hx] at hc1
      have hx2 : 0 ≤ x ∧ x ≤ 255 := by
        refine HZ.out x ?_
        rw [hx, List.getD_eq_getElem?_getD, List.getElem?_eq_getElem hlt]
        exact List.getElem_mem hlt
      obtain ⟨hx0, hx1⟩ := hx2
      clear hx
      have HC1 := Lib.hid hc1
      by_cases h1 : i < N
      · have h2 : i ≤ N := by omega
        have HLE := Lib.hid h2
        go_wp2_with fail
        refine (read_any hs (i := 0) rfl (HI.out).good 0).mono ?_
        rintro en w2 ⟨r, rfl, hs2⟩
        rw [(HI.out).read, if_pos h2]
        clear hs
        have hs := hs2.tail
        clear hs2
        (try simp only [List.tail_cons] at hs)
        go_wp2_with fail
        refine (power_any hs (i := 0) rfl).mono ?_
        rintro en w2 ⟨rfl, rfl⟩
        rw [(HI.out).off, decide_eq_false (show ¬ N < i by omega)]
        go_wp2_with fail
        refine (full_any 1 _).mono ?_
        rintro en1 w1 ⟨fa, fn, rfl, hf⟩
        replace hs := hs.join hf
        simp only [List.cons_append, List.nil_append] at hs
        clear hf
        go_wp2_with fail
        refine (write_any hs (i := 1) rfl (HI.out).good 3 (j := 0) (by decide) rfl (by rw [filled_len]; omega) ((HI.out).big.le (by omega))).mono ?_
        rintro en2 w2 ⟨rfl, hs2⟩
        rw [((HI.out).not HLE.out _).2] at hs2
        rw [((HI.out).not HLE.out _).1]
        clear hs
        have hs := hs2.tail
        clear hs2
        (try simp only [List.set_cons_succ, List.set_cons_zero, List.tail_cons] at hs)
        have cx := (hs.cell hb1).trans hc1
        by_cases h4 : x % 4 = 0
        · go_wp2_with fail
          have HNX := Lib.hid ((HI.out).flush).2
          have HFE := Lib.hid ((HI.out).flush).1
          refine (flush_any hs (i := 0) rfl (HI.out).good).mono ?_
          rintro en2 w2 ⟨rfl, hs2⟩
          rw [HFE.out, if_pos h1]
          clear hs HI
          have hs := hs2
          clear hs2
          simp only [List.set_cons_zero] at hs
          go_wp2_with fail
          refine Round.intro (zs.length - (i + 1)) ?measure2 (by kernel_rfl) (hJ1 _ _ _ ?rel2)
          case' rel2 => (try dsimp only [nthV])
          case measure2 => omega
          case rel2 => exact ⟨i + 1, _, by go_num, hlt, rfl, HNX.out, hs⟩
        · go_wp2_with fail
          have hCW : (fun W : World => W.cell? ⟨b1, o1 + i, none⟩ = some (.int .u8 x)) w2.drew := by exact ((hs.drew).cell hb1).trans hc1
          have hm0 : 0 ≤ x % 3 := by omega
          have hm1 : x % 3 < 3 := by omega
          replace hs := hs.drew
          refine Mix.region [1, 1, 1, 1, 1, 1, 1, 0, 0, 0, 0, 2, 2, 0] (fun W : World => W.cell? ⟨b1, o1 + i, none⟩ = some (.int .u8 x)) (by kernel_rfl) (by kernel_rfl) hCW ?_
          simp only [List.zip_cons_cons, List.zip_nil_right]
          (refine Mix.step1 fun K hK => ?_; go_simp; (try (go_bits; try go_simp)); first | ((with_reducible refine hK _ _ ?_); clear hK K) | ((try (simp only [IntWalk.iteOmega]; try go_simp)); (try go_bits); (with_reducible refine hK _ _ ?_); clear hK K))
          (refine Mix.step1 fun K hK => ?_; go_simp; (try (go_bits; try go_simp)); first | ((with_reducible refine hK _ _ ?_); clear hK K) | ((try (simp only [IntWalk.iteOmega]; try go_simp)); (try go_bits); (with_reducible refine hK _ _ ?_); clear hK K))
          (refine Mix.step1 fun K hK => ?_; go_simp; (try (go_bits; try go_simp)); first | ((with_reducible refine hK _ _ ?_); clear hK K) | ((try (simp only [IntWalk.iteOmega]; try go_simp)); (try go_bits); (with_reducible refine hK _ _ ?_); clear hK K))
          (refine Mix.step1 fun K hK => ?_; go_simp; (try (go_bits; try go_simp)); first | ((with_reducible refine hK _ _ ?_); clear hK K) | ((try (simp only [IntWalk.iteOmega]; try go_simp)); (try go_bits); (with_reducible refine hK _ _ ?_); clear hK K))
          (refine Mix.step1 fun K hK => ?_; go_simp; refine ⟨fun W => ?_, hK _ _ ?_⟩; (intro hW1; (try intro hW2); (try intro hW3); (try intro hW4); (try intro hW5); (try intro hW6); (try intro hW7); (try intro hW8); go_simp); clear hK K)
          (refine Mix.step1 fun K hK => ?_; go_simp; (try (go_bits; try go_simp)); first | ((with_reducible refine hK _ _ ?_); clear hK K) | ((try (simp only [IntWalk.iteOmega]; try go_simp)); (try go_bits); (with_reducible refine hK _ _ ?_); clear hK K))
          (refine Mix.step1 fun K hK => ?_; go_simp; (try (go_bits; try go_simp)); first | ((with_reducible refine hK _ _ ?_); clear hK K) | ((try (simp only [IntWalk.iteOmega]; try go_simp)); (try go_bits); (with_reducible refine hK _ _ ?_); clear hK K))
          iterate 4 (refine Mix.step0 fun K hK => ?_; go_simp; (try (go_bits; try go_simp)); first | ((with_reducible refine hK _ _ ?_); clear hK K) | ((try (simp only [IntWalk.iteOmega]; try go_simp)); (try go_bits); (with_reducible refine hK _ _ ?_); clear hK K))
          refine Mix.step2n (by first | rfl | simp [Region.wanted, yielded]) fun K hK => ?_
          go_wp2_with fail
          refine (full_any x _).mono ?_
          rintro en1 w1 ⟨fa, fn, rfl, hf⟩
          replace hs := hs.join hf
          simp only [List.cons_append, List.nil_append] at hs
          clear hf
          have hCW : (fun W : World => W.cell? ⟨b1, o1 + i, none⟩ = some (.int .u8 x)) w1 := by exact (hs.cell hb1).trans hc1
          go_wp2_with fail
          refine Mix.post_mk (C := (fun W : World => W.cell? ⟨b1, o1 + i, none⟩ = some (.int .u8 x))) (by first | exact hCW | exact HCW.out _) (hK _ _ ?_)
          clear hK K
          refine Mix.step2n (by first | rfl | simp [Region.wanted, yielded]) fun K hK => ?_
          go_wp2_with fail
          have HNX := Lib.hid ((HI.out).write ⟨hm0, hm1⟩ (filled_len x x)).2
          have HFE := Lib.hid ((HI.out).write ⟨hm0, hm1⟩ (filled_len x x)).1
          refine (write_any hs (i := 1) rfl (HI.out).good (x % 3) (j := 0) (by decide) rfl (by rw [filled_len]; omega) ((HI.out).big.le (by omega))).mono ?_
          rintro en2 w2 ⟨rfl, hs2⟩
          rw [HFE.out, if_pos h1]
          clear hs HI
          have hs := hs2.tail
          clear hs2
          (try simp only [List.set_cons_succ, List.set_cons_zero, List.tail_cons] at hs)
          have hCW : (fun W : World => W.cell? ⟨b1, o1 + i, none⟩ = some (.int .u8 x)) w2 := by exact (hs.cell hb1).trans hc1
          go_wp2_with fail
          refine Mix.post_mk (C := (fun W : World => W.cell? ⟨b1, o1 + i, none⟩ = some (.int .u8 x))) (by first | exact hCW | exact HCW.out _) (hK _ _ ?_)
          clear hK K
          iterate 1 (refine Mix.step0 fun K hK => ?_; go_simp; (try (go_bits; try go_simp)); first | ((with_reducible refine hK _ _ ?_); clear hK K) | ((try (simp only [IntWalk.iteOmega]; try go_simp)); (try go_bits); (with_reducible refine hK _ _ ?_); clear hK K))
          refine Mix.done ?_
          go_wp2_with fail
          refine Round.intro (zs.length - (i + 1)) ?measure3 (by kernel_rfl) (hJ1 _ _ _ ?rel3)
          case' rel3 => (try dsimp only [nthV])
          case measure3 => omega
          case rel3 => exact ⟨i + 1, _, by go_num, hlt, rfl, HNX.out, hs⟩
      · by_cases h2 : i ≤ N
        · have HLE := Lib.hid h2
          have h3 : i = N := by omega
          subst h3
          clear h1
          have h1 : ¬ i < i := by omega
          go_wp2_with fail
          refine (read_any hs (i := 0) rfl (HI.out).good 0).mono ?_
          rintro en w2 ⟨r, rfl, hs2⟩
          rw [(HI.out).read, if_pos h2]
          clear hs
          have hs := hs2.tail
          clear hs2
          (try simp only [List.tail_cons] at hs)
          go_wp2_with fail
          refine (power_any hs (i := 0) rfl).mono ?_
          rintro en w2 ⟨rfl, rfl⟩
          rw [(HI.out).off, decide_eq_false h1]
          go_wp2_with fail
          refine (full_any 1 _).mono ?_
          rintro en1 w1 ⟨fa, fn, rfl, hf⟩
          replace hs := hs.join hf
          simp only [List.cons_append, List.nil_append] at hs
          clear hf
          go_wp2_with fail
          refine (write_any hs (i := 1) rfl (HI.out).good 3 (j := 0) (by decide) rfl (by rw [filled_len]; omega) ((HI.out).big.le (by omega))).mono ?_
          rintro en2 w2 ⟨rfl, hs2⟩
          rw [((HI.out).not HLE.out _).2] at hs2
          rw [((HI.out).not HLE.out _).1]
          clear hs
          have hs := hs2.tail
          clear hs2
          (try simp only [List.set_cons_succ, List.set_cons_zero, List.tail_cons] at hs)
          have cx := (hs.cell hb1).trans hc1
          by_cases h4 : x % 4 = 0
          · go_wp2_with fail
            have HNX := Lib.hid ((HI.out).flush).2
            have HFE := Lib.hid ((HI.out).flush).1
            refine (flush_any hs (i := 0) rfl (HI.out).good).mono ?_
            rintro en2 w2 ⟨rfl, hs2⟩
            rw [HFE.out, if_neg h1]
            clear hs HI
            have hs := hs2
            clear hs2
            simp only [List.set_cons_zero] at hs
            go_wp2_with fail
            refine Round.intro (zs.length - (i + 1)) ?measure4 (by kernel_rfl) (hJ1 _ _ _ ?rel4)
            case' rel4 => (try dsimp only [nthV])
            case measure4 => omega
            case rel4 => exact ⟨i + 1, _, by go_num, hlt, rfl, HNX.out, hs⟩
          · go_wp2_with fail
            have hCW : (fun W : World => W.cell? ⟨b1, o1 + i, none⟩ = some (.int .u8 x)) w2.drew := by exact ((hs.drew).cell hb1).trans hc1
            have hm0 : 0 ≤ x % 3 := by omega
            have hm1 : x % 3 < 3 := by omega
            replace hs := hs.drew
            refine Mix.region [1, 1, 1, 1, 1, 1, 1, 0, 0, 0, 0, 2, 2, 0] (fun W : World => W.cell? ⟨b1, o1 + i, none⟩ = some (.int .u8 x)) (by kernel_rfl) (by kernel_rfl) hCW ?_
            simp only [List.zip_cons_cons, List.zip_nil_right]
            (refine Mix.step1 fun K hK => ?_; go_simp; (try (go_bits; try go_simp)); first | ((with_reducible refine hK _ _ ?_); clear hK K) | ((try (simp only [IntWalk.iteOmega]; try go_simp)); (try go_bits); (with_reducible refine hK _ _ ?_); clear hK K))
            (refine Mix.step1 fun K hK => ?_; go_simp; (try (go_bits; try go_simp)); first | ((with_reducible refine hK _ _ ?_); clear hK K) | ((try (simp only [IntWalk.iteOmega]; try go_simp)); (try go_bits); (with_reducible refine hK _ _ ?_); clear hK K))
            (refine Mix.step1 fun K hK => ?_; go_simp; (try (go_bits; try go_simp)); first | ((with_reducible refine hK _ _ ?_); clear hK K) | ((try (simp only [IntWalk.iteOmega]; try go_simp)); (try go_bits); (with_reducible refine hK _ _ ?_); clear hK K))
            (refine Mix.step1 fun K hK => ?_; go_simp; (try (go_bits; try go_simp)); first | ((with_reducible refine hK _ _ ?_); clear hK K) | ((try (simp only [IntWalk.iteOmega]; try go_simp)); (try go_bits); (with_reducible refine hK _ _ ?_); clear hK K))
            (refine Mix.step1 fun K hK => ?_; go_simp; refine ⟨fun W => ?_, hK _ _ ?_⟩; (intro hW1; (try intro hW2); (try intro hW3); (try intro hW4); (try intro hW5); (try intro hW6); (try intro hW7); (try intro hW8); go_simp); clear hK K)
            (refine Mix.step1 fun K hK => ?_; go_simp; (try (go_bits; try go_simp)); first | ((with_reducible refine hK _ _ ?_); clear hK K) | ((try (simp only [IntWalk.iteOmega]; try go_simp)); (try go_bits); (with_reducible refine hK _ _ ?_); clear hK K))
            (refine Mix.step1 fun K hK => ?_; go_simp; (try (go_bits; try go_simp)); first | ((with_reducible refine hK _ _ ?_); clear hK K) | ((try (simp only [IntWalk.iteOmega]; try go_simp)); (try go_bits); (with_reducible refine hK _ _ ?_); clear hK K))
            iterate 4 (refine Mix.step0 fun K hK => ?_; go_simp; (try (go_bits; try go_simp)); first | ((with_reducible refine hK _ _ ?_); clear hK K) | ((try (simp only [IntWalk.iteOmega]; try go_simp)); (try go_bits); (with_reducible refine hK _ _ ?_); clear hK K))
            refine Mix.step2n (by first | rfl | simp [Region.wanted, yielded]) fun K hK => ?_
            go_wp2_with fail
            refine (full_any x _).mono ?_
            rintro en1 w1 ⟨fa, fn, rfl, hf⟩
            replace hs := hs.join hf
            simp only [List.cons_append, List.nil_append] at hs
            clear hf
            have hCW : (fun W : World => W.cell? ⟨b1, o1 + i, none⟩ = some (.int .u8 x)) w1 := by exact (hs.cell hb1).trans hc1
            go_wp2_with fail
            refine Mix.post_mk (C := (fun W : World => W.cell? ⟨b1, o1 + i, none⟩ = some (.int .u8 x))) (by first | exact hCW | exact HCW.out _) (hK _ _ ?_)
            clear hK K
            refine Mix.step2n (by first | rfl | simp [Region.wanted, yielded]) fun K hK => ?_
            go_wp2_with fail
            have HNX := Lib.hid ((HI.out).write ⟨hm0, hm1⟩ (filled_len x x)).2
            have HFE := Lib.hid ((HI.out).write ⟨hm0, hm1⟩ (filled_len x x)).1
            refine (write_any hs (i := 1) rfl (HI.out).good (x % 3) (j := 0) (by decide) rfl (by rw [filled_len]; omega) ((HI.out).big.le (by omega))).mono ?_
            rintro en2 w2 ⟨rfl, hs2⟩
            rw [HFE.out, if_neg h1]
            clear hs HI
            have hs := hs2.tail
            clear hs2
            (try simp only [List.set_cons_succ, List.set_cons_zero, List.tail_cons] at hs)
            have hCW : (fun W : World => W.cell? ⟨b1, o1 + i, none⟩ = some (.int .u8 x)) w2 := by exact (hs.cell hb1).trans hc1
            go_wp2_with fail
            refine Mix.post_mk (C := (fun W : World => W.cell? ⟨b1, o1 + i, none⟩ = some (.int .u8 x))) (by first | exact hCW | exact HCW.out _) (hK _ _ ?_)
            clear hK K
            iterate 1 (refine Mix.step0 fun K hK => ?_; go_simp; (try (go_bits; try go_simp)); first | ((with_reducible refine hK _ _ ?_); clear hK K) | ((try (simp only [IntWalk.iteOmega]; try go_simp)); (try go_bits); (with_reducible refine hK _ _ ?_); clear hK K))
            refine Mix.done ?_
            go_wp2_with fail
            refine Round.intro (zs.length - (i + 1)) ?measure5 (by kernel_rfl) (hJ1 _ _ _ ?rel5)
            case' rel5 => (try dsimp only [nthV])
            case measure5 => omega
            case rel5 => exact ⟨i + 1, _, by go_num, hlt, rfl, HNX.out, hs⟩
        · go_wp2_with fail
          refine (read_any hs (i := 0) rfl (HI.out).good 0).mono ?_
          rintro en w2 ⟨r, rfl, hs2⟩
          rw [(HI.out).read, if_neg h2]
          clear hs
          have hs := hs2.tail
          clear hs2
          (try simp only [List.tail_cons] at hs)
          go_wp2_with fail
          refine (power_any hs (i := 0) rfl).mono ?_
          rintro en w2 ⟨rfl, rfl⟩
          rw [(HI.out).off, decide_eq_true (show N < i by omega)]
          have cx := (hs.cell hb1).trans hc1
          by_cases h4 : x % 4 = 0
          · go_wp2_with fail
            have HNX := Lib.hid ((HI.out).flush).2
            have HFE := Lib.hid ((HI.out).flush).1
            refine (flush_any hs (i := 0) rfl (HI.out).good).mono ?_
            rintro en2 w2 ⟨rfl, hs2⟩
            rw [HFE.out, if_neg h1]
            clear hs HI
            have hs := hs2
            clear hs2
            simp only [List.set_cons_zero] at hs
            go_wp2_with fail
            refine Round.intro (zs.length - (i + 1)) ?measure6 (by kernel_rfl) (hJ1 _ _ _ ?rel6)
            case' rel6 => (try dsimp only [nthV])
            case measure6 => omega
            case rel6 => exact ⟨i + 1, _, by go_num, hlt, rfl, HNX.out, hs⟩
          · go_wp2_with fail
            have hCW : (fun W : World => W.cell? ⟨b1, o1 + i, none⟩ = some (.int .u8 x)) w2.drew := by exact ((hs.drew).cell hb1).trans hc1
            have hm0 : 0 ≤ x % 3 := by omega
            have hm1 : x % 3 < 3 := by omega
            replace hs := hs.drew
            refine Mix.region [1, 1, 1, 1, 1, 1, 1, 0, 0, 0, 0, 2, 2, 0] (fun W : World => W.cell? ⟨b1, o1 + i, none⟩ = some (.int .u8 x)) (by kernel_rfl) (by kernel_rfl) hCW ?_
            simp only [List.zip_cons_cons, List.zip_nil_right]
            (refine Mix.step1 fun K hK => ?_; go_simp; (try (go_bits; try go_simp)); first | ((with_reducible refine hK _ _ ?_); clear hK K) | ((try (simp only [IntWalk.iteOmega]; try go_simp)); (try go_bits); (with_reducible refine hK _ _ ?_); clear hK K))
            (refine Mix.step1 fun K hK => ?_; go_simp; (try (go_bits; try go_simp)); first | ((with_reducible refine hK _ _ ?_); clear hK K) | ((try (simp only [IntWalk.iteOmega]; try go_simp)); (try go_bits); (with_reducible refine hK _ _ ?_); clear hK K))
            (refine Mix.step1 fun K hK => ?_; go_simp; (try (go_bits; try go_simp)); first | ((with_reducible refine hK _ _ ?_); clear hK K) | ((try (simp only [IntWalk.iteOmega]; try go_simp)); (try go_bits); (with_reducible refine hK _ _ ?_); clear hK K))
            (refine Mix.step1 fun K hK => ?_; go_simp; (try (go_bits; try go_simp)); first | ((with_reducible refine hK _ _ ?_); clear hK K) | ((try (simp only [IntWalk.iteOmega]; try go_simp)); (try go_bits); (with_reducible refine hK _ _ ?_); clear hK K))
            (refine Mix.step1 fun K hK => ?_; go_simp; refine ⟨fun W => ?_, hK _ _ ?_⟩; (intro hW1; (try intro hW2); (try intro hW3); (try intro hW4); (try intro hW5); (try intro hW6); (try intro hW7); (try intro hW8); go_simp); clear hK K)
            (refine Mix.step1 fun K hK => ?_; go_simp; (try (go_bits; try go_simp)); first | ((with_reducible refine hK _ _ ?_); clear hK K) | ((try (simp only [IntWalk.iteOmega]; try go_simp)); (try go_bits); (with_reducible refine hK _ _ ?_); clear hK K))
            (refine Mix.step1 fun K hK => ?_; go_simp; (try (go_bits; try go_simp)); first | ((with_reducible refine hK _ _ ?_); clear hK K) | ((try (simp only [IntWalk.iteOmega]; try go_simp)); (try go_bits); (with_reducible refine hK _ _ ?_); clear hK K))
            iterate 4 (refine Mix.step0 fun K hK => ?_; go_simp; (try (go_bits; try go_simp)); first | ((with_reducible refine hK _ _ ?_); clear hK K) | ((try (simp only [IntWalk.iteOmega]; try go_simp)); (try go_bits); (with_reducible refine hK _ _ ?_); clear hK K))
            refine Mix.step2n (by first | rfl | simp [Region.wanted, yielded]) fun K hK => ?_
            go_wp2_with fail
            refine (full_any x _).mono ?_
            rintro en1 w1 ⟨fa, fn, rfl, hf⟩
            replace hs := hs.join hf
            simp only [List.cons_append, List.nil_append] at hs
            clear hf
            have hCW : (fun W : World => W.cell? ⟨b1, o1 + i, none⟩ = some (.int .u8 x)) w1 := by exact (hs.cell hb1).trans hc1
            go_wp2_with fail
            refine Mix.post_mk (C := (fun W : World => W.cell? ⟨b1, o1 + i, none⟩ = some (.int .u8 x))) (by first | exact hCW | exact HCW.out _) (hK _ _ ?_)
            clear hK K
            refine Mix.step2n (by first | rfl | simp [Region.wanted, yielded]) fun K hK => ?_
            go_wp2_with fail
            have HNX := Lib.hid ((HI.out).write ⟨hm0, hm1⟩ (filled_len x x)).2
            have HFE := Lib.hid ((HI.out).write ⟨hm0, hm1⟩ (filled_len x x)).1
            refine (write_any hs (i := 1) rfl (HI.out).good (x % 3) (j := 0) (by decide) rfl (by rw [filled_len]; omega) ((HI.out).big.le (by omega))).mono ?_
            rintro en2 w2 ⟨rfl, hs2⟩
            rw [HFE.out, if_neg h1]
            clear hs HI
            have hs := hs2.tail
            clear hs2
            (try simp only [List.set_cons_succ, List.set_cons_zero, List.tail_cons] at hs)
            have hCW : (fun W : World => W.cell? ⟨b1, o1 + i, none⟩ = some (.int .u8 x)) w2 := by exact (hs.cell hb1).trans hc1
            go_wp2_with fail
            refine Mix.post_mk (C := (fun W : World => W.cell? ⟨b1, o1 + i, none⟩ = some (.int .u8 x))) (by first | exact hCW | exact HCW.out _) (hK _ _ ?_)
            clear hK K
            iterate 1 (refine Mix.step0 fun K hK => ?_; go_simp; (try (go_bits; try go_simp)); first | ((with_reducible refine hK _ _ ?_); clear hK K) | ((try (simp only [IntWalk.iteOmega]; try go_simp)); (try go_bits); (with_reducible refine hK _ _ ?_); clear hK K))
            refine Mix.done ?_
            go_wp2_with fail
            refine Round.intro (zs.length - (i + 1)) ?measure7 (by kernel_rfl) (hJ1 _ _ _ ?rel7)
            case' rel7 => (try dsimp only [nthV])
            case measure7 => omega
            case rel7 => exact ⟨i + 1, _, by go_num, hlt, rfl, HNX.out, hs⟩
    · go_wp2_with fail
      refine (works_any _).mono ?_
      rintro en w2 ⟨rfl, hb1⟩
      replace hs := hs.belowStep hb1
      clear hb1
      go_wp2_with fail
      go_ret
      exact ⟨rfl, hs.below⟩
theorem u8_wf {z : Int} (h : (Lit.int .u8 z).wf = true) : 0 ≤ z ∧ z ≤ 255 := by
  simp [Lit.wf, IntKind.min, IntKind.max, IntKind.signed, IntKind.bits] at h
  omega
end Go.Proofs.Ytpjbafpbgacnkaa
