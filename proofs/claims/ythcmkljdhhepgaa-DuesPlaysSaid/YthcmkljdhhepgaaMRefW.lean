/-
  The reference's money (gabletref16), walked.
-/
import Derived.Test.YthcmkljdhhepgaaMA
set_option linter.unusedVariables false
set_option linter.unusedSimpArgs false
namespace Go.Proofs.Ythcmkljdhhepgaa
open Go Go.RowKit Go.Mem Go.MoneyP

set_option maxHeartbeats 400000 in
theorem rmay_any (x : Int) (w : World) : Calls Try.prog 53 #[.int .i64 x] w fun e w' => e = .returned (.bool (mayB x)) ∧ w = w' := by
  by_cases h0 : 0 ≤ x
  · by_cases h1 : x ≤ 4503599627370496
    · have H := Lib.hid ((mayB_iff x).2 ⟨h0, h1⟩)
      go_enter Try.func53, Try.ntmps53
      go_wp2
      go_ret
      exact ⟨by rw [H.out]; rfl, rfl⟩
    · have H := Lib.hid ((mayB_no x).2 (.inr (by omega)))
      go_enter Try.func53, Try.ntmps53
      go_wp2
      go_ret
      exact ⟨by rw [H.out]; rfl, rfl⟩
  · have H := Lib.hid ((mayB_no x).2 (.inl (by omega)))
    go_enter Try.func53, Try.ntmps53
    go_wp2
    go_ret
    exact ⟨by rw [H.out]; rfl, rfl⟩

set_option maxHeartbeats 800000 in
theorem rsum_any (v : Value) (zs : List Int) (w : World) (h : Rd .i64 w v zs) : Calls Try.prog 36 #[v] w fun e w' => e = .returned (.tuple #[.int .i64 (sumV zs), .int .i64 (sumE zs)]) ∧ w = w' := by
  have hle := h.le'
  obtain ⟨a, cap, rfl⟩ := h.shape
  go_enter Try.func36, Try.ntmps36
  go_wp2_with fail
  refine wp_loopM [none, none, some 2, some 3, some 4, none, none, some 7, some 8, some 9, some 10, some 11, some 12, some 13, some 14, some 15, some 16, some 17, some 18, none, none, none, none, none, none, none, none, none, none, none, none, none, none, none] (fun (n : Nat) (f : Nat → Value) (wr : World) => (fun (v : Value) => ∃ i : Nat, v = .int .i64 i ∧ i ≤ zs.length ∧ n = zs.length - i ∧ mays (zs.take i) = true ∧ w = wr) (f 4)) (zs.length) (by kernel_rfl) ?atStart1 ?round1
  case' atStart1 => (try dsimp only [nthV])
  case' round1 =>
    intro gk f wr l hl hrel J1 K1 hJ1 hK1
    (try simp only [mask] at hl)
    generalize f 4 = u4 at hl hrel
    subst hl
    (try dsimp only at hrel)
  case atStart1 => exact ⟨0, rfl, Nat.zero_le _, rfl, rfl, rfl⟩
  case round1 =>
    obtain ⟨i, rfl, hi, rfl, hm, rfl⟩ := hrel
    have HM := Lib.hid hm
    clear hm
    by_cases hlt : i < zs.length
    · obtain ⟨b, off, rfl, hb, hc⟩ := h.at i hlt
      obtain ⟨x, hx⟩ : ∃ x, x = zs.getD i 0 := ⟨_, rfl⟩
      rw [← hx] at hc
      have HX := Lib.hid hx
      clear hx
      go_wp2_with fail
      refine (rmay_any _ _).mono ?_
      rintro e w1 ⟨rfl, rfl⟩
      cases hb1 : mayB x
      · have H := Lib.hid (sum_bad (mays_stop hlt (by rw [← HX.out]; exact hb1)))
        clear hb1
        go_wp2_with fail
        go_ret2
        exact ⟨by rw [H.out.1, H.out.2]; rfl, rfl⟩
      · have HB := Lib.hid hb1
        clear hb1
        go_wp2_with fail
        refine Round.intro (zs.length - (i + 1)) ?measure2 (by kernel_rfl) (hJ1 _ _ _ ?rel2)
        case' rel2 => (try dsimp only [nthV])
        case measure2 => omega
        case rel2 => exact ⟨i + 1, by go_num, hlt, rfl, mays_step hlt HM.out (by rw [← HX.out]; exact HB.out), rfl⟩
    · have HMA := Lib.hid (mays_full (by omega) HM.out)
      clear HM
      go_wp2_with fail
      refine wp_loopM [none, none, some 2, some 3, none, some 5, some 6, none, none, none, none, none, none, none, none, none, none, none, none, some 19, some 20, some 21, some 22, some 23, some 24, some 25, some 26, some 27, some 28, some 29, some 30, some 31, some 32, none] (fun (n : Nat) (f : Nat → Value) (wr : World) => (fun (v s : Value) => ∃ i : Nat, v = .int .i64 i ∧ s = .int .i64 (zs.take i).sum ∧ i ≤ zs.length ∧ n = zs.length - i ∧ 0 ≤ (zs.take i).sum ∧ (zs.take i).sum ≤ 4503599627370496 ∧ w = wr) (f 6) (f 5)) (zs.length) (by kernel_rfl) ?atStart3 ?round3
      case' atStart3 => (try dsimp only [nthV])
      case' round3 =>
        intro gk f wr l hl hrel J2 K2 hJ2 hK2
        (try simp only [mask] at hl)
        generalize f 6 = u6 at hl hrel
        generalize f 5 = u5 at hl hrel
        subst hl
        (try dsimp only at hrel)
      case atStart3 => exact ⟨0, rfl, rfl, Nat.zero_le _, rfl, by simp, by simp, rfl⟩
      case round3 =>
        clear hi hlt
        obtain ⟨i, rfl, rfl, hi, rfl, h0, h1, rfl⟩ := hrel
        by_cases hlt : i < zs.length
        · obtain ⟨b, off, rfl, hb, hc⟩ := h.at i hlt
          have hx := mays_at HMA.out hlt
          have HS := Lib.hid (sum_step hlt)
          generalize zs.getD i 0 = x at *
          obtain ⟨hx0, hx1⟩ := hx
          by_cases hov : 4503599627370496 < (zs.take i).sum + x
          · have H := Lib.hid (sum_over HMA.out (i + 1) (by rw [HS.out]; exact hov))
            generalize (zs.take i).sum = s at *
            go_wp2_with fail
            go_ret2
            exact ⟨by rw [H.out.1, H.out.2]; rfl, rfl⟩
          · generalize (zs.take i).sum = s at *
            go_wp2_with fail
            refine Round.intro (zs.length - (i + 1)) ?measure4 (by kernel_rfl) (hJ2 _ _ _ ?rel4)
            case' rel4 => (try dsimp only [nthV])
            case measure4 => omega
            case rel4 => exact ⟨i + 1, by go_num, by rw [HS.out], hlt, rfl, by rw [HS.out]; omega, by rw [HS.out]; omega, rfl⟩
        · have he : i = zs.length := by omega
          have H := Lib.hid (sum_ok HMA.out (by rw [he, List.take_length] at h1; exact h1))
          have HE := Lib.hid he
          clear he
          go_wp2_with fail
          go_ret2
          exact ⟨by rw [H.out.1, H.out.2, HE.out, List.take_length]; rfl, rfl⟩

theorem level_end {p q s : Int} (h : p - q = s) : (p == q) = decide (s = 0) := by
  rw [Bool.eq_iff_iff, beq_iff_eq, decide_eq_true_iff]; omega

end Go.Proofs.Ythcmkljdhhepgaa
