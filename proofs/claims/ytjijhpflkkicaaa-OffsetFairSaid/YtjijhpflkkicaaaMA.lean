/-
  Package money, walked.
-/
import Derived.Test.YtjijhpflkkicaaaRows
import Derived.Test.YtjijhpflkkicaaaLB
import Derived.Test.YtjijhpflkkicaaaLA
import Derived.Test.YtjijhpflkkicaaaMPlain
import Derived.WalkSpells
import Derived.WalkLawsBesides
set_option linter.unusedVariables false
set_option linter.unusedSimpArgs false
namespace Go.Proofs.Ytjijhpflkkicaaa
open Go Go.RowKit Go.Mem Go.MoneyP

theorem ret_bool {a b : Bool} (h : a = b) : Ending.returned (.bool a) = .returned (.bool b) := by rw [h]
set_option maxHeartbeats 400000 in
theorem may_any (x : Int) (w : World) : Calls Try.prog 72 #[.int .i64 x] w fun e w' => e = .returned (.bool (mayB x)) ∧ w = w' := by
  by_cases h0 : 0 ≤ x
  · by_cases h1 : x ≤ 4503599627370496
    · have H := Lib.hid ((mayB_iff x).2 ⟨h0, h1⟩)
      go_enter Try.func72, Try.ntmps72
      go_wp2
      go_ret
      exact ⟨by rw [H.out]; rfl, rfl⟩
    · have H := Lib.hid ((mayB_no x).2 (.inr (by omega)))
      go_enter Try.func72, Try.ntmps72
      go_wp2
      go_ret
      exact ⟨by rw [H.out]; rfl, rfl⟩
  · have H := Lib.hid ((mayB_no x).2 (.inl (by omega)))
    go_enter Try.func72, Try.ntmps72
    go_wp2
    go_ret
    exact ⟨by rw [H.out]; rfl, rfl⟩

set_option maxHeartbeats 400000 in
theorem mright_any (v : Value) (zs : List Int) (w : World) (h : Rd .i64 w v zs) : Calls Try.prog 71 #[v] w fun e w' => e = .returned (.bool (mays zs)) ∧ w = w' := by
  have hle := h.le'
  obtain ⟨a, cap, rfl⟩ := h.shape
  go_enter Try.func71, Try.ntmps71
  go_wp2_with fail
  refine wp_loopM [none, none, some 2, none, some 4, none, none, some 7, some 8, some 9, some 10, some 11, some 12, some 13, some 14] (fun (n : Nat) (f : Nat → Value) (wr : World) => (fun (v : Value) => ∃ i : Nat, v = .int .i64 i ∧ i ≤ zs.length ∧ n = zs.length - i ∧ mays (zs.take i) = true ∧ w = wr) (f 7)) (zs.length) (by kernel_rfl) ?atStart1 ?round1
  case' atStart1 => (try dsimp only [nthV])
  case' round1 =>
    intro gk f wr l hl hrel J1 K1 hJ1 hK1
    (try simp only [mask] at hl)
    generalize f 7 = u7 at hl hrel
    subst hl
    (try dsimp only at hrel)
  case atStart1 => exact ⟨0, rfl, Nat.zero_le _, rfl, rfl, rfl⟩
  case round1 =>
    obtain ⟨i, rfl, hi, rfl, hm, rfl⟩ := hrel
    have HM := Lib.hid hm
    clear hm
    by_cases hlt : i < zs.length
    · obtain ⟨b, off, rfl, hb, hc⟩ := h.at i hlt
      obtain ⟨x, hx⟩ : ∃ x, x = zs.getD i 0 := ⟨_, rfl⟩
      rw [← hx] at hc
      have HX := Lib.hid hx
      clear hx
      go_wp2_with fail
      refine (may_any _ _).mono ?_
      rintro e w1 ⟨rfl, rfl⟩
      cases hb1 : mayB x
      · have HB := Lib.hid hb1
        clear hb1
        go_wp2_with fail
        go_ret
        exact ⟨by rw [mays_stop hlt (by rw [← HX.out]; exact HB.out)]; rfl, rfl⟩
      · have HB := Lib.hid hb1
        clear hb1
        go_wp2_with fail
        refine Round.intro (zs.length - (i + 1)) ?measure2 (by kernel_rfl) (hJ1 _ _ _ ?rel2)
        case' rel2 => (try dsimp only [nthV])
        case measure2 => omega
        case rel2 => exact ⟨i + 1, by go_num, hlt, rfl, mays_step hlt HM.out (by rw [← HX.out]; exact HB.out), rfl⟩
    · go_wp2_with fail
      go_ret
      exact ⟨by rw [mays_full (by omega) HM.out]; rfl, rfl⟩
end Go.Proofs.Ytjijhpflkkicaaa
namespace Go.Proofs.Ytjijhpflkkicaaa
open Go Go.RowKit Go.Mem Go.MoneyP

set_option maxHeartbeats 800000 in
theorem sum_any (v : Value) (zs : List Int) (w : World) (h : Rd .i64 w v zs) : Calls Try.prog 52 #[v] w fun e w' => e = .returned (.tuple #[.int .i64 (sumV zs), .int .i64 (sumE zs)]) ∧ w = w' := by
  have hle := h.le'
  obtain ⟨a, cap, rfl⟩ := h.shape
  cases hm : mays zs
  · have H := Lib.hid (sum_bad hm)
    go_enter Try.func52, Try.ntmps52
    go_wp2_with fail
    refine (mright_any _ _ _ h).mono ?_
    rintro e w1 ⟨rfl, rfl⟩
    rw [hm]
    clear hm
    go_wp2_with fail
    go_ret2
    exact ⟨by rw [H.out.1, H.out.2]; rfl, rfl⟩
  · go_enter Try.func52, Try.ntmps52
    go_wp2_with fail
    refine (mright_any _ _ _ h).mono ?_
    rintro e w1 ⟨rfl, rfl⟩
    rw [hm]
    have HM := Lib.hid hm
    clear hm
    go_wp2_with fail
    refine wp_loopM [none, none, some 2, some 3, some 4, none, some 6, none, none, none, none, none, some 12, some 13, some 14, some 15, some 16, some 17, some 18, some 19, some 20, some 21, some 22, none] (fun (n : Nat) (f : Nat → Value) (wr : World) => (fun (v s : Value) => ∃ i : Nat, v = .int .i64 i ∧ s = .int .i64 (zs.take i).sum ∧ i ≤ zs.length ∧ n = zs.length - i ∧ 0 ≤ (zs.take i).sum ∧ (zs.take i).sum ≤ 4503599627370496 ∧ w = wr) (f 12) (f 4)) (zs.length) (by kernel_rfl) ?atStart3 ?round3
    case' atStart3 => (try dsimp only [nthV])
    case' round3 =>
      intro gk f wr l hl hrel J1 K1 hJ1 hK1
      (try simp only [mask] at hl)
      generalize f 12 = u12 at hl hrel
      generalize f 4 = u4 at hl hrel
      subst hl
      (try dsimp only at hrel)
    case atStart3 => exact ⟨0, rfl, rfl, Nat.zero_le _, rfl, by simp, by simp, rfl⟩
    case round3 =>
      obtain ⟨i, rfl, rfl, hi, rfl, h0, h1, rfl⟩ := hrel
      by_cases hlt : i < zs.length
      · obtain ⟨b, off, rfl, hb, hc⟩ := h.at i hlt
        have hx := mays_at HM.out hlt
        have HS := Lib.hid (sum_step hlt)
        generalize zs.getD i 0 = x at *
        obtain ⟨hx0, hx1⟩ := hx
        generalize (zs.take i).sum = s at *
        go_wp2_with fail
        refine (may_any _ _).mono ?_
        rintro e w1 ⟨rfl, rfl⟩
        cases hb1 : mayB (s + x)
        · have H := Lib.hid (sum_over HM.out (i + 1) (by rw [HS.out]; have := (mayB_no _).1 hb1; omega))
          clear hb1
          go_wp2_with fail
          go_ret2
          exact ⟨by rw [H.out.1, H.out.2]; rfl, rfl⟩
        · have h2 := (mayB_iff _).1 hb1
          have H2 := Lib.hid h2
          clear hb1 h2
          go_wp2_with fail
          refine Round.intro (zs.length - (i + 1)) ?measure4 (by kernel_rfl) (hJ1 _ _ _ ?rel4)
          case' rel4 => (try dsimp only [nthV])
          case measure4 => omega
          case rel4 => exact ⟨i + 1, by go_num, by rw [HS.out], hlt, rfl, by rw [HS.out]; exact H2.out.1, by rw [HS.out]; exact H2.out.2, rfl⟩
      · have he : i = zs.length := by omega
        have H := Lib.hid (sum_ok HM.out (by rw [he, List.take_length] at h1; exact h1))
        have HE := Lib.hid he
        clear he
        go_wp2_with fail
        go_ret2
        exact ⟨by rw [H.out.1, H.out.2, HE.out, List.take_length]; rfl, rfl⟩

end Go.Proofs.Ytjijhpflkkicaaa
namespace Go.Proofs.Ytjijhpflkkicaaa
open Go Go.RowKit Go.Mem Go.MoneyP

theorem nn {a b : Nat} (h : a = b) : ((a : Int) != (b : Int)) = false := by rw [h]; simp
theorem nb {a b : Nat} (h : a ≠ b) : ((a : Int) == (b : Int)) = false := by rw [beq_eq_false_iff_ne]; omega
end Go.Proofs.Ytjijhpflkkicaaa
