/-
  Package money, walked.
-/
import Derived.Test.YthcmkljdhhepgaaRows
import Derived.Test.YthcmkljdhhepgaaLB
import Derived.Test.YthcmkljdhhepgaaLA
import Derived.Test.YthcmkljdhhepgaaMPlain
import Derived.WalkSpells
import Derived.WalkLawsBesides
set_option linter.unusedVariables false
set_option linter.unusedSimpArgs false
namespace Go.Proofs.Ythcmkljdhhepgaa
open Go Go.RowKit Go.Mem Go.MoneyP

theorem ret_bool {a b : Bool} (h : a = b) : Ending.returned (.bool a) = .returned (.bool b) := by rw [h]
theorem Try.infoI64m : (Try.prog.info? 2).map (fun i => (i.zero, i.size, i.bytes)) = some (some (.int .i64 0), 1, 8) := by kernel_rfl

set_option maxHeartbeats 400000 in
theorem may_any (x : Int) (w : World) : Calls Try.prog 47 #[.int .i64 x] w fun e w' => e = .returned (.bool (mayB x)) ∧ w = w' := by
  by_cases h0 : 0 ≤ x
  · by_cases h1 : x ≤ 4503599627370496
    · have H := Lib.hid ((mayB_iff x).2 ⟨h0, h1⟩)
      go_enter Try.func47, Try.ntmps47
      go_wp2
      go_ret
      exact ⟨by rw [H.out]; rfl, rfl⟩
    · have H := Lib.hid ((mayB_no x).2 (.inr (by omega)))
      go_enter Try.func47, Try.ntmps47
      go_wp2
      go_ret
      exact ⟨by rw [H.out]; rfl, rfl⟩
  · have H := Lib.hid ((mayB_no x).2 (.inl (by omega)))
    go_enter Try.func47, Try.ntmps47
    go_wp2
    go_ret
    exact ⟨by rw [H.out]; rfl, rfl⟩

set_option maxHeartbeats 400000 in
theorem mright_any (v : Value) (zs : List Int) (w : World) (h : Rd .i64 w v zs) : Calls Try.prog 48 #[v] w fun e w' => e = .returned (.bool (mays zs)) ∧ w = w' := by
  have hle := h.le'
  obtain ⟨a, cap, rfl⟩ := h.shape
  go_enter Try.func48, Try.ntmps48
  go_wp2_with fail
  refine wp_loopM [none, none, some 2, none, some 4, none, none, some 7, some 8, some 9, some 10, some 11, some 12, some 13, some 14] (fun (n : Nat) (f : Nat → Value) (wr : World) => (fun (v : Value) => ∃ i : Nat, v = .int .i64 i ∧ i ≤ zs.length ∧ n = zs.length - i ∧ mays (zs.take i) = true ∧ w = wr) (f 7)) (zs.length) (by kernel_rfl) ?atStart1 ?round1
  case' atStart1 => (try dsimp only [nthV])
  case' round1 =>
    intro gk f wr l hl hrel J1 K1 hJ1 hK1
    (try simp only [mask] at hl)
    generalize f 7 = u7 at hl hrel
    subst hl
    (try dsimp only at hrel)
  case atStart1 => exact ⟨0, rfl, Nat.zero_le _, rfl, rfl, rfl⟩
  case round1 =>
    obtain ⟨i, rfl, hi, rfl, hm, rfl⟩ := hrel
    have HM := Lib.hid hm
    clear hm
    by_cases hlt : i < zs.length
    · obtain ⟨b, off, rfl, hb, hc⟩ := h.at i hlt
      obtain ⟨x, hx⟩ : ∃ x, x = zs.getD i 0 := ⟨_, rfl⟩
      rw [← hx] at hc
      have HX := Lib.hid hx
      clear hx
      go_wp2_with fail
      refine (may_any _ _).mono ?_
      rintro e w1 ⟨rfl, rfl⟩
      cases hb1 : mayB x
      · have HB := Lib.hid hb1
        clear hb1
        go_wp2_with fail
        go_ret
        exact ⟨by rw [mays_stop hlt (by rw [← HX.out]; exact HB.out)]; rfl, rfl⟩
      · have HB := Lib.hid hb1
        clear hb1
        go_wp2_with fail
        refine Round.intro (zs.length - (i + 1)) ?measure2 (by kernel_rfl) (hJ1 _ _ _ ?rel2)
        case' rel2 => (try dsimp only [nthV])
        case measure2 => omega
        case rel2 => exact ⟨i + 1, by go_num, hlt, rfl, mays_step hlt HM.out (by rw [← HX.out]; exact HB.out), rfl⟩
    · go_wp2_with fail
      go_ret
      exact ⟨by rw [mays_full (by omega) HM.out]; rfl, rfl⟩
end Go.Proofs.Ythcmkljdhhepgaa
namespace Go.Proofs.Ythcmkljdhhepgaa
open Go Go.RowKit Go.Mem Go.MoneyP

set_option maxHeartbeats 800000 in
theorem sum_any (v : Value) (zs : List Int) (w : World) (h : Rd .i64 w v zs) : Calls Try.prog 27 #[v] w fun e w' => e = .returned (.tuple #[.int .i64 (sumV zs), .int .i64 (sumE zs)]) ∧ w = w' := by
  have hle := h.le'
  obtain ⟨a, cap, rfl⟩ := h.shape
  cases hm : mays zs
  · have H := Lib.hid (sum_bad hm)
    go_enter Try.func27, Try.ntmps27
    go_wp2_with fail
    refine (mright_any _ _ _ h).mono ?_
    rintro e w1 ⟨rfl, rfl⟩
    rw [hm]
    clear hm
    go_wp2_with fail
    go_ret2
    exact ⟨by rw [H.out.1, H.out.2]; rfl, rfl⟩
  · go_enter Try.func27, Try.ntmps27
    go_wp2_with fail
    refine (mright_any _ _ _ h).mono ?_
    rintro e w1 ⟨rfl, rfl⟩
    rw [hm]
    have HM := Lib.hid hm
    clear hm
    go_wp2_with fail
    refine wp_loopM [none, none, some 2, some 3, some 4, none, some 6, none, none, none, none, none, some 12, some 13, some 14, some 15, some 16, some 17, some 18, some 19, some 20, some 21, some 22, none] (fun (n : Nat) (f : Nat → Value) (wr : World) => (fun (v s : Value) => ∃ i : Nat, v = .int .i64 i ∧ s = .int .i64 (zs.take i).sum ∧ i ≤ zs.length ∧ n = zs.length - i ∧ 0 ≤ (zs.take i).sum ∧ (zs.take i).sum ≤ 4503599627370496 ∧ w = wr) (f 12) (f 4)) (zs.length) (by kernel_rfl) ?atStart3 ?round3
    case' atStart3 => (try dsimp only [nthV])
    case' round3 =>
      intro gk f wr l hl hrel J1 K1 hJ1 hK1
      (try simp only [mask] at hl)
      generalize f 12 = u12 at hl hrel
      generalize f 4 = u4 at hl hrel
      subst hl
      (try dsimp only at hrel)
    case atStart3 => exact ⟨0, rfl, rfl, Nat.zero_le _, rfl, by simp, by simp, rfl⟩
    case round3 =>
      obtain ⟨i, rfl, rfl, hi, rfl, h0, h1, rfl⟩ := hrel
      by_cases hlt : i < zs.length
      · obtain ⟨b, off, rfl, hb, hc⟩ := h.at i hlt
        have hx := mays_at HM.out hlt
        have HS := Lib.hid (sum_step hlt)
        generalize zs.getD i 0 = x at *
        obtain ⟨hx0, hx1⟩ := hx
        generalize (zs.take i).sum = s at *
        go_wp2_with fail
        refine (may_any _ _).mono ?_
        rintro e w1 ⟨rfl, rfl⟩
        cases hb1 : mayB (s + x)
        · have H := Lib.hid (sum_over HM.out (i + 1) (by rw [HS.out]; have := (mayB_no _).1 hb1; omega))
          clear hb1
          go_wp2_with fail
          go_ret2
          exact ⟨by rw [H.out.1, H.out.2]; rfl, rfl⟩
        · have h2 := (mayB_iff _).1 hb1
          have H2 := Lib.hid h2
          clear hb1 h2
          go_wp2_with fail
          refine Round.intro (zs.length - (i + 1)) ?measure4 (by kernel_rfl) (hJ1 _ _ _ ?rel4)
          case' rel4 => (try dsimp only [nthV])
          case measure4 => omega
          case rel4 => exact ⟨i + 1, by go_num, by rw [HS.out], hlt, rfl, by rw [HS.out]; exact H2.out.1, by rw [HS.out]; exact H2.out.2, rfl⟩
      · have he : i = zs.length := by omega
        have H := Lib.hid (sum_ok HM.out (by rw [he, List.take_length] at h1; exact h1))
        have HE := Lib.hid he
        clear he
        go_wp2_with fail
        go_ret2
        exact ⟨by rw [H.out.1, H.out.2, HE.out, List.take_length]; rfl, rfl⟩

theorem even_stop {zs : List Int} {i : Nat} (hi : i < zs.length) (h : nearB (zs.getD i 0) = false) : evenB zs = false := by simp [evenB, nears_stop hi h]
theorem even_end {zs : List Int} (hn : nears zs = true) (a b : Int) (h : a * 4503599627370496 + b = zs.sum) (hb : -4503599627370496 < b ∧ b < 4503599627370496) : evenB zs = ((a == 0) && (b == 0)) := by
  simp only [evenB, hn, Bool.true_and]
  rw [Bool.eq_iff_iff, decide_eq_true_iff, Bool.and_eq_true, beq_iff_eq, beq_iff_eq]
  omega
theorem tdm (t : Int) (h : -9007199254740992 < t ∧ t < 9007199254740992) : -1 ≤ t.tdiv 4503599627370496 ∧ t.tdiv 4503599627370496 ≤ 1 ∧ -4503599627370496 < t.tmod 4503599627370496 ∧ t.tmod 4503599627370496 < 4503599627370496 ∧
    t.tdiv 4503599627370496 * 4503599627370496 + t.tmod 4503599627370496 = t := by
  have h1 := Int.mul_tdiv_add_tmod t 4503599627370496
  rcases Int.le_total 0 t with h0 | h0
  · have h2 := Int.tmod_nonneg 4503599627370496 h0
    have h3 := Int.tmod_lt_of_pos t (show (0 : Int) < 4503599627370496 by decide)
    omega
  · have h2 : (-t).tmod 4503599627370496 = -(t.tmod 4503599627370496) := Int.neg_tmod ..
    have h3 := Int.tmod_nonneg 4503599627370496 (show 0 ≤ -t by omega)
    have h4 := Int.tmod_lt_of_pos (-t) (show (0 : Int) < 4503599627370496 by decide)
    omega

end Go.Proofs.Ythcmkljdhhepgaa
namespace Go.Proofs.Ythcmkljdhhepgaa
open Go Go.RowKit Go.Mem Go.MoneyP

theorem nn {a b : Nat} (h : a = b) : ((a : Int) != (b : Int)) = false := by rw [h]; simp
theorem nn' {a b : Nat} (h : a ≠ b) : ((a : Int) != (b : Int)) = true := by rw [bne_iff_ne]; omega
theorem nb {a b : Nat} (h : a ≠ b) : ((a : Int) == (b : Int)) = false := by rw [beq_eq_false_iff_ne]; omega
theorem snoc_take {m : List Int} {i : Nat} (h : i < m.length) : m.take i ++ [m.getD i 0] = m.take (i + 1) := (take_snoc h).symm

end Go.Proofs.Ythcmkljdhhepgaa
