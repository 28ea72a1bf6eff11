/-
  Package money, walked.
-/
import Derived.Test.YtlbpkfjebaelpaaRows
import Derived.Test.YtlbpkfjebaelpaaMix
import Derived.Test.YtlbpkfjebaelpaaRd
import Derived.Test.YtlbpkfjebaelpaaLoop
import Derived.Test.YtlbpkfjebaelpaaMPlain
import Derived.WalkSpells
import Derived.WalkLawsBesides
namespace Go.Proofs.Ytlbpkfjebaelpaa
open Go Go.RowKit Go.Mem Go.MoneyP

theorem ret_bool {a b : Bool} (h : a = b) : Ending.returned (.bool a) = .returned (.bool b) := by rw [h]
theorem Try.infoI64m : (Try.prog.info? 2).map (fun i => (i.zero, i.size, i.bytes)) = some (some (.int .i64 0), 1, 8) := by kernel_rfl

set_option maxHeartbeats 400000 in
theorem may_any (x : Int) (w : World) : Calls Try.prog 60 #[.int .i64 x] w fun e w' => e = .returned (.bool (mayB x)) ∧ w = w' := by
  by_cases h0 : 0 ≤ x
  · by_cases h1 : x ≤ 4503599627370496
    · have H := Lib.hid ((mayB_iff x).2 ⟨h0, h1⟩)
      go_enter Try.func60, Try.ntmps60
      go_wp2
      go_ret
      exact ⟨by rw [H.out]; rfl, rfl⟩
    · have H := Lib.hid ((mayB_no x).2 (.inr (by omega)))
      go_enter Try.func60, Try.ntmps60
      go_wp2
      go_ret
      exact ⟨by rw [H.out]; rfl, rfl⟩
  · have H := Lib.hid ((mayB_no x).2 (.inl (by omega)))
    go_enter Try.func60, Try.ntmps60
    go_wp2
    go_ret
    exact ⟨by rw [H.out]; rfl, rfl⟩

set_option maxHeartbeats 400000 in
theorem mright_any (v : Value) (zs : List Int) (w : World) (h : Rd .i64 w v zs) : Calls Try.prog 59 #[v] w fun e w' => e = .returned (.bool (mays zs)) ∧ w = w' := by
  have hle := h.le'
  obtain ⟨a, cap, rfl⟩ := h.shape
  go_enter Try.func59, Try.ntmps59
  go_wp2_with fail
  refine wp_loopM [none, none, some 2, none, some 4, none, none, some 7, some 8, some 9, some 10, some 11, some 12, some 13, some 14] (fun (n : Nat) (f : Nat → Value) (wr : World) => (fun (v : Value) => ∃ i : Nat, v = .int .i64 i ∧ i ≤ zs.length ∧ n = zs.length - i ∧ mays (zs.take i) = true ∧ w = wr) (f 7)) (zs.length) (by kernel_rfl) ?atStart1 ?round1
  case' atStart1 => (try dsimp only [nthV])
  case' round1 =>
    intro gk f wr l hl hrel J1 K1 hJ1 hK1
    (try simp only [mask] at hl)
    generalize f 7 = u7 at hl hrel
    subst hl
    (try dsimp only at hrel)
  case atStart1 => exact ⟨0, rfl, Nat.zero_le _, rfl, rfl, rfl⟩
  case round1 =>
    obtain ⟨i, rfl, hi, rfl, hm, rfl⟩ := hrel
    have HM := Lib.hid hm
    clear hm
    by_cases hlt : i < zs.length
    · obtain ⟨b, off, rfl, hb, hc⟩ := h.at i hlt
      obtain ⟨x, hx⟩ : ∃ x, x = zs.getD i 0 := ⟨_, rfl⟩
      rw [← hx] at hc
      have HX := Lib.hid hx
      clear hx
      go_wp2_with fail
      refine (may_any _ _).mono ?_
      rintro e w1 ⟨rfl, rfl⟩
      cases hb1 : mayB x
      · have HB := Lib.hid hb1
        clear hb1
        go_wp2_with fail
        go_ret
        exact ⟨by rw [mays_stop hlt (by rw [← HX.out]; exact HB.out)]; rfl, rfl⟩
      · have HB := Lib.hid hb1
        clear hb1
        go_wp2_with fail
        refine Round.intro (zs.length - (i + 1)) ?measure2 (by kernel_rfl) (hJ1 _ _ _ ?rel2)
        case' rel2 => (try dsimp only [nthV])
        case measure2 => omega
        case rel2 => exact ⟨i + 1, by go_num, hlt, rfl, mays_step hlt HM.out (by rw [← HX.out]; exact HB.out), rfl⟩
    · go_wp2_with fail
      go_ret
      exact ⟨by rw [mays_full (by omega) HM.out]; rfl, rfl⟩
end Go.Proofs.Ytlbpkfjebaelpaa
