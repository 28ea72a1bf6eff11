/-
  DeviceNil, walked.
-/
import Derived.Test.YtpjbafpbgacnkaaDvW8
set_option linter.unusedVariables false
set_option linter.unusedSimpArgs false
namespace Go.Proofs.Ytpjbafpbgacnkaa
open Go Go.RowKit Go.Mem Go.DevP
attribute [local go_sem] Oper.semAt_some
theorem deviceNil_any (k n : Int) {v : Value} {zs : List Int} (W : World) (hv : Rd .u8 W v zs) : Calls Try.prog 6 #[.int .i64 k, .int .i64 n, v] W fun e w' => e = .returned (.bool true) ∧ Below W.heap.size W w' := by
  obtain ⟨a, c, rfl⟩ := hv.shape
  have hle := hv.le'
  obtain ⟨m, hm⟩ : ∃ m, m = zs.length := ⟨_, rfl⟩
  rw [← hm] at hle ⊢
  clear hv hm
  by_cases hb : 2000 < m
  · go_enter Try.func6, Try.ntmps6
    go_wp2_with fail
    refine (works_any _).mono ?_
    rintro en w1 ⟨rfl, hw⟩
    go_wp2_with fail
    go_ret
    exact ⟨rfl, hw⟩
  have hs := Sep.start W
  go_enter Try.func6, Try.ntmps6
  go_wp2_with fail
  refine (read_nil _ _).mono ?_
  rintro en w1 ⟨rfl, rfl⟩
  go_wp2_with fail
  refine (write_nil _ _ _ _ _).mono ?_
  rintro en w1 ⟨rfl, rfl⟩
  go_wp2_with fail
  refine (flush_nil _).mono ?_
  rintro en w2 ⟨rfl, hb1⟩
  replace hs := hs.belowStep hb1
  clear hb1
  go_wp2_with fail
  refine (arm_nil _ _).mono ?_
  rintro en w3 ⟨rfl, rfl⟩
  go_wp2_with fail
  refine (off_nil _).mono ?_
  rintro en w4 ⟨rfl, rfl⟩
  go_wp2_with fail
  replace hs := hs.alloc (.cells #[.int .i64 n] 3)
  refine (comes_nil _ _ _ _).mono ?_
  rintro en w5 ⟨rfl, hb1⟩
  replace hs := hs.belowStep hb1
  clear hb1
  go_wp2_with fail
  refine (size_nil _).mono ?_
  rintro en w6 ⟨rfl, rfl⟩
  go_wp2_with fail
  refine (power_nil _).mono ?_
  rintro en w7 ⟨rfl, rfl⟩
  go_wp2_with fail
  refine (works_any _).mono ?_
  rintro en w8 ⟨rfl, hb1⟩
  replace hs := hs.belowStep hb1
  clear hb1
  go_wp2_with fail
  go_ret
  exact ⟨rfl, hs.below⟩
end Go.Proofs.Ytpjbafpbgacnkaa
