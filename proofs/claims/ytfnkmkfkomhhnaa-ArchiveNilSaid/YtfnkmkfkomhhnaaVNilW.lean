/-
  ArchiveNil, walked.
-/
import Derived.Test.YtfnkmkfkomhhnaaVW7
namespace Go.Proofs.Ytfnkmkfkomhhnaa
open Go Go.RowKit Go.Mem Go.NetP Go.CertP Go.ArchP

set_option maxHeartbeats 2000000 in
theorem archiveNil_any (q : Int) (w : World) (_ : (Lit.int .u64 q).wf = true) : Calls Try.prog 4 #[.int .u64 q] w fun en w' => en = .returned (.bool true) ∧ Below w.heap.size w w' := by
  go_enter Try.func4, Try.ntmps4
  go_wp2_with fail
  refine (bare_any _).mono ?_
  rintro en w1 ⟨g, rfl, hs⟩
  go_wp2_with fail
  refine (add_nil _ _).mono ?_
  rintro en w2 ⟨rfl, hb⟩
  replace hs := hs.belowStep hb
  clear hb
  go_wp2_with fail
  refine (get_nil q _).mono ?_
  rintro en w3 ⟨rfl, hb⟩
  replace hs := hs.belowStep hb
  clear hb
  dsimp only [zeroV]
  go_wp2_with fail
  replace hs := hs.alloc (.cells #[.int .u64 0, .int .i64 0, .bool false, .slice none 0 0, .int .i64 0, .slice none 0 0, .slice none 0 0, .slice none 0 0] 39)
  refine (list_nil _).mono ?_
  rintro en w4 ⟨rfl, rfl⟩
  go_wp2_with fail
  refine (no_nil _).mono ?_
  rintro en w5 ⟨rfl, rfl⟩
  go_wp2_with fail
  refine (works_any _).mono ?_
  rintro en w6 ⟨rfl, hb⟩
  replace hs := hs.belowStep hb
  clear hb
  go_wp2_with fail
  go_ret
  exact ⟨rfl, hs.below⟩
end Go.Proofs.Ytfnkmkfkomhhnaa
