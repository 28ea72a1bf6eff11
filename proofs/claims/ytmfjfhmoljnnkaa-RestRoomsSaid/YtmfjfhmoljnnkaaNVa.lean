/-
  The reference's nets (gabletref11), walked: Vast.
-/
import Derived.Test.YtmfjfhmoljnnkaaNRef2W
namespace Go.Proofs.Ytmfjfhmoljnnkaa
open Go Go.RowKit Go.Mem Go.NetP

set_option maxHeartbeats 400000 in
theorem vast_any (n : Int) (a : Option Addr) (c : Nat) (es : List Ed) (a' : Option Addr) (l c' : Nat) (w : World) (_ : es.length ≤ 9223372036854775807) :
    Calls Try.prog 9 #[.agg #[.int .i64 n, .slice a es.length c], .slice a' l c'] w fun en w' => en = .returned (.bool (decide (2000 < es.length) || decide (2000 < l))) ∧ Below w.heap.size w w' := by
  have hs0 := (Sep.start w).newCells #[.int .i64 n, .slice a es.length c] 24
  by_cases h1 : 2000 < es.length
  · have H := Lib.hid (show (decide (2000 < es.length) || decide (2000 < l)) = true by simp [h1])
    have d1 : decide (2000 < (es.length : Int)) = true := by simp; omega
    go_enter Try.func9, Try.ntmps9
    go_wp2_with fail
    go_ret
    exact ⟨by rw [H.out]; rfl, hs0.below⟩
  · have d1 : decide (2000 < (es.length : Int)) = false := by simp; omega
    by_cases h2 : 2000 < l
    · have H := Lib.hid (show (decide (2000 < es.length) || decide (2000 < l)) = true by simp [h2])
      have d2 : decide (2000 < (l : Int)) = true := by simp; omega
      go_enter Try.func9, Try.ntmps9
      go_wp2_with fail
      go_ret
      exact ⟨by rw [H.out]; rfl, hs0.below⟩
    · have H := Lib.hid (show (decide (2000 < es.length) || decide (2000 < l)) = false by simp; omega)
      have d2 : decide (2000 < (l : Int)) = false := by simp; omega
      go_enter Try.func9, Try.ntmps9
      go_wp2_with fail
      go_ret
      exact ⟨by rw [H.out]; rfl, hs0.below⟩
end Go.Proofs.Ytmfjfhmoljnnkaa
