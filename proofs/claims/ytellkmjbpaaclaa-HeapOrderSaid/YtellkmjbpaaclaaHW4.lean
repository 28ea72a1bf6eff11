/-
  The walks of package heap, fourth part: of no heap; the anchor.
-/
import Derived.Test.YtellkmjbpaaclaaHW3
namespace Go.Proofs.Ytellkmjbpaaclaa
open Go Go.RowKit Go.Mem Go.HeapP

set_option maxHeartbeats 400000 in
theorem push_nil (k i : Int) (w : World) : Calls Try.prog 10 #[.pointer none, .int .i64 k, .int .i64 i] w fun e w' => e = .returned (.int .i64 2) ∧ w = w' := by
  go_enter Try.func10, Try.ntmps10
  go_wp2
  go_ret
  exact ⟨rfl, rfl⟩
set_option maxHeartbeats 400000 in
theorem peek_nil (w : World) : Calls Try.prog 14 #[.pointer none] w fun e w' => e = .returned (.tuple #[.int .i64 0, .int .i64 0, .int .i64 2]) ∧ w = w' := by
  go_enter Try.func14, Try.ntmps14
  go_wp2
  go_ret3
  exact ⟨rfl, rfl⟩
set_option maxHeartbeats 400000 in
theorem pop_nil (w : World) : Calls Try.prog 12 #[.pointer none] w fun e w' => e = .returned (.tuple #[.int .i64 0, .int .i64 0, .int .i64 2]) ∧ w = w' := by
  go_enter Try.func12, Try.ntmps12
  go_wp2_with fail
  refine (peek_nil _).mono ?_
  rintro e w1 ⟨rfl, rfl⟩
  go_wp2_with fail
  go_ret3
  exact ⟨rfl, rfl⟩
set_option maxHeartbeats 400000 in
theorem len_nil (w : World) : Calls Try.prog 16 #[.pointer none] w fun e w' => e = .returned (.int .i64 0) ∧ w = w' := by
  go_enter Try.func16, Try.ntmps16
  go_wp2
  go_ret
  exact ⟨rfl, rfl⟩

set_option maxHeartbeats 1000000 in
set_option maxRecDepth 100000 in
theorem works_any (w : World) : Calls Try.prog 8 #[] w fun e w' => e = .returned (.bool true) ∧ Below w.heap.size w w' := by
  go_enter Try.func8, Try.ntmps8
  go_wp2_with fail
  refine (new_any _).mono ?_
  rintro e w1 ⟨rfl, h1, hb1⟩
  go_wp2_with fail
  refine (push_any _ _ _ _ _ _ h1 (by simp)).mono ?_
  rintro e w2 ⟨rfl, S2, x2, h2, p2, t2⟩
  go_wp2_with fail
  refine (push_any _ _ _ _ _ _ h2 (by rw [p2.length_eq]; simp)).mono ?_
  rintro e w3 ⟨rfl, S3, x3, h3, p3, t3⟩
  go_wp2_with fail
  refine (push_any _ _ _ _ _ _ h3 (by rw [p3.length_eq, List.length_cons, p2.length_eq]; simp)).mono ?_
  rintro e w4 ⟨rfl, S4, x4, h4, p4, t4⟩
  have q4 : x4.Perm [(3, 2), (3, 9), (5, 1)] := p4.trans ((List.perm_cons _).2 (p3.trans ((List.perm_cons _).2 p2)))
  have l4 := q4.length_eq
  obtain ⟨r4, rfl, q5⟩ := head_of h4.isH q4 (by decide)
  go_wp2_with fail
  refine (pop_any _ _ _ _ h4 (by rw [l4]; decide)).mono ?_
  rintro e w5 ⟨rfl, x5, h5, p5, f5⟩
  have q5' : x5.Perm [(3, 9), (5, 1)] := p5.trans q5
  have l5 := q5'.length_eq
  obtain ⟨r5, rfl, q6⟩ := head_of h5.isH q5' (by decide)
  unfold peekV
  clear q4 l4 p4 q5
  go_wp2_with fail
  refine (pop_any _ _ _ _ h5 (by rw [l5]; decide)).mono ?_
  rintro e w6 ⟨rfl, x6, h6, p6, f6⟩
  have q6' : x6.Perm [(5, 1)] := p6.trans q6
  have l6 := q6'.length_eq
  obtain ⟨r6, rfl, q7⟩ := head_of h6.isH q6' (by decide)
  unfold peekV
  clear q5' l5 p5 q6
  go_wp2_with fail
  refine (pop_any _ _ _ _ h6 (by rw [l6]; decide)).mono ?_
  rintro e w7 ⟨rfl, x7, h7, p7, f7⟩
  obtain rfl : x7 = [] := (p7.trans q7).eq_nil
  unfold peekV
  clear q6' l6 p6 q7
  go_wp2_with fail
  refine (pop_any _ _ _ _ h7 (by decide)).mono ?_
  rintro e w8 ⟨rfl, x8, h8, p8, f8⟩
  unfold peekV
  go_wp2_with fail
  go_ret
  have ht := (((((t2.trans t3).trans t4).trans (.of f5)).trans (.of f6)).trans (.of f7)).trans (.of f8)
  refine ⟨rfl, hb1.trans (ht.fr.toBelow _ ?_ hb1.size)⟩
  intro i hi e
  rw [e] at hi
  exact Nat.lt_irrefl _ hi
end Go.Proofs.Ytellkmjbpaaclaa
