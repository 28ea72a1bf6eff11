/-
  Package dues: Hold, Release, Cancel, Pay, walked.
-/
import Derived.Test.YthcmkljdhhepgaaUdW1
set_option linter.unusedVariables false
set_option linter.unusedSimpArgs false
namespace Go.Proofs.Ythcmkljdhhepgaa
open Go Go.RowKit Go.Mem Go.MoneyP Go.NetP Go.BuildP Go.DuesP Go.Maps Go.Shelf
attribute [local go_sem] Oper.semAt_some
/-- What a change of one due says and leaves. -/
def TurnD (w0 : World) (L : List Thing) (i b : Nat) (xs : List Du) (nx id : Int) (f : Du → Int × Du) (en : Ending) (w' : World) : Prop :=
  en = .returned (.int .i64 (turnE f xs id)) ∧ Sep w0 w' (L.set i (duesT b (turnS f xs id) nx))
section
variable {w0 w : World} {L : List Thing} {i b : Nat} {xs : List Du} {nx : Int}
theorem held_u (hs : Sep w0 w L) (hi : L[i]? = some (duesT b xs nx)) (hg : GoodS xs nx) (id : Int) (h0 : 0 ≤ id) (h1 : id ≤ 18446744073709551615) (is : Bool) :
    Calls Try.prog 29 #[.pointer (some ⟨b, 0, none⟩), .int .u64 id, .bool is] w fun en w' => TurnD w0 L i b xs nx id (heldF is) en w' := by
  have hs1 := hs.newCells #[.bool is] 4
  have HC := Lib.hid (turn_any hs1 hi hg id h0 h1 49 #[.pointer (some ⟨w.heap.size, 0, none⟩)] (enters_of Try.func49 (by kernel_rfl) rfl) (heldF is) (fine_held is) (fun W M B d _ hM hS => held1_u hS hM))
  clear hs hs1 hi hg
  go_enter Try.func29, Try.ntmps29
  go_wp2_with fail
  refine HC.out.mono ?_
  rintro en w1 ⟨rfl, hs2⟩
  have HS := Lib.hid hs2
  clear hs2
  go_wp2_with fail
  go_ret
  exact ⟨rfl, HS.out⟩
theorem hold_u (hs : Sep w0 w L) (hi : L[i]? = some (duesT b xs nx)) (hg : GoodS xs nx) (id : Int) (h0 : 0 ≤ id) (h1 : id ≤ 18446744073709551615) :
    Calls Try.prog 10 #[.pointer (some ⟨b, 0, none⟩), .int .u64 id] w fun en w' => TurnD w0 L i b xs nx id (heldF true) en w' := by
  have HC := Lib.hid (held_u hs hi hg id h0 h1 true)
  clear hs hi hg
  go_enter Try.func10, Try.ntmps10
  go_wp2_with fail
  refine HC.out.mono ?_
  rintro en w1 ⟨rfl, hs2⟩
  have HS := Lib.hid hs2
  clear hs2
  go_wp2_with fail
  go_ret
  exact ⟨rfl, HS.out⟩
theorem release_u (hs : Sep w0 w L) (hi : L[i]? = some (duesT b xs nx)) (hg : GoodS xs nx) (id : Int) (h0 : 0 ≤ id) (h1 : id ≤ 18446744073709551615) :
    Calls Try.prog 17 #[.pointer (some ⟨b, 0, none⟩), .int .u64 id] w fun en w' => TurnD w0 L i b xs nx id (heldF false) en w' := by
  have HC := Lib.hid (held_u hs hi hg id h0 h1 false)
  clear hs hi hg
  go_enter Try.func17, Try.ntmps17
  go_wp2_with fail
  refine HC.out.mono ?_
  rintro en w1 ⟨rfl, hs2⟩
  have HS := Lib.hid hs2
  clear hs2
  go_wp2_with fail
  go_ret
  exact ⟨rfl, HS.out⟩
theorem cancel_u (hs : Sep w0 w L) (hi : L[i]? = some (duesT b xs nx)) (hg : GoodS xs nx) (id : Int) (h0 : 0 ≤ id) (h1 : id ≤ 18446744073709551615) :
    Calls Try.prog 18 #[.pointer (some ⟨b, 0, none⟩), .int .u64 id] w fun en w' => TurnD w0 L i b xs nx id cancelF en w' := by
  have HC := Lib.hid (turn_any (hs.nilInts .u64 28) hi hg id h0 h1 34 #[] (enters_of Try.func34 (by kernel_rfl) rfl) cancelF fine_cancel (fun W M B d _ hM hS => cancel1_u hS))
  clear hs hi hg
  go_enter Try.func18, Try.ntmps18
  go_wp2_with fail
  refine HC.out.mono ?_
  rintro en w1 ⟨rfl, hs2⟩
  have HS := Lib.hid hs2
  clear hs2
  go_wp2_with fail
  go_ret
  exact ⟨rfl, HS.out⟩
theorem pay_u (hs : Sep w0 w L) (hi : L[i]? = some (duesT b xs nx)) (hg : GoodS xs nx) (id : Int) (h0 : 0 ≤ id) (h1 : id ≤ 18446744073709551615) (y : Int) :
    Calls Try.prog 11 #[.pointer (some ⟨b, 0, none⟩), .int .u64 id, .int .i64 y] w fun en w' => TurnD w0 L i b xs nx id (payF y) en w' := by
  have hs1 := hs.newCells #[.int .i64 y] 2
  have HC := Lib.hid (turn_any hs1 hi hg id h0 h1 31 #[.pointer (some ⟨w.heap.size, 0, none⟩)] (enters_of Try.func31 (by kernel_rfl) rfl) (payF y) (fine_pay y) (fun W M B d hd hM hS => pay1_u hS hM (by have := ((mayD_iff d).1 hd).x0; omega) ((mayD_iff d).1 hd).x1))
  clear hs hs1 hi hg
  go_enter Try.func11, Try.ntmps11
  go_wp2_with fail
  refine HC.out.mono ?_
  rintro en w1 ⟨rfl, hs2⟩
  have HS := Lib.hid hs2
  clear hs2
  go_wp2_with fail
  go_ret
  exact ⟨rfl, HS.out⟩
end
end Go.Proofs.Ythcmkljdhhepgaa
