/-
  Package rest: push, Push; slices.Clone of integers, walked.
-/
import Derived.Test.YtfnkmkfkomhhnaaRW1
import Derived.WalkSpells
namespace Go.Proofs.Ytfnkmkfkomhhnaa
open Go Go.RowKit Go.Mem Go.NetP Go.RestP

theorem Try.infoI64r : (Try.prog.info? 2).map (fun i => (i.zero, i.size, i.bytes)) = some (some (.int .i64 0), 1, 8) := by kernel_rfl

set_option maxHeartbeats 1000000 in
theorem clone_any (v : Value) (fl : List Int) (w : World) (h : Rd .i64 w v fl) (hsm : fl.length ≤ 1000000) :
    Calls Try.prog 33 #[v] w fun en w' => ∃ u, en = .returned u ∧ Sep w w' [intsT .i64 2 u fl] := by
  obtain ⟨i0, hi0, hz0, hz1, hz2⟩ := info_parts Try.infoI64r
  obtain ⟨a, c, rfl⟩ := h.shape
  match a with
  | none =>
    have hf : fl = [] := by
      rcases Nat.eq_zero_or_pos fl.length with h0 | h0
      · exact List.eq_nil_of_length_eq_zero h0
      · obtain ⟨b, o, e, _⟩ := h.at 0 h0; cases e
    subst hf
    have hc : c = 0 := by
      obtain ⟨a', c', e, _, hn, _⟩ := h
      injection e with e1 e2 e3
      rw [e3]; exact hn e1.symm
    subst hc
    have hs := (Sep.start w).nilInts .i64 2
    have hnil := fun (W : World) => Lib.run_eql_slice_nil (P := Try.prog) W 35 2 none 0 0 0 0 Try.underlying35
    go_enter Try.func33, Try.ntmps33
    go_wp2_with fail
    go_ret
    exact ⟨_, rfl, hs⟩
  | some a =>
    have hs2 := (Sep.start w).litInts .i64 2 [] (by simp [maxLen])
    simp only [List.map_cons, List.map_nil, List.length_cons, List.length_nil, Nat.reduceAdd, World.size_alloc] at hs2
    have hnil := fun (W : World) => Lib.run_eql_slice_nil (P := Try.prog) W 35 2 (some a) fl.length c 0 0 Try.underlying35
    go_enter Try.func33, Try.ntmps33
    go_wp2_with (at_builtin; refine wpList_appRd rfl (.tmp 5) (.tmp 6) 35 rfl 2 i0 _ 8 Try.underlying35 hi0 hz0 hz1 hz2 rfl _ [] .i64 _ fl hs2 0 rfl (hs2.rd h) rfl rfl ?c3 ?c4 ?grow)
    case c3 => (try simp); (try simp only [maxLen]); (try omega)
    case c4 => (try simp); (try simp only [maxLen]); (try omega)
    case grow =>
      intro vo w4 hs3
      go_wp2_with fail
      go_ret
      exact ⟨_, rfl, by simpa using hs3⟩

end Go.Proofs.Ytfnkmkfkomhhnaa
