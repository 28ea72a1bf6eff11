/-
  Numbers in new memory, walked.
-/
import Derived.Test.YtmfjfhmoljnnkaaNW2
namespace Go.Proofs.Ytmfjfhmoljnnkaa
open Go Go.RowKit Go.Mem Go.NetP

theorem Try.infoI64c : (Try.prog.info? 2).map (fun i => (i.zero, i.size, i.bytes)) = some (some (.int .i64 0), 1, 8) := by kernel_rfl
theorem copied_any (v : Value) (fl : List Int) (w : World) (h : Rd .i64 w v fl) (hsm : fl.length ≤ 1000000) :
    Calls Try.prog 12 #[v] w fun en w' => ∃ u, en = .returned u ∧ Sep w w' [intsT .i64 2 u fl] := by
  obtain ⟨i0, hi0, hz0, hz1, hz2⟩ := info_parts Try.infoI64c
  obtain ⟨a, c, rfl⟩ := h.shape
  have hs2 := (Sep.start w).litInts .i64 2 [] (by simp [maxLen])
  simp only [List.map_cons, List.map_nil, List.length_cons, List.length_nil, Nat.reduceAdd, World.size_alloc] at hs2
  go_enter Try.func12, Try.ntmps12
  go_wp2_with (at_builtin; refine wpList_appRd rfl (.tmp 3) (.tmp 4) 25 rfl 2 i0 _ 8 Try.underlying25 hi0 hz0 hz1 hz2 rfl _ [] .i64 _ fl hs2 0 rfl (hs2.rd h) rfl rfl ?c3 ?c4 ?grow)
  case c3 => (try simp); (try simp only [maxLen]); (try omega)
  case c4 => (try simp); (try simp only [maxLen]); (try omega)
  case grow =>
    intro vo w4 hs3
    go_wp2_with fail
    go_ret
    exact ⟨_, rfl, by simpa using hs3⟩
end Go.Proofs.Ytmfjfhmoljnnkaa
