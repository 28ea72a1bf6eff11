/-
  Package rest: push, Push; slices.Clone of integers, walked.
-/
import Derived.Test.YtmfjfhmoljnnkaaRW1
import Derived.WalkSpells
namespace Go.Proofs.Ytmfjfhmoljnnkaa
open Go Go.RowKit Go.Mem Go.NetP Go.RestP

theorem Try.infoI64r : (Try.prog.info? 2).map (fun i => (i.zero, i.size, i.bytes)) = some (some (.int .i64 0), 1, 8) := by kernel_rfl

set_option maxHeartbeats 1000000 in
theorem clone_any (v : Value) (fl : List Int) (w : World) (h : Rd .i64 w v fl) (hsm : fl.length ≤ 1000000) :
    Calls Try.prog 37 #[v] w fun en w' => ∃ u, en = .returned u ∧ Sep w w' [intsT .i64 2 u fl] := by
  obtain ⟨i0, hi0, hz0, hz1, hz2⟩ := info_parts Try.infoI64r
  obtain ⟨a, c, rfl⟩ := h.shape
  match a with
  | none =>
    have hf : fl = [] := by
      rcases Nat.eq_zero_or_pos fl.length with h0 | h0
      · exact List.eq_nil_of_length_eq_zero h0
      · obtain ⟨b, o, e, _⟩ := h.at 0 h0; cases e
    subst hf
    have hc : c = 0 := by
      obtain ⟨a', c', e, _, hn, _⟩ := h
      injection e with e1 e2 e3
      rw [e3]; exact hn e1.symm
    subst hc
    have hs := (Sep.start w).nilInts .i64 2
    have hnil := fun (W : World) => Lib.run_eql_slice_nil (P := Try.prog) W 25 2 none 0 0 0 0 Try.underlying25
    go_enter Try.func37, Try.ntmps37
    go_wp2_with fail
    go_ret
    exact ⟨_, rfl, hs⟩
  | some a =>
    have hs2 := (Sep.start w).litInts .i64 2 [] (by simp [maxLen])
    simp only [List.map_cons, List.map_nil, List.length_cons, List.length_nil, Nat.reduceAdd, World.size_alloc] at hs2
    have hnil := fun (W : World) => Lib.run_eql_slice_nil (P := Try.prog) W 25 2 (some a) fl.length c 0 0 Try.underlying25
    go_enter Try.func37, Try.ntmps37
    go_wp2_with (at_builtin; refine wpList_appRd rfl (.tmp 5) (.tmp 6) 25 rfl 2 i0 _ 8 Try.underlying25 hi0 hz0 hz1 hz2 rfl _ [] .i64 _ fl hs2 0 rfl (hs2.rd h) rfl rfl ?c3 ?c4 ?grow)
    case c3 => (try simp); (try simp only [maxLen]); (try omega)
    case c4 => (try simp); (try simp only [maxLen]); (try omega)
    case grow =>
      intro vo w4 hs3
      go_wp2_with fail
      go_ret
      exact ⟨_, rfl, by simpa using hs3⟩

set_option maxHeartbeats 1000000 in
theorem push_sep {w0 w : World} {L : List Thing} (hs : Sep w0 w L) (j : Nat) (v : Value) (fl : List Int) (hj : L[j]? = some (intsT .i64 2 v fl)) (i : Nat) (hi : i / 2 < fl.length) (hi2 : i ≤ 1000000) (b : Int) (hb : 0 ≤ b ∧ b ≤ 4503599627370496)
    (hx : 0 ≤ fl.getD (i / 2) 0 ∧ fl.getD (i / 2) 0 ≤ 4503599627370496) :
    Calls Try.prog 38 #[v, .int .i64 i, .int .i64 b] w fun en w' => (∃ u, en = .returned u) ∧ Sep w0 w' (L.set j (intsT .i64 2 v (pushL fl i b))) := by
  obtain ⟨g, cp, rfl, hg, hcR, hfr⟩ := (hs.ints j hj).get (i / 2) hi
  have r0 := hcR (i / 2) hi
  have r1 := hfr (i / 2)
  obtain ⟨b0, b1⟩ := hb
  obtain ⟨x0, x1⟩ := hx
  have HT := Lib.hid (fun q : Int => hs.setInts (j := i / 2) j hj q)
  have HP := Lib.hid (show pushL fl i b = fl.set (i / 2) (fl.getD (i / 2) 0 + sgn i b) from rfl)
  generalize fl.getD (i / 2) 0 = x at *
  clear hcR hfr
  go_enter Try.func38, Try.ntmps38
  go_wp2_with fail
  refine (back_any i _ (by omega)).mono ?_
  rintro en w1 ⟨rfl, rfl⟩
  cases ho : oddB i
  · have HS := Lib.hid (show sgn i b = b by simp [sgn, ho])
    go_wp2_with fail
    refine bodyPost_end (results_none rfl _ _ _) rfl ⟨⟨_, rfl⟩, ?_⟩
    rw [HP.out, HS.out]; exact HT.out _
  · have HS := Lib.hid (show sgn i b = -b by simp [sgn, ho])
    go_wp2_with fail
    go_end0
    refine ⟨⟨_, rfl⟩, ?_⟩
    rw [HP.out, HS.out]; exact HT.out _
end Go.Proofs.Ytmfjfhmoljnnkaa
