/-
  slices.Clone of ints; a row of ints made shorter.
-/
import Derived.Test.YtjijhpflkkicaaaOW11
import Derived.Test.YtjijhpflkkicaaaOPlain5
set_option linter.unusedVariables false
set_option linter.unusedSimpArgs false
namespace Go.Mem
open Go Go.RowKit
theorem Sep.shortInts {k : IntKind} {E : TypeId} {g n cap : Nat} {zs : List Int} {w0 w : World} {L : List Thing} (h : Sep w0 w L) (i : Nat) (hi : L[i]? = some (intsT k E (.slice (some ⟨g, 0, none⟩) n cap) zs)) (m : Nat) (hm : m ≤ zs.length) :
    Sep w0 w (L.set i (intsT k E (.slice (some ⟨g, 0, none⟩) m cap) (zs.take m))) := by
  refine h.swap i hi fun S hS => ⟨S, ⟨by rw [hS.1]; rfl, ?_⟩, fun _ h => h⟩
  have ho := hS.2
  unfold IOwn at ho ⊢
  rcases ho.2 with ⟨e, _⟩ | ⟨g', cap', cur, e, h1, h2, h3, h4, h5, h6⟩
  · cases e
  · injection e with e1 e2 e3
    injection e1 with e1
    injection e1 with e1
    subst e1; subst e2; subst e3
    have hl : (zs.take m).length = m := by rw [List.length_take]; omega
    refine ⟨by simp, .inr ⟨g, cap, cur, by rw [hl], h1, h2, by rw [hl]; omega, h4, h5, ?_⟩⟩
    have := congrArg (List.take m) h6
    rw [List.take_take, Nat.mul_one, Nat.min_eq_left hm] at this
    rw [hl, Nat.mul_one, this, List.map_take]
end Go.Mem
namespace Go.Proofs.Ytjijhpflkkicaaa
open Go Go.RowKit Go.Mem Go.MoneyP Go.NetP Go.BuildP Go.OffP Go.Shelf
theorem Try.infoInto : (Try.prog.info? 3).map (fun i => (i.zero, i.size, i.bytes)) = some (some (.int .i64 0), 1, 8) := by kernel_rfl
set_option maxHeartbeats 1000000 in
set_option maxRecDepth 100000 in
theorem iclone_any (v : Value) (fl : List Int) (w : World) (h : Rd .i64 w v fl) (hsm : fl.length ≤ 1000000) :
    Calls Try.prog 45 #[v] w fun en w' => ∃ u, en = .returned u ∧ Sep w w' [intsT .i64 3 u fl] := by
  obtain ⟨i0, hi0, hz0, hz1, hz2⟩ := info_parts Try.infoInto
  obtain ⟨a, c, rfl⟩ := h.shape
  match a with
  | none =>
    have hf : fl = [] := by
      rcases Nat.eq_zero_or_pos fl.length with h0 | h0
      · exact List.eq_nil_of_length_eq_zero h0
      · obtain ⟨b, o, e, _⟩ := h.at 0 h0; cases e
    subst hf
    have hc : c = 0 := by
      obtain ⟨a', c', e, _, hn, _⟩ := h
      injection e with e1 e2 e3
      rw [e3]; exact hn e1.symm
    subst hc
    have hs := (Sep.start w).nilInts .i64 3
    have hnil := fun (W : World) => Lib.run_eql_slice_nil (P := Try.prog) W 60 3 none 0 0 0 0 Try.underlying60
    go_enter Try.func45, Try.ntmps45
    go_wp2_with fail
    go_ret
    exact ⟨_, rfl, hs⟩
  | some a =>
    have hs2 := (Sep.start w).litInts .i64 3 [] (by simp [maxLen])
    simp only [List.map_cons, List.map_nil, List.length_cons, List.length_nil, Nat.reduceAdd, World.size_alloc] at hs2
    have hnil := fun (W : World) => Lib.run_eql_slice_nil (P := Try.prog) W 60 3 (some a) fl.length c 0 0 Try.underlying60
    go_enter Try.func45, Try.ntmps45
    go_wp2_with (at_builtin; refine wpList_appRd rfl (.tmp 5) (.tmp 6) 60 rfl 3 i0 _ 8 Try.underlying60 hi0 hz0 hz1 hz2 rfl _ [] .i64 _ fl hs2 0 rfl (hs2.rd h) rfl rfl ?c3 ?c4 ?grow)
    case c3 => (try simp); (try simp only [maxLen]); (try omega)
    case c4 => (try simp); (try simp only [maxLen]); (try omega)
    case grow =>
      intro vo w4 hs3
      (try simp only [List.set_cons_zero, List.nil_append] at hs3)
      clear hnil hs2
      go_wp2_with fail
      go_ret
      exact ⟨_, rfl, hs3⟩
end Go.Proofs.Ytjijhpflkkicaaa
