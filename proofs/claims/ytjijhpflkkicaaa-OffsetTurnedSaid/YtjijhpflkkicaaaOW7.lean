/-
  The laws' comparisons: the same numbers, the same tables, the same dues, walked.
-/
import Derived.Test.YtjijhpflkkicaaaOW6
set_option linter.unusedVariables false
set_option linter.unusedSimpArgs false
namespace Go.Mem
open Go Go.RowKit
/-- A table of numbers, read. -/
def GridR (w : World) (v : Value) (M : List (List Int)) : Prop := ∃ G : List (Sl × List Int), G.map (·.2) = M ∧ RdG slR w v (G.map (·.1)) ∧ ∀ p ∈ G, Rd .i64 w p.1.val p.2
theorem GridR.below {w w' : World} {v : Value} {M : List (List Int)} (h : GridR w v M) (hb : Below w.heap.size w w') : GridR w' v M := by
  obtain ⟨G, h1, h2, h3⟩ := h
  exact ⟨G, h1, h2.below hb, fun p hp => (h3 p hp).below hb⟩
theorem GridR.nil (w : World) : GridR w (.slice none 0 0) [] := ⟨[], rfl, ((Sep.start w).nilRecs slR 0).rdRecs 0 rfl, fun p hp => by cases hp⟩
theorem Sep.gridR {w w' : World} {E2 E : TypeId} {v : Value} {G : List (Sl × List Int)} {L : List Thing} (h : Sep w w' (recT slR E2 v (G.map (·.1)) :: (gridL .i64 E G ++ L))) : GridR w' v (G.map (·.2)) := by
  refine ⟨G, rfl, h.rdRecs 0 rfl, fun p hp => ?_⟩
  obtain ⟨i, hi, rfl⟩ := List.getElem_of_mem hp
  refine h.rdInts (k := .i64) (E := E) (1 + i) ?_
  rw [show 1 + i = i + 1 by omega, List.getElem?_cons_succ, List.getElem?_append_left (by rw [gridL_len]; exact hi)]
  exact gridL_at hi
end Go.Mem
namespace Go.Proofs.Ytjijhpflkkicaaa
open Go Go.RowKit Go.Mem Go.MoneyP Go.NetP Go.BuildP Go.OffP Go.Shelf
set_option maxHeartbeats 800000 in
theorem amounts_eq (v v' : Value) (zs : List Int) (w : World) (h : Rd .i64 w v zs) (h' : Rd .i64 w v' zs) : Calls Try.prog 13 #[v, v'] w fun e w' => e = .returned (.bool true) ∧ Below w.heap.size w w' := by
  have hle := h.le'
  obtain ⟨a, cap, rfl⟩ := h.shape
  obtain ⟨a', cap', rfl⟩ := h'.shape
  go_enter Try.func13, Try.ntmps13
  go_wp2_with fail
  refine wp_loopM [none, none, none, none, some 4, some 5, none, none, none, none, none, some 11, some 12, some 13, some 14, some 15, some 16, some 17, some 18, some 19, some 20, some 21, some 22, some 23, some 24, some 25] (fun (n : Nat) (f : Nat → Value) (wr : World) => (fun (v : Value) => ∃ i : Nat, v = .int .i64 i ∧ i ≤ zs.length ∧ n = zs.length - i ∧ Sep w wr []) (f 5)) (zs.length) (by kernel_rfl) ?atStart1 ?round1
  case' atStart1 => (try dsimp only [nthV])
  case' round1 =>
    intro gk f wr l hl hrel J1 K1 hJ1 hK1
    (try simp only [mask] at hl)
    generalize f 5 = u5 at hl hrel
    subst hl
    (try dsimp only at hrel)
  case atStart1 => exact ⟨0, rfl, Nat.zero_le _, rfl, Sep.start w⟩
  case round1 =>
    obtain ⟨i, rfl, hi, rfl, hs⟩ := hrel
    by_cases hlt : i < zs.length
    · obtain ⟨b1, o1, rfl, hb1, hc1⟩ := (hs.rd h).at i hlt
      obtain ⟨b2, o2, rfl, hb2, hc2⟩ := (hs.rd h').at i hlt
      go_wp2_with fail
      refine Mix.region [0, 0, 0, 0, 0, 0, 0, 0, 0] (fun _ => True) (by kernel_rfl) (by kernel_rfl) trivial ?_
      simp only [List.zip_cons_cons, List.zip_nil_right]
      iterate 9 (refine Mix.step0 fun K hK => ?_; go_simp; (try (go_bits; try go_simp)); first | ((with_reducible refine hK _ _ ?_); clear hK K) | ((try (simp only [IntWalk.iteOmega]; try go_simp)); (try go_bits); (with_reducible refine hK _ _ ?_); clear hK K))
      refine Mix.done ?_
      go_wp2_with fail
      refine Round.intro (zs.length - (i + 1)) ?measure2 (by kernel_rfl) (hJ1 _ _ _ ?rel2)
      case' rel2 => (try dsimp only [nthV])
      case measure2 => omega
      case rel2 => exact ⟨i + 1, by go_num, hlt, rfl, hs.drew⟩
    · go_wp2_with fail
      go_ret
      exact ⟨rfl, hs.below⟩
set_option maxHeartbeats 1000000 in
theorem sameT_eq (v v' : Value) (M : List (List Int)) (w : World) (h : GridR w v M) (h' : GridR w v' M) : Calls Try.prog 12 #[v, v'] w fun e w' => e = .returned (.bool true) ∧ Below w.heap.size w w' := by
  obtain ⟨G, g1, g2, g3⟩ := h
  obtain ⟨G', g1', g2', g3'⟩ := h'
  have hl : G.length = M.length := by rw [← g1]; simp
  have hl' : G'.length = M.length := by rw [← g1']; simp
  have hle := g2.le'
  obtain ⟨a, cap, rfl⟩ := g2.shape
  obtain ⟨a', cap', rfl⟩ := g2'.shape
  rw [List.length_map, hl] at g2 hle ⊢
  rw [List.length_map, hl'] at g2' ⊢
  have HL := Lib.hid hl
  have HL' := Lib.hid hl'
  have HG := Lib.hid g1
  have HG' := Lib.hid g1'
  have HR := Lib.hid g3
  have HR' := Lib.hid g3'
  clear hl hl' g1 g1' g3 g3'
  go_enter Try.func12, Try.ntmps12
  go_wp2_with fail
  refine wp_loopM [none, none, none, none, some 4, some 5, none, none, none, none, none, some 11, some 12, some 13, some 14, some 15, some 16, some 17, some 18, some 19, some 20, some 21, some 22, some 23, some 24, some 25, some 26] (fun (n : Nat) (f : Nat → Value) (wr : World) => (fun (v : Value) => ∃ i : Nat, v = .int .i64 i ∧ i ≤ M.length ∧ n = M.length - i ∧ Sep w wr []) (f 5)) (M.length) (by kernel_rfl) ?atStart3 ?round3
  case' atStart3 => (try dsimp only [nthV])
  case' round3 =>
    intro gk f wr l hl hrel J1 K1 hJ1 hK1
    (try simp only [mask] at hl)
    generalize f 5 = u5 at hl hrel
    subst hl
    (try dsimp only at hrel)
  case atStart3 => exact ⟨0, rfl, Nat.zero_le _, rfl, Sep.start w⟩
  case round3 =>
    obtain ⟨i, rfl, hi, rfl, hs⟩ := hrel
    by_cases hlt : i < M.length
    · have hlt1 : i < G.length := by rw [HL.out]; exact hlt
      have hlt2 : i < G'.length := by rw [HL'.out]; exact hlt
      obtain ⟨b1, o1, e1, _, hc1⟩ := (hs.rdG g2).at i (by rw [List.length_map]; exact hlt1)
      obtain ⟨b2, o2, e2, _, hc2⟩ := (hs.rdG g2').at i (by rw [List.length_map]; exact hlt2)
      subst e1
      subst e2
      have x1 := hc1 0 (by decide)
      have x2 := hc2 0 (by decide)
      simp only [slR, List.getElem_map, List.getElem?_cons_zero, Nat.mul_one, Nat.add_zero] at x1 x2
      have hR1 := HR.out _ (List.getElem_mem hlt1)
      have hR2 := HR'.out _ (List.getElem_mem hlt2)
      have e3 : G[i].2 = M[i] := by have := congrArg (fun l => l[i]?) HG.out; simpa [hlt1, hlt] using this
      have e4 : G'[i].2 = M[i] := by have := congrArg (fun l => l[i]?) HG'.out; simpa [hlt2, hlt] using this
      rw [e3] at hR1
      rw [e4] at hR2
      obtain ⟨s1, hs1⟩ : ∃ s, s = G[i].1 := ⟨_, rfl⟩
      obtain ⟨s2, hs2⟩ : ∃ s, s = G'[i].1 := ⟨_, rfl⟩
      rw [← hs1] at hR1 x1
      rw [← hs2] at hR2 x2
      obtain ⟨a1, n1, c1⟩ := s1
      obtain ⟨a2, n2, c2⟩ := s2
      have HA := Lib.hid (fun W (hb : Below w.heap.size w W) => amounts_eq _ _ M[i] W (hR1.below hb) (hR2.below hb))
      unfold Sl.val at HA
      dsimp only at HA x1 x2
      have hiI : (i : Int) < M.length := by omega
      clear hc1 hc2 hR1 hR2 e3 e4 hs1 hs2
      go_wp2_with fail
      refine Mix.region [0, 0, 0, 0, 0, 0, 0, 0, 2, 0] (fun _ => True) (by kernel_rfl) (by kernel_rfl) trivial ?_
      simp only [List.zip_cons_cons, List.zip_nil_right]
      iterate 8 (refine Mix.step0 fun K hK => ?_; go_simp; (try (go_bits; try go_simp)); first | ((with_reducible refine hK _ _ ?_); clear hK K) | ((try (simp only [IntWalk.iteOmega]; try go_simp)); (try go_bits); (with_reducible refine hK _ _ ?_); clear hK K))
      refine Mix.step2n (by first | rfl | simp [Region.wanted, yielded]) fun K hK => ?_
      go_wp2_with fail
      refine (HA.out _ hs.drew.below).mono ?_
      rintro en w5 ⟨rfl, hb⟩
      replace hs := hs.drew.belowStep hb
      clear hb x1 x2
      go_wp2_with fail
      refine Mix.post_mk (C := (fun _ => True)) trivial (hK _ _ ?_)
      clear hK K
      iterate 1 (refine Mix.step0 fun K hK => ?_; go_simp; (try (go_bits; try go_simp)); first | ((with_reducible refine hK _ _ ?_); clear hK K) | ((try (simp only [IntWalk.iteOmega]; try go_simp)); (try go_bits); (with_reducible refine hK _ _ ?_); clear hK K))
      refine Mix.done ?_
      go_wp2_with fail
      refine Round.intro (M.length - (i + 1)) ?measure4 (by kernel_rfl) (hJ1 _ _ _ ?rel4)
      case' rel4 => (try dsimp only [nthV])
      case measure4 => omega
      case rel4 => exact ⟨i + 1, by go_num, hlt, rfl, hs⟩
    · go_wp2_with fail
      go_ret
      exact ⟨rfl, hs.below⟩
set_option maxHeartbeats 1000000 in
theorem sameD_eq (v v' : Value) (l : List Du) (w : World) (h : RdG duR w v l) (h' : RdG duR w v' l) : Calls Try.prog 16 #[v, v'] w fun e w' => e = .returned (.bool true) ∧ Below w.heap.size w w' := by
  have hle := h.le'
  obtain ⟨a, cap, rfl⟩ := h.shape
  obtain ⟨a', cap', rfl⟩ := h'.shape
  go_enter Try.func16, Try.ntmps16
  go_wp2_with fail
  refine wp_loopM [none, none, none, none, some 4, some 5, none, none, none, none, none, some 11, some 12, some 13, some 14, some 15, some 16, some 17, some 18, some 19, some 20, some 21, some 22, some 23, some 24, some 25] (fun (n : Nat) (f : Nat → Value) (wr : World) => (fun (v : Value) => ∃ i : Nat, v = .int .i64 i ∧ i ≤ l.length ∧ n = l.length - i ∧ Sep w wr []) (f 5)) (l.length) (by kernel_rfl) ?atStart5 ?round5
  case' atStart5 => (try dsimp only [nthV])
  case' round5 =>
    intro gk f wr l hl hrel J1 K1 hJ1 hK1
    (try simp only [mask] at hl)
    generalize f 5 = u5 at hl hrel
    subst hl
    (try dsimp only at hrel)
  case atStart5 => exact ⟨0, rfl, Nat.zero_le _, rfl, Sep.start w⟩
  case round5 =>
    obtain ⟨i, rfl, hi, rfl, hs⟩ := hrel
    by_cases hlt : i < l.length
    · obtain ⟨b1, o1, e1, _, hc1⟩ := (hs.rdG h).at i hlt
      obtain ⟨b2, o2, e2, _, hc2⟩ := (hs.rdG h').at i hlt
      subst e1
      subst e2
      obtain ⟨x, hx⟩ : ∃ x, x = l[i] := ⟨_, rfl⟩
      rw [← hx] at hc1 hc2
      clear hx
      obtain ⟨id, f, t, xx, we, u, hh⟩ := x
      have x0 := hc1 0 (by decide)
      have x1 := hc1 1 (by decide)
      have x2 := hc1 2 (by decide)
      have x3 := hc1 3 (by decide)
      have x4 := hc1 4 (by decide)
      have x5 := hc1 5 (by decide)
      have x6 := hc1 6 (by decide)
      simp only [duR, Nat.add_zero, List.getElem?_cons_zero, List.getElem?_cons_succ] at x0 x1 x2 x3 x4 x5 x6
      clear hc1
      have y0 := hc2 0 (by decide)
      have y1 := hc2 1 (by decide)
      have y2 := hc2 2 (by decide)
      have y3 := hc2 3 (by decide)
      have y4 := hc2 4 (by decide)
      have y5 := hc2 5 (by decide)
      have y6 := hc2 6 (by decide)
      simp only [duR, Nat.add_zero, List.getElem?_cons_zero, List.getElem?_cons_succ] at y0 y1 y2 y3 y4 y5 y6
      clear hc2
      have hiI : (i : Int) < l.length := by omega
      go_wp2_with fail
      refine Mix.region [0, 0, 0, 0, 0, 0, 0, 0, 0] (fun _ => True) (by kernel_rfl) (by kernel_rfl) trivial ?_
      simp only [List.zip_cons_cons, List.zip_nil_right]
      iterate 9 (refine Mix.step0 fun K hK => ?_; go_simp; (try (go_bits; try go_simp)); first | ((with_reducible refine hK _ _ ?_); clear hK K) | ((try (simp only [IntWalk.iteOmega]; try go_simp)); (try go_bits); (with_reducible refine hK _ _ ?_); clear hK K))
      refine Mix.done ?_
      go_wp2_with fail
      refine Round.intro (l.length - (i + 1)) ?measure6 (by kernel_rfl) (hJ1 _ _ _ ?rel6)
      case' rel6 => (try dsimp only [nthV])
      case measure6 => omega
      case rel6 => exact ⟨i + 1, by go_num, hlt, rfl, hs.drew⟩
    · go_wp2_with fail
      go_ret
      exact ⟨rfl, hs.below⟩
end Go.Proofs.Ytjijhpflkkicaaa
