/-
  The reference's nets: SameNet, walked.
-/
import Derived.Test.YtmfjfhmoljnnkaaNW2
namespace Go.Proofs.Ytmfjfhmoljnnkaa
open Go Go.RowKit Go.Mem Go.NetP

set_option maxHeartbeats 1000000 in
/-- Two nets that are the same. -/
theorem sameNet_same (n : Int) (a a' : Option Addr) (c c' : Nat) (es : List Ed) (w : World) (h : RdG edR w (.slice a es.length c) es) (h' : RdG edR w (.slice a' es.length c') es) :
    Calls Try.prog 20 #[.agg #[.int .i64 n, .slice a es.length c], .agg #[.int .i64 n, .slice a' es.length c']] w fun en w' => en = .returned (.bool true) ∧ Below w.heap.size w w' := by
  have hle := h.le
  unfold maxLen at hle
  have hs0 := ((Sep.start w).newCells #[.int .i64 n, .slice a es.length c] 24).newCells #[.int .i64 n, .slice a' es.length c'] 24
  simp only [World.size_alloc] at hs0
  have FIN := Lib.hid (fun (W : World) (h : Sep w W [cellsT (w.heap.size + 1) #[.int .i64 n, .slice a' es.length c'] 24, cellsT w.heap.size #[.int .i64 n, .slice a es.length c] 24]) =>
    (⟨cell_of (h.cells 1 rfl) 0, cell_of (h.cells 1 rfl) 1, cell_of (h.cells 0 rfl) 0, cell_of (h.cells 0 rfl) 1⟩ : W.cell? ⟨w.heap.size, 0, none⟩ = some (.int .i64 n) ∧ W.cell? ⟨w.heap.size, 1, none⟩ = some (.slice a es.length c) ∧ W.cell? ⟨w.heap.size + 1, 0, none⟩ = some (.int .i64 n) ∧ W.cell? ⟨w.heap.size + 1, 1, none⟩ = some (.slice a' es.length c')))
  go_enter Try.func20, Try.ntmps20
  go_wp2_with fail
  refine wp_loopM [none, none, none, none, some 4, some 5, none, none, none, none, none, none, none, none, none, none, none, none, none, none, some 20, some 21, some 22, some 23, some 24, some 25, some 26, some 27, some 28, some 29, some 30, some 31, some 32, some 33, some 34, some 35, some 36, some 37] (fun (r : Nat) (f : Nat → Value) (wr : World) => (fun (v : Value) => ∃ i : Nat, v = .int .i64 i ∧ i ≤ es.length ∧ r = es.length - i ∧ Sep w wr [cellsT (w.heap.size + 1) #[.int .i64 n, .slice a' es.length c'] 24, cellsT w.heap.size #[.int .i64 n, .slice a es.length c] 24]) (f 5)) (es.length) (by kernel_rfl) ?atStart1 ?round1
  case' atStart1 => (try dsimp only [nthV])
  case' round1 =>
    intro gk f wr l hl hrel J1 K1 hJ1 hK1
    (try simp only [mask] at hl)
    generalize f 5 = u5 at hl hrel
    subst hl
    (try dsimp only at hrel)
  case atStart1 => exact ⟨0, rfl, Nat.zero_le _, rfl, hs0⟩
  case round1 =>
    clear hs0
    obtain ⟨i, rfl, hi, rfl, hs⟩ := hrel
    obtain ⟨n0, n1, m0, m1⟩ := FIN.out _ hs
    by_cases hlt : i < es.length
    · obtain ⟨b1, o1, e1, hb1, hc1⟩ := (hs.rdG h).at i hlt
      obtain ⟨b2, o2, e2, hb2, hc2⟩ := (hs.rdG h').at i hlt
      subst e1; subst e2
      obtain ⟨e, hee⟩ : ∃ e, e = es[i] := ⟨_, rfl⟩
      rw [← hee] at hc1 hc2
      have x0 := hc1 0 (by decide)
      have x1 := hc1 1 (by decide)
      have x2 := hc1 2 (by decide)
      have x3 := hc1 3 (by decide)
      have y0 := hc2 0 (by decide)
      have y1 := hc2 1 (by decide)
      have y2 := hc2 2 (by decide)
      have y3 := hc2 3 (by decide)
      simp only [edR, Nat.add_zero, List.getElem?_cons_zero, List.getElem?_cons_succ] at x0 x1 x2 x3 y0 y1 y2 y3
      clear hc1 hc2 hee
      go_wp2_with fail
      refine Mix.region [0, 0, 0, 0, 0, 0, 0, 0, 0, 0, 0] (fun _ => True) (by kernel_rfl) (by kernel_rfl) trivial ?_
      simp only [List.zip_cons_cons, List.zip_nil_right]
      iterate 11 (refine Mix.step0 fun K hK => ?_; go_simp; (try (go_bits; try go_simp)); first | ((with_reducible refine hK _ _ ?_); clear hK K) | ((try (simp only [IntWalk.iteOmega]; try go_simp)); (try go_bits); (with_reducible refine hK _ _ ?_); clear hK K))
      refine Mix.done ?_
      go_wp2_with fail
      refine Round.intro (es.length - (i + 1)) ?measure2 (by kernel_rfl) (hJ1 _ _ _ ?rel2)
      case' rel2 => (try dsimp only [nthV])
      case measure2 => omega
      case rel2 => exact ⟨i + 1, by go_num, hlt, rfl, hs.drew⟩
    · go_wp2_with fail
      go_ret
      exact ⟨rfl, hs.below⟩
end Go.Proofs.Ytmfjfhmoljnnkaa
