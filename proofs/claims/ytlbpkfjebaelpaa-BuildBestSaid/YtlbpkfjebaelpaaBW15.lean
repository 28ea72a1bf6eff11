/-
  The build laws' few, SameNet and anchor, walked.
-/
import Derived.Test.YtlbpkfjebaelpaaBD
import Derived.Test.YtlbpkfjebaelpaaBW11
import Derived.Test.YtlbpkfjebaelpaaNB
set_option linter.unusedVariables false
set_option linter.unusedSimpArgs false
namespace Go.Proofs.Ytlbpkfjebaelpaa
open Go Go.RowKit Go.Mem Go.MoneyP Go.NetP Go.BuildP
def fewB (a b c : Nat) : Bool := decide (a ≤ 40) && decide (b ≤ 100) && decide (c ≤ 300)
theorem fewB_parts {a b c : Nat} (h : fewB a b c = true) : a ≤ 40 ∧ b ≤ 100 ∧ c ≤ 300 := by
  simp only [fewB, Bool.and_eq_true, decide_eq_true_eq] at h
  exact ⟨h.1.1, h.1.2, h.2⟩
set_option maxHeartbeats 1000000 in
theorem bfew_any (a1 a2 a3 : Option Addr) (n1 n2 n3 c1 c2 c3 : Nat) (w : World) (h1 : n1 ≤ 9223372036854775807) (h2 : n2 ≤ 9223372036854775807) (h3 : n3 ≤ 9223372036854775807) :
    Calls Try.prog 6 #[.slice a1 n1 c1, .slice a2 n2 c2, .slice a3 n3 c3] w fun en w' => en = .returned (.bool (fewB n1 n2 n3)) ∧ w' = w := by
  by_cases q1 : n1 ≤ 40
  · have d1 : decide ((n1 : Int) ≤ 40) = true := decide_eq_true (by omega)
    by_cases q2 : n2 ≤ 100
    · have d2 : decide ((n2 : Int) ≤ 100) = true := decide_eq_true (by omega)
      have H := Lib.hid (show fewB n1 n2 n3 = decide ((n3 : Int) ≤ 300) by simp [fewB, q1, q2]; omega)
      go_enter Try.func6, Try.ntmps6
      go_wp2_with fail
      go_ret
      exact ⟨by rw [H.out]; rfl, rfl⟩
    · have d2 : decide ((n2 : Int) ≤ 100) = false := decide_eq_false (by omega)
      have H := Lib.hid (show fewB n1 n2 n3 = false by simp [fewB, q2])
      go_enter Try.func6, Try.ntmps6
      go_wp2_with fail
      go_ret
      exact ⟨by rw [H.out]; rfl, rfl⟩
  · have d1 : decide ((n1 : Int) ≤ 40) = false := decide_eq_false (by omega)
    have H := Lib.hid (show fewB n1 n2 n3 = false by simp [fewB, q1])
    go_enter Try.func6, Try.ntmps6
    go_wp2_with fail
    go_ret
    exact ⟨by rw [H.out]; rfl, rfl⟩
set_option maxHeartbeats 1000000 in
/-- Two nets that are the same. -/
theorem bsameNet_same (n : Int) (a a' : Option Addr) (c c' : Nat) (es : List Ed) (w : World) (h : RdG edR w (.slice a es.length c) es) (h' : RdG edR w (.slice a' es.length c') es) :
    Calls Try.prog 10 #[.agg #[.int .i64 n, .slice a es.length c], .agg #[.int .i64 n, .slice a' es.length c']] w fun en w' => en = .returned (.bool true) ∧ Below w.heap.size w w' := by
  have hle := h.le
  unfold maxLen at hle
  have hs0 := ((Sep.start w).newCells #[.int .i64 n, .slice a es.length c] 28).newCells #[.int .i64 n, .slice a' es.length c'] 28
  simp only [World.size_alloc] at hs0
  have FIN := Lib.hid (fun (W : World) (h : Sep w W [cellsT (w.heap.size + 1) #[.int .i64 n, .slice a' es.length c'] 28, cellsT w.heap.size #[.int .i64 n, .slice a es.length c] 28]) =>
    (⟨cell_of (h.cells 1 rfl) 0, cell_of (h.cells 1 rfl) 1, cell_of (h.cells 0 rfl) 0, cell_of (h.cells 0 rfl) 1⟩ : W.cell? ⟨w.heap.size, 0, none⟩ = some (.int .i64 n) ∧ W.cell? ⟨w.heap.size, 1, none⟩ = some (.slice a es.length c) ∧ W.cell? ⟨w.heap.size + 1, 0, none⟩ = some (.int .i64 n) ∧ W.cell? ⟨w.heap.size + 1, 1, none⟩ = some (.slice a' es.length c')))
  go_enter Try.func10, Try.ntmps10
  go_wp2_with fail
  refine wp_loopM [none, none, none, none, some 4, some 5, none, none, none, none, none, none, none, none, none, none, none, none, none, none, some 20, some 21, some 22, some 23, some 24, some 25, some 26, some 27, some 28, some 29, some 30, some 31, some 32, some 33, some 34, some 35, some 36, some 37] (fun (r : Nat) (f : Nat → Value) (wr : World) => (fun (v : Value) => ∃ i : Nat, v = .int .i64 i ∧ i ≤ es.length ∧ r = es.length - i ∧ Sep w wr [cellsT (w.heap.size + 1) #[.int .i64 n, .slice a' es.length c'] 28, cellsT w.heap.size #[.int .i64 n, .slice a es.length c] 28]) (f 5)) (es.length) (by kernel_rfl) ?atStart1 ?round1
  case' atStart1 => (try dsimp only [nthV])
  case' round1 =>
    intro gk f wr l hl hrel J1 K1 hJ1 hK1
    (try simp only [mask] at hl)
    generalize f 5 = u5 at hl hrel
    subst hl
    (try dsimp only at hrel)
  case atStart1 => exact ⟨0, rfl, Nat.zero_le _, rfl, hs0⟩
  case round1 =>
    clear hs0
    obtain ⟨i, rfl, hi, rfl, hs⟩ := hrel
    obtain ⟨n0, n1, m0, m1⟩ := FIN.out _ hs
    by_cases hlt : i < es.length
    · obtain ⟨b1, o1, e1, hb1, hc1⟩ := (hs.rdG h).at i hlt
      obtain ⟨b2, o2, e2, hb2, hc2⟩ := (hs.rdG h').at i hlt
      subst e1; subst e2
      obtain ⟨e, hee⟩ : ∃ e, e = es[i] := ⟨_, rfl⟩
      rw [← hee] at hc1 hc2
      have x0 := hc1 0 (by decide)
      have x1 := hc1 1 (by decide)
      have x2 := hc1 2 (by decide)
      have x3 := hc1 3 (by decide)
      have y0 := hc2 0 (by decide)
      have y1 := hc2 1 (by decide)
      have y2 := hc2 2 (by decide)
      have y3 := hc2 3 (by decide)
      simp only [edR, Nat.add_zero, List.getElem?_cons_zero, List.getElem?_cons_succ] at x0 x1 x2 x3 y0 y1 y2 y3
      clear hc1 hc2 hee
      go_wp2_with fail
      refine Mix.region [0, 0, 0, 0, 0, 0, 0, 0, 0, 0, 0] (fun _ => True) (by kernel_rfl) (by kernel_rfl) trivial ?_
      simp only [List.zip_cons_cons, List.zip_nil_right]
      iterate 11 (refine Mix.step0 fun K hK => ?_; go_simp; (try (go_bits; try go_simp)); first | ((with_reducible refine hK _ _ ?_); clear hK K) | ((try (simp only [IntWalk.iteOmega]; try go_simp)); (try go_bits); (with_reducible refine hK _ _ ?_); clear hK K))
      refine Mix.done ?_
      go_wp2_with fail
      refine Round.intro (es.length - (i + 1)) ?measure2 (by kernel_rfl) (hJ1 _ _ _ ?rel2)
      case' rel2 => (try dsimp only [nthV])
      case measure2 => omega
      case rel2 => exact ⟨i + 1, by go_num, hlt, rfl, hs.drew⟩
    · go_wp2_with fail
      go_ret
      exact ⟨rfl, hs.below⟩
/-- The chapter's round. -/
def exD : List Du := [⟨7, 0, 1, 9, 2, 0, false⟩]
set_option maxRecDepth 100000 in
set_option maxHeartbeats 4000000 in
theorem bworks_any (w : World) : Calls Try.prog 7 #[] w fun e w' => e = .returned (.bool true) ∧ Below w.heap.size w w' := by
  have hs := ((Sep.start w).litRecs duR 45 exD (by simp [maxLen, exD])).litInts .i64 2 [5, 0] (by simp [maxLen])
  simp only [List.map_cons, List.map_nil, List.length_cons, List.length_nil, Nat.reduceAdd, World.size_alloc] at hs
  have HR := Lib.hid (round_any [5, 0] exD false _ _ _ (hs.rdInts 0 rfl) (hs.rdRecs 1 rfl) (by decide))
  go_enter Try.func7, Try.ntmps7
  go_wp2_with fail
  refine (HR.out).mono ?_
  rintro en w1 (⟨h0, _, _⟩ | ⟨_, ve, vi, rfl, k1⟩)
  · exact absurd h0 (by decide)
  clear HR
  replace hs := hs.join k1
  clear k1
  simp only [List.cons_append, List.nil_append] at hs
  obtain ⟨ae, ce, rfl⟩ := (hs.rdRecs 0 rfl).shape
  obtain ⟨ai, ci, rfl⟩ := (hs.rdInts 1 rfl).shape
  rw [show edgesL [5, 0] exD false = [⟨0, 1, 9, -2⟩, ⟨2, 0, 5, 0⟩, ⟨0, 2, 4503599627370496, 0⟩, ⟨2, 1, 0, 0⟩, ⟨1, 2, 4503599627370496, 0⟩] by decide] at hs ⊢
  rw [show (openL exD).map (·.id) = [7] by decide] at hs ⊢
  simp only [List.length_cons, List.length_nil, Nat.reduceAdd] at hs ⊢
  replace hs := hs.newCells #[.int .i64 3, .slice ae 5 ce] 28
  obtain ⟨W1, hW1⟩ : ∃ W1, W1 = w1.alloc (.cells #[.int .i64 3, .slice ae 5 ce] 28) := ⟨_, rfl⟩
  rw [← hW1] at hs
  have n0 := cell_of (hs.cells 0 rfl) 0
  have n1 := cell_of (hs.cells 0 rfl) 1
  simp only [List.getElem?_toArray, List.getElem?_cons_zero, List.getElem?_cons_succ] at n0 n1
  obtain ⟨be, oe, rfl, hbe, hce⟩ := (hs.rdRecs 1 rfl).at 0 (by decide)
  have e0 := hce 0 (by decide)
  have e1 := hce 1 (by decide)
  have e2 := hce 2 (by decide)
  have e3 := hce 3 (by decide)
  obtain ⟨_, _, q1, _, hcf⟩ := (hs.rdRecs 1 rfl).at 1 (by decide)
  injection q1 with q1
  injection q1 with q1 q2
  subst q1; subst q2
  have f2 := hcf 2 (by decide)
  obtain ⟨bi, oi, rfl, hbi, hci⟩ := (hs.rdInts 2 rfl).at 0 (by decide)
  simp [edR] at e0 e1 e2 e3 f2 hci
  rw [hW1] at n0 n1 e0 e1 e2 e3 f2 hci hs
  clear hW1 hce hcf
  have hs2 := (hs.litInts .i64 2 [5, 0] (by simp [maxLen])).litInts .i64 2 [5] (by simp [maxLen])
  simp only [List.map_cons, List.map_nil, List.length_cons, List.length_nil, Nat.reduceAdd, World.size_alloc] at hs2
  have P1 := Lib.hid (permit_any [5, 0] exD false [5] _ _ _ _ (hs2.rdInts 1 rfl) (hs2.rdRecs 6 rfl) (hs2.rdInts 0 rfl) (by decide) (by decide))
  go_wp2_with fail
  refine (P1.out).mono ?_
  rintro en w2 ⟨rfl, hb⟩
  rw [show permitB [5, 0] exD false [5] = true by decide]
  have hs3 := hs2.belowStep hb
  clear hs hs2 hb P1 n0 n1 e0 e1 e2 e3 f2 hci
  have hs4 := (hs3.litInts .i64 2 [5, 0] (by simp [maxLen])).litInts .i64 2 [6] (by simp [maxLen])
  simp only [List.map_cons, List.map_nil, List.length_cons, List.length_nil, Nat.reduceAdd, World.size_alloc] at hs4
  have P1 := Lib.hid (permit_any [5, 0] exD false [6] _ _ _ _ (hs4.rdInts 1 rfl) (hs4.rdRecs 8 rfl) (hs4.rdInts 0 rfl) (by decide) (by decide))
  clear hs3
  go_wp2_with fail
  refine (P1.out).mono ?_
  rintro en w3 ⟨rfl, hb⟩
  rw [show permitB [5, 0] exD false [6] = false by decide]
  have hs5 := hs4.belowStep hb
  clear hs4 hb P1
  go_wp2_with fail
  go_ret
  exact ⟨rfl, hs5.below⟩
end Go.Proofs.Ytlbpkfjebaelpaa
