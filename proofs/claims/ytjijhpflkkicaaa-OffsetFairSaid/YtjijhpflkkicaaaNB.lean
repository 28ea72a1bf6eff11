/-
  Package net, walked.
-/
import Derived.Test.YtjijhpflkkicaaaRows
import Derived.Test.YtjijhpflkkicaaaLB
import Derived.Test.YtjijhpflkkicaaaLA
import Derived.Test.YtjijhpflkkicaaaNA
import Derived.WalkSpells
import Derived.WalkLawsBesides
import Derived.RangeFuncNested
import Derived.RangeFuncBound
import Derived.RangeFuncCalls
import Derived.RangeFuncLeaves
import Derived.Shelf.Abstract
import Derived.Shelf.RegionOpen
import Derived.WalkKit
import Derived.OwnWalkIn
import Derived.TacticsInMore
import Derived.LoopNIn
import Derived.LoopIn
import Derived.Stop.RegionWithIn
set_option linter.unusedVariables false
set_option linter.unusedSimpArgs false
namespace Go.Proofs.Ytjijhpflkkicaaa
open Go Go.RowKit Go.Mem Go.NetP

set_option maxHeartbeats 400000 in
theorem node_any (n : Int) (a : Option Addr) (l c : Nat) (i : Int) (w : World) : Calls Try.prog 75 #[.agg #[.int .i64 n, .slice a l c], .int .i64 i] w fun e w' => e = .returned (.bool (nodeB n i)) ∧ Below w.heap.size w w' := by
  by_cases h0 : 0 ≤ i
  · have d0 : decide (0 ≤ i) = true := by simpa using h0
    have H := Lib.hid (show decide (i < n) = nodeB n i by simp [nodeB, h0])
    go_enter Try.func75, Try.ntmps75
    go_wp2_with fail
    go_ret
    exact ⟨by rw [← H.out]; rfl, (Below.refl _ _).alloc (Nat.le_refl _) _⟩
  · have d0 : decide (0 ≤ i) = false := by simpa using h0
    have H := Lib.hid (show false = nodeB n i by simp [nodeB, h0])
    clear h0
    go_enter Try.func75, Try.ntmps75
    go_wp2_with fail
    go_ret
    exact ⟨by rw [← H.out]; rfl, (Below.refl _ _).alloc (Nat.le_refl _) _⟩

set_option maxHeartbeats 400000 in
theorem abs_any (x : Int) (hx : -1000 ≤ x ∧ x ≤ 1000) (w : World) : Calls Try.prog 60 #[.int .i64 x] w fun e w' => e = .returned (.int .u64 (absI x)) ∧ w = w' := by
  obtain ⟨h0, h1⟩ := hx
  rcases Int.lt_or_le x 0 with h | h
  rotate_left
  · have H := Lib.hid (show x = (absI x : Int) by unfold absI; omega)
    have hm : max x (-x) = x := by omega
    go_enter Try.func60, Try.ntmps60
    go_wp2_with fail
    go_ret
    exact ⟨by rw [← H.out]; rfl, rfl⟩
  · have H := Lib.hid (show -x = (absI x : Int) by unfold absI; omega)
    have hm : max x (-x) = -x := by omega
    go_enter Try.func60, Try.ntmps60
    go_wp2_with fail
    go_ret
    exact ⟨by rw [← H.out]; rfl, rfl⟩

/-! ### The product -/
theorem mlow (a : Nat) (ha : a < 18446744073709551616) : bits .and .u64 (a : Int) 4294967295 = ((a % 4294967296 : Nat) : Int) := by
  have h := bits_and_u64_nat a 4294967295 ha (by omega)
  have e : a &&& 4294967295 = a % 4294967296 := Nat.and_two_pow_sub_one_eq_mod a 32
  rw [e] at h
  exact h
theorem mhigh (a : Nat) : (a : Int) / 4294967296 = ((a / 4294967296 : Nat) : Int) := by omega
theorem mmul (a b : Nat) : (a : Int) * (b : Int) = ((a * b : Nat) : Int) := (Int.natCast_mul a b).symm
theorem madd (a b : Nat) : (a : Int) + (b : Int) = ((a + b : Nat) : Int) := (Int.natCast_add a b).symm
theorem mwrap (a : Nat) (ha : a < 18446744073709551616) : IntKind.u64.wrap (a : Int) = (a : Int) := by rw [IntKind.wrap_u64]; omega

set_option maxHeartbeats 1000000 in
/-- The product of an amount and a weight: nothing in the upper half. -/
theorem mul64_any (x y : Nat) (hx : x ≤ 4503599627370496) (hy : y ≤ 1000) (w : World) :
    Calls Try.prog 59 #[.int .u64 x, .int .u64 y] w fun e w' => e = .returned (.tuple #[.int .u64 0, .int .u64 ((x * y : Nat) : Int)]) ∧ w = w' := by
  have p1 : x % 4294967296 * y ≤ 4294967296000 := Nat.le_trans (Nat.mul_le_mul (show x % 4294967296 ≤ 4294967296 by omega) hy) (by decide)
  have p2 : x / 4294967296 * y ≤ 1048576000 := Nat.le_trans (Nat.mul_le_mul (show x / 4294967296 ≤ 1048576 by omega) hy) (by decide)
  have p3 : x * y ≤ 4503599627370496000 := Nat.mul_le_mul hx hy
  have e1 := mlow x (by omega)
  have e2 := mhigh x
  have e3 : bits .and .u64 (y : Int) 4294967295 = (y : Int) := by rw [mlow y (by omega), Nat.mod_eq_of_lt (by omega)]
  have e4 : (y : Int) / 4294967296 = 0 := by omega
  have m1 := mmul (x % 4294967296) y
  have m2 := mmul (x / 4294967296) y
  have m3 := mmul x y
  generalize x % 4294967296 * y = A at *
  generalize x / 4294967296 * y = B at *
  generalize hM : x * y = M at *
  have wA := mwrap A (by omega)
  have wB := mwrap B (by omega)
  have wM := mwrap M (by omega)
  have dA := mhigh A
  have sT := madd B (A / 4294967296)
  have hT : B + A / 4294967296 < 4294967296 := by omega
  generalize B + A / 4294967296 = T at *
  have wT := mwrap T (by omega)
  have dT : (T : Int) / 4294967296 = 0 := by omega
  have lT : bits .and .u64 (T : Int) 4294967295 = (T : Int) := by rw [mlow T (by omega), Nat.mod_eq_of_lt hT]
  have w0 : IntKind.u64.wrap 0 = 0 := by rw [IntKind.wrap_u64]; rfl
  have EQ := Lib.hid (And.intro e1 (And.intro e2 (And.intro e3 (And.intro e4 (And.intro m1 (And.intro m2 (And.intro m3 (And.intro wA (And.intro wB (And.intro wM (And.intro dA (And.intro sT (And.intro wT (And.intro dT (And.intro lT w0)))))))))))))))
  clear e1 e2 e3 e4 m1 m2 m3 wA wB wM dA sT wT dT lT w0 p1 p2 p3 hx hy hT hM
  go_enter Try.func59, Try.ntmps59
  go_wp2
  obtain ⟨e1, e2, e3, e4, m1, m2, m3, wA, wB, wM, dA, sT, wT, dT, lT, w0⟩ := EQ.out
  simp only [e1, e2, e3, e4, m1, m2, m3, wA, wB, wM, dA, sT, wT, dT, lT, w0, Int.mul_zero, Int.add_zero]
  go_ret2
  exact ⟨rfl, rfl⟩

set_option maxHeartbeats 1000000 in
theorem edge_any (n : Int) (a : Option Addr) (l c : Nat) (e : Ed) (w : World) : Calls Try.prog 58 #[.agg #[.int .i64 n, .slice a l c], .agg #[.int .i64 e.f, .int .i64 e.t, .int .i64 e.c, .int .i64 e.k]] w fun en w' => en = .returned (.bool (edgeB n e)) ∧ Below w.heap.size w w' := by
  obtain ⟨f, t, cc, k⟩ := e
  dsimp only
  have hs0 := ((Sep.start w).newCells #[.int .i64 n, .slice a l c] 48).newCells #[.int .i64 f, .int .i64 t, .int .i64 cc, .int .i64 k] 77
  simp only [World.size_alloc] at hs0
  have fin : ∀ W, Sep w W [cellsT (w.heap.size + 1) #[.int .i64 f, .int .i64 t, .int .i64 cc, .int .i64 k] 77, cellsT w.heap.size #[.int .i64 n, .slice a l c] 48] → (∀ j, W.cell? ⟨w.heap.size + 1, j, none⟩ = #[Value.int .i64 f, .int .i64 t, .int .i64 cc, .int .i64 k][j]?) ∧ (∀ j, W.cell? ⟨w.heap.size, j, none⟩ = #[Value.int .i64 n, .slice a l c][j]?) := fun W h => ⟨fun j => cell_of (h.cells 0 rfl) j, fun j => cell_of (h.cells 1 rfl) j⟩
  have FIN := Lib.hid fin
  clear fin
  go_enter Try.func58, Try.ntmps58
  go_wp2_with fail
  refine (node_any _ _ _ _ _ _).mono ?_
  rintro e w1 ⟨rfl, hb1⟩
  have hs1 := hs0.belowStep hb1
  clear hs0 hb1
  cases h1 : nodeB n f
  · have H := Lib.hid (show edgeB n ⟨f, t, cc, k⟩ = false by simp [edgeB, h1])
    clear h1
    go_wp2_with fail
    go_ret
    exact ⟨by rw [H.out]; rfl, hs1.below⟩
  · have H1 := (nodeB_iff _ _).1 h1
    clear h1
    obtain ⟨g1, g2⟩ := FIN.out _ hs1
    have c1 := g1 1
    have d0 := g2 0
    have d1 := g2 1
    simp only [List.getElem?_toArray, List.getElem?_cons_zero, List.getElem?_cons_succ] at c1 d0 d1
    clear g1 g2
    go_wp2_with fail
    refine (node_any _ _ _ _ _ _).mono ?_
    rintro e w2 ⟨rfl, hb2⟩
    have hs2 := hs1.belowStep hb2
    clear hs1 hb2 c1 d0 d1
    cases h2 : nodeB n t
    · have H := Lib.hid (show edgeB n ⟨f, t, cc, k⟩ = false by simp [edgeB, h2])
      clear h2
      go_wp2_with fail
      go_ret
      exact ⟨by rw [H.out]; rfl, hs2.below⟩
    · have H2 := (nodeB_iff _ _).1 h2
      clear h2
      obtain ⟨g1, g2⟩ := FIN.out _ hs2
      have c2 := g1 2
      have c3 := g1 3
      simp only [List.getElem?_toArray, List.getElem?_cons_zero, List.getElem?_cons_succ] at c2 c3
      clear g1 g2
      obtain ⟨H1a, H1b⟩ := H1
      obtain ⟨H2a, H2b⟩ := H2
      have hB := hs2.below
      clear hs2
      go_wp2_with fail
      all_goals
        go_ret
        refine ⟨congrArg (fun b => Ending.returned (.bool b)) ?_, hB⟩
        first
          | exact (show (false : Bool) = edgeB n ⟨f, t, cc, k⟩ from by symm; rw [Bool.eq_false_iff, Ne, edgeB_iff]; dsimp only; omega)
          | exact (show (true : Bool) = edgeB n ⟨f, t, cc, k⟩ from by symm; rw [edgeB_iff]; dsimp only; omega)
end Go.Proofs.Ytjijhpflkkicaaa
namespace Go.Proofs.Ytjijhpflkkicaaa
open Go Go.RowKit Go.Mem Go.NetP

set_option maxHeartbeats 2000000 in
theorem right_any (n : Int) (a : Option Addr) (c : Nat) (es : List Ed) (w : World) (h : RdG edR w (.slice a es.length c) es) : Calls Try.prog 38 #[.agg #[.int .i64 n, .slice a es.length c]] w fun en w' => en = .returned (.bool (rightB n es)) ∧ Below w.heap.size w w' := by
  have hs0 := (Sep.start w).newCells #[.int .i64 n, .slice a es.length c] 48
  by_cases k0 : n < 1
  · have H := Lib.hid (right_n (n := n) (es := es) (.inl k0))
    go_enter Try.func38, Try.ntmps38
    go_wp2_with fail
    go_ret
    exact ⟨by rw [H.out]; rfl, hs0.below⟩
  · have d0 : decide (n < 1) = false := by simp; omega
    by_cases k1 : 40 < n
    · have H := Lib.hid (right_n (n := n) (es := es) (.inr (.inl k1)))
      go_enter Try.func38, Try.ntmps38
      go_wp2_with fail
      go_ret
      exact ⟨by rw [H.out]; rfl, hs0.below⟩
    · have d1 : decide (40 < n) = false := by simp; omega
      by_cases k2 : 200 < es.length
      · have H := Lib.hid (right_n (n := n) (es := es) (.inr (.inr k2)))
        go_enter Try.func38, Try.ntmps38
        go_wp2_with fail
        go_ret
        exact ⟨by rw [H.out]; rfl, hs0.below⟩
      · have d2 : decide (200 < (es.length : Int)) = false := by simp; omega
        have k3 : es.length ≤ 200 := by omega
        go_enter Try.func38, Try.ntmps38
        go_wp2_with fail
        refine wp_loopM [none, none, some 2, some 3, none, some 5, some 6, some 7, none, none, none, none, none, none, none, none, none, none, none, none, none, none, none, none, none, some 25, some 26, some 27, some 28, some 29, some 30, some 31, some 32, some 33, some 34, some 35, some 36, some 37, some 38, some 39, some 40, some 41, some 42, some 43, some 44, some 45, some 46, some 47, some 48, some 49, some 50, some 51, some 52, some 53] (fun (r : Nat) (f : Nat → Value) (wr : World) => (fun (v lf : Value) => ∃ (i m : Nat), v = .int .i64 i ∧ lf = .int .u64 m ∧ i ≤ es.length ∧ r = es.length - i ∧ edges n (es.take i) = true ∧ m + costs (es.take i) = 4611686018427387904 ∧ m ≤ 4611686018427387904 ∧ Sep w wr [cellsT w.heap.size #[.int .i64 n, .slice a es.length c] 48]) (f 25) (f 3)) (es.length) (by kernel_rfl) ?atStart1 ?round1
        case' atStart1 => (try dsimp only [nthV])
        case' round1 =>
          intro gk f wr l hl hrel J1 K1 hJ1 hK1
          (try simp only [mask] at hl)
          generalize f 25 = u25 at hl hrel
          generalize f 3 = u3 at hl hrel
          subst hl
          (try dsimp only at hrel)
        case atStart1 => exact ⟨0, 4611686018427387904, rfl, rfl, Nat.zero_le _, rfl, rfl, rfl, Nat.le_refl _, hs0⟩
        case round1 =>
          clear hs0
          obtain ⟨i, m, rfl, rfl, hi, rfl, he, hm, hm2, hs⟩ := hrel
          have HE := Lib.hid he
          have HM := Lib.hid hm
          clear he hm
          by_cases hlt : i < es.length
          · obtain ⟨b1, o1, e1, hb1, hc1⟩ := (hs.rdG h).at i hlt
            subst e1
            have c0 := hc1 0 (by decide)
            have c1 := hc1 1 (by decide)
            have c2 := hc1 2 (by decide)
            have c3 := hc1 3 (by decide)
            obtain ⟨e, hee⟩ : ∃ e, e = es[i] := ⟨_, rfl⟩
            rw [← hee] at c0 c1 c2 c3
            simp only [edR, Nat.add_zero, List.getElem?_cons_zero, List.getElem?_cons_succ] at c0 c1 c2 c3
            have hsA := hs.newCells #[.int .i64 e.f, .int .i64 e.t, .int .i64 e.c, .int .i64 e.k] 77
            have fin : ∀ W, Sep w W [cellsT wr.heap.size #[.int .i64 e.f, .int .i64 e.t, .int .i64 e.c, .int .i64 e.k] 77, cellsT w.heap.size #[.int .i64 n, .slice (some ⟨b1, o1, none⟩) es.length c] 48] →
                W.cell? ⟨w.heap.size, 0, none⟩ = some (.int .i64 n) ∧ W.cell? ⟨w.heap.size, 1, none⟩ = some (.slice (some ⟨b1, o1, none⟩) es.length c) ∧ W.cell? ⟨wr.heap.size, 0, none⟩ = some (.int .i64 e.f) ∧ W.cell? ⟨wr.heap.size, 1, none⟩ = some (.int .i64 e.t) ∧ W.cell? ⟨wr.heap.size, 2, none⟩ = some (.int .i64 e.c) ∧ W.cell? ⟨wr.heap.size, 3, none⟩ = some (.int .i64 e.k) :=
              fun W h => ⟨cell_of (h.cells 1 rfl) 0, cell_of (h.cells 1 rfl) 1, cell_of (h.cells 0 rfl) 0, cell_of (h.cells 0 rfl) 1, cell_of (h.cells 0 rfl) 2, cell_of (h.cells 0 rfl) 3⟩
            have FIN := Lib.hid fin
            have g0 := cell_of (hs.cells 0 rfl) 1
            simp only [List.getElem?_toArray, List.getElem?_cons_zero, List.getElem?_cons_succ] at g0
            obtain ⟨n0, n1, f0, f1, f2, f3⟩ := fin _ hsA
            have HEE := Lib.hid hee
            clear hc1 hee fin
            go_wp2_with fail
            refine (edge_any _ _ _ _ e _).mono ?_
            rintro en w1 ⟨rfl, hb⟩
            have hsB := hsA.belowStep hb
            clear hsA hb n0 n1 f0 f1 f2 f3 g0 c0 c1 c2 c3
            obtain ⟨n0, n1, f0, f1, f2, f3⟩ := FIN.out _ hsB
            cases heb : edgeB n e
            · have H := Lib.hid (right_edge (n := n) hlt (by rw [← HEE.out]; exact heb))
              clear heb
              go_wp2_with fail
              go_ret
              exact ⟨by rw [H.out]; rfl, hsB.below⟩
            · have hq := (edgeB_iff _ _).1 heb
              have HST := Lib.hid (edges_snoc hlt HE.out (by rw [← HEE.out]; exact heb))
              have HCS := Lib.hid (costs_snoc hlt)
              rw [← HEE.out] at HCS
              have hce := costE_le heb
              have HEB := Lib.hid heb
              obtain ⟨_, _, q0, q1, q2, q3⟩ := hq
              have HA := Lib.hid (absI_le ⟨q2, q3⟩)
              obtain ⟨cn, hcn⟩ : ∃ cn : Nat, e.c = cn := ⟨e.c.toNat, by omega⟩
              have hcp : cn * absI e.k = costE e := by unfold costE; rw [hcn]; rfl
              rw [hcn] at f2 q1
              have HCP := Lib.hid hcp
              have HCN := Lib.hid hcn
              clear heb hcn hcp q0
              go_wp2_with fail
              have hCW : (fun W : World => W.cell? ⟨wr.heap.size, 2, none⟩ = some (.int .i64 cn)) w1.drew := f2
              refine Mix.region [1, 1, 1, 0, 0, 2, 2, 0, 0, 0, 0, 0] (fun W : World => W.cell? ⟨wr.heap.size, 2, none⟩ = some (.int .i64 cn)) (by kernel_rfl) (by kernel_rfl) hCW ?_
              simp only [List.zip_cons_cons, List.zip_nil_right]
              (refine Mix.step1 fun K hK => ?_; go_simp; (try (go_bits; try go_simp)); first | ((with_reducible refine hK _ _ ?_); clear hK K) | ((try (simp only [IntWalk.iteOmega]; try go_simp)); (try go_bits); (with_reducible refine hK _ _ ?_); clear hK K))
              (refine Mix.step1 fun K hK => ?_; go_simp; refine ⟨fun W => ?_, hK _ _ ?_⟩; (intro hW1; (try intro hW2); (try intro hW3); (try intro hW4); (try intro hW5); (try intro hW6); (try intro hW7); (try intro hW8); go_simp); clear hK K)
              (refine Mix.step1 fun K hK => ?_; go_simp; (try (go_bits; try go_simp)); first | ((with_reducible refine hK _ _ ?_); clear hK K) | ((try (simp only [IntWalk.iteOmega]; try go_simp)); (try go_bits); (with_reducible refine hK _ _ ?_); clear hK K))
              iterate 2 (refine Mix.step0 fun K hK => ?_; go_simp; (try (go_bits; try go_simp)); first | ((with_reducible refine hK _ _ ?_); clear hK K) | ((try (simp only [IntWalk.iteOmega]; try go_simp)); (try go_bits); (with_reducible refine hK _ _ ?_); clear hK K))
              refine Mix.step2n (by first | rfl | simp [Region.wanted, yielded]) fun K hK => ?_
              go_wp2_with fail
              refine (abs_any _ ⟨q2, q3⟩ _).mono ?_
              rintro en w2 ⟨rfl, rfl⟩
              go_wp2_with fail
              refine Mix.post_mk (C := (fun W : World => W.cell? ⟨wr.heap.size, 2, none⟩ = some (.int .i64 cn))) (by first | exact hCW | exact HCW.out _) (hK _ _ ?_)
              clear hK K
              refine Mix.step2n (by first | rfl | simp [Region.wanted, yielded]) fun K hK => ?_
              go_wp2_with fail
              refine (mul64_any _ _ (by omega) HA.out _).mono ?_
              rintro en w2 ⟨rfl, rfl⟩
              rw [HCP.out]
              go_wp2_with fail
              refine Mix.post_mk (C := (fun W : World => W.cell? ⟨wr.heap.size, 2, none⟩ = some (.int .i64 cn))) (by first | exact hCW | exact HCW.out _) (hK _ _ ?_)
              clear hK K
              iterate 5 (refine Mix.step0 fun K hK => ?_; go_simp; (try (go_bits; try go_simp)); first | ((with_reducible refine hK _ _ ?_); clear hK K) | ((try (simp only [IntWalk.iteOmega]; try go_simp)); (try go_bits); (with_reducible refine hK _ _ ?_); clear hK K))
              refine Mix.done ?_
              clear hCW n0 n1 f0 f1 f2 f3
              have HSC := Lib.hid (hsB.drew.takeN 2)
              by_cases hov : m < costE e
              · have H := Lib.hid (right_cost (n := n) hlt (by rw [← HEE.out]; have := HM.out; omega))
                go_wp2_with fail
                go_ret
                exact ⟨by rw [H.out]; rfl, hsB.drew.below⟩
              · obtain ⟨m', hm'⟩ : ∃ m', m = m' + costE e := ⟨m - costE e, by omega⟩
                subst hm'
                have hcc : ((m' + costE e : Nat) : Int) - (costE e : Int) = (m' : Int) := by omega
                have HCC := Lib.hid hcc
                have hmm : m' ≤ 4611686018427387904 := by omega
                clear hcc
                go_wp2_with fail
                refine Round.intro (es.length - (i + 1)) ?measure2 (by kernel_rfl) (hJ1 _ _ _ ?rel2)
                case' rel2 => (try dsimp only [nthV])
                case measure2 => omega
                case rel2 =>
                  refine ⟨i + 1, m', by go_num, ?_, hlt, rfl, HST.out, by rw [HCS.out]; have := HM.out; omega, hmm, hsB.tail.drew⟩
                  congr 1
          · have he : i = es.length := by omega
            have H := Lib.hid (right_ok (n := n) (es := es) (by omega) (by omega) k3 (by have := HE.out; rw [he, List.take_length] at this; exact this) (by have := HM.out; rw [he, List.take_length] at this; omega))
            clear he
            go_wp2_with fail
            go_ret
            exact ⟨by rw [H.out]; rfl, hs.below⟩

set_option maxHeartbeats 2000000 in
theorem within_any (n : Int) (a : Option Addr) (c : Nat) (es : List Ed) (v : Value) (fl : List Int) (w : World) (h : RdG edR w (.slice a es.length c) es) (h' : Rd .i64 w v fl) :
    Calls Try.prog 87 #[.agg #[.int .i64 n, .slice a es.length c], v] w fun en w' => en = .returned (.bool (withinB n es fl)) ∧ Below w.heap.size w w' := by
  have hle := h'.le'
  obtain ⟨a', c', rfl⟩ := h'.shape
  have hs0 := (Sep.start w).newCells #[.int .i64 n, .slice a es.length c] 48
  have fin : ∀ W, Sep w W [cellsT w.heap.size #[.int .i64 n, .slice a es.length c] 48] → W.cell? ⟨w.heap.size, 0, none⟩ = some (.int .i64 n) ∧ W.cell? ⟨w.heap.size, 1, none⟩ = some (.slice a es.length c) :=
    fun W h => ⟨cell_of (h.cells 0 rfl) 0, cell_of (h.cells 0 rfl) 1⟩
  have FIN := Lib.hid fin
  obtain ⟨n0, n1⟩ := fin _ hs0
  clear fin
  by_cases hl : fl.length = es.length
  · have d0 : ((fl.length : Int) != (es.length : Int)) = false := by rw [hl]; simp
    have HL := Lib.hid hl
    clear hl
    go_enter Try.func87, Try.ntmps87
    go_wp2_with fail
    refine (right_any _ _ _ es _ (hs0.rdG h)).mono ?_
    rintro en w1 ⟨rfl, hb1⟩
    have hs1 := hs0.belowStep hb1
    clear hs0 hb1 n0 n1
    cases hr : rightB n es
    · have H := Lib.hid (show withinB n es fl = false by simp [withinB, hr])
      clear hr
      go_wp2_with fail
      go_ret
      exact ⟨by rw [H.out]; rfl, hs1.below⟩
    · have HR := Lib.hid hr
      clear hr
      go_wp2_with fail
      refine wp_loopM [none, none, none, none, some 4, some 5, some 6, none, none, none, none, none, none, none, none, none, none, none, none, none, some 20, some 21, some 22, some 23, some 24, some 25, some 26, some 27, some 28, some 29, some 30, some 31, some 32, some 33, some 34, some 35, some 36, some 37] (fun (r : Nat) (f : Nat → Value) (wr : World) => (fun (v : Value) => ∃ i : Nat, v = .int .i64 i ∧ i ≤ fl.length ∧ r = fl.length - i ∧ (∀ j, j < i → capB es fl j = true) ∧ Sep w wr [cellsT w.heap.size #[.int .i64 n, .slice a es.length c] 48]) (f 20)) (fl.length) (by kernel_rfl) ?atStart3 ?round3
      case' atStart3 => (try dsimp only [nthV])
      case' round3 =>
        intro gk f wr l hl hrel J1 K1 hJ1 hK1
        (try simp only [mask] at hl)
        generalize f 20 = u20 at hl hrel
        subst hl
        (try dsimp only at hrel)
      case atStart3 => exact ⟨0, rfl, Nat.zero_le _, rfl, by simp, hs1⟩
      case round3 =>
        clear hs1
        obtain ⟨i, rfl, hi, rfl, hcp, hs⟩ := hrel
        have HCP := Lib.hid hcp
        clear hcp
        by_cases hlt : i < fl.length
        · have hle2 : i < es.length := by rw [← HL.out]; exact hlt
          obtain ⟨b1, o1, e1, hb1, hc1⟩ := (hs.rdG h).at i hle2
          obtain ⟨b2, o2, e2, hb2, hx⟩ := (hs.rd h').at i hlt
          subst e1; subst e2
          have c2 := hc1 2 (by decide)
          obtain ⟨e, hee⟩ : ∃ e, e = es[i] := ⟨_, rfl⟩
          rw [← hee] at c2
          simp only [edR, Nat.add_zero, List.getElem?_cons_zero, List.getElem?_cons_succ] at c2
          obtain ⟨x, hxe⟩ : ∃ x, x = fl.getD i 0 := ⟨_, rfl⟩
          rw [← hxe] at hx
          have hcap : capB es fl i = (decide (0 ≤ x) && decide (x ≤ e.c)) := by rw [hxe, hee]; exact capB_at hle2
          have HCAP := Lib.hid hcap
          obtain ⟨n0, n1⟩ := FIN.out _ hs
          clear hc1 hee hxe hcap
          by_cases k0 : x < 0
          · have H := Lib.hid (within_no (n := n) hlt hle2 (by rw [HCAP.out]; simp; omega))
            go_wp2_with fail
            go_ret
            exact ⟨by rw [H.out]; rfl, hs.below⟩
          · have d0 : decide (x < 0) = false := by simp; omega
            by_cases k1 : e.c < x
            · have H := Lib.hid (within_no (n := n) hlt hle2 (by rw [HCAP.out]; simp; omega))
              go_wp2_with fail
              go_ret
              exact ⟨by rw [H.out]; rfl, hs.below⟩
            · have d1 : decide (e.c < x) = false := by simp; omega
              go_wp2_with fail
              refine Round.intro (fl.length - (i + 1)) ?measure4 (by kernel_rfl) (hJ1 _ _ _ ?rel4)
              case' rel4 => (try dsimp only [nthV])
              case measure4 => omega
              case rel4 =>
                refine ⟨i + 1, by go_num, hlt, rfl, fun j hj => ?_, hs⟩
                by_cases hji : j = i
                · subst hji; rw [HCAP.out]; simp; omega
                · exact HCP.out j (by omega)
        · have H := Lib.hid (within_ok HL.out HR.out (fun j hj => HCP.out j (by omega)))
          go_wp2_with fail
          go_ret
          exact ⟨by rw [H.out]; rfl, hs.below⟩
  · have d0 : ((fl.length : Int) != (es.length : Int)) = true := by rw [bne_iff_ne]; omega
    have d1 : ((fl.length : Int) == (es.length : Int)) = false := by rw [beq_eq_false_iff_ne]; omega
    have H := Lib.hid (show withinB n es fl = false by simp [withinB, hl])
    clear hl
    go_enter Try.func87, Try.ntmps87
    go_wp2_with fail
    go_ret
    exact ⟨by rw [H.out]; rfl, hs0.below⟩
end Go.Proofs.Ytjijhpflkkicaaa
namespace Go.Proofs.Ytjijhpflkkicaaa
open Go Go.RowKit Go.Mem Go.NetP Go.Shelf

attribute [local go_sem] Oper.semAt_some

/-- What comes: each edge, and the number on it. -/
def pairs (es : List Ed) (fl : List Int) (k : Nat) : List (Ed × Int) := (es.zip fl).take k
def encE (x : Ed × Int) : Array Value := #[.agg #[.int .i64 x.1.f, .int .i64 x.1.t, .int .i64 x.1.c, .int .i64 x.1.k], .int .i64 x.2]

/-- A round's two ways out, under one name. -/
def Out (J Jx : List (Ed × Int) → World → Prop) (N : Nat) (S : Nat → Prop) (p : List (Ed × Int)) (W : World) (b : Bool) (W' : World) : Prop := (b = true ∧ J p W' ∧ KeepX N S W W') ∨ (b = false ∧ Jx p W')

end Go.Proofs.Ytjijhpflkkicaaa
namespace Go.Proofs.Ytjijhpflkkicaaa
open Go Go.RowKit Go.Mem Go.NetP Go.Shelf

attribute [local go_sem] Oper.semAt_some

/-- What has been summed when these edges have come. -/
def sumP (pre : List (Ed × Int)) : Int := pre.foldl (fun s x => wrap64 (s + wrap64 (x.2 * x.1.k))) 0
def GE (x : Ed × Int) : Prop := (-1000 ≤ x.1.k ∧ x.1.k ≤ 1000) ∧ 0 ≤ x.2 ∧ x.2 ≤ 4503599627370496

end Go.Proofs.Ytjijhpflkkicaaa
namespace Go.Proofs.Ytjijhpflkkicaaa
open Go Go.RowKit Go.Mem Go.NetP Go.Shelf

attribute [local go_sem] Oper.semAt_some

/-- What has come to node u when these edges have come. -/
def overP (u : Nat) (pre : List (Ed × Int)) : Int := (pre.map fun x => gain (decide (x.1.t = (u : Int))) x.2 - gain (decide (x.1.f = (u : Int))) x.2).sum
def outP (N : Nat) (pre : List (Ed × Int)) : List Int := (List.range N).map fun u => overP u pre
def GO (n : Int) (x : Ed × Int) : Prop := (0 ≤ x.1.f ∧ x.1.f < n) ∧ (0 ≤ x.1.t ∧ x.1.t < n) ∧ 0 ≤ x.2 ∧ x.2 ≤ 4503599627370496
end Go.Proofs.Ytjijhpflkkicaaa
namespace Go.Proofs.Ytjijhpflkkicaaa
open Go Go.RowKit Go.Mem Go.NetP

end Go.Proofs.Ytjijhpflkkicaaa
