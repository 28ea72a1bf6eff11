/-
  Package net, walked: node, abs, edge, Right; the product of 128 bits.
-/
import Derived.Test.YtfafecgnjjkagaaRows
import Derived.Test.YtfafecgnjjkagaaMix
import Derived.Test.YtfafecgnjjkagaaLoop
import Derived.Test.YtfafecgnjjkagaaNPlain
import Derived.WalkSpells
import Derived.WalkLawsBesides
namespace Go.Proofs.Ytfafecgnjjkagaa
open Go Go.RowKit Go.Mem Go.NetP

set_option maxHeartbeats 400000 in
theorem node_any (n : Int) (a : Option Addr) (l c : Nat) (i : Int) (w : World) : Calls Try.prog 45 #[.agg #[.int .i64 n, .slice a l c], .int .i64 i] w fun e w' => e = .returned (.bool (nodeB n i)) ∧ Below w.heap.size w w' := by
  by_cases h0 : 0 ≤ i
  · have d0 : decide (0 ≤ i) = true := by simpa using h0
    have H := Lib.hid (show decide (i < n) = nodeB n i by simp [nodeB, h0])
    go_enter Try.func45, Try.ntmps45
    go_wp2_with fail
    go_ret
    exact ⟨by rw [← H.out]; rfl, (Below.refl _ _).alloc (Nat.le_refl _) _⟩
  · have d0 : decide (0 ≤ i) = false := by simpa using h0
    have H := Lib.hid (show false = nodeB n i by simp [nodeB, h0])
    clear h0
    go_enter Try.func45, Try.ntmps45
    go_wp2_with fail
    go_ret
    exact ⟨by rw [← H.out]; rfl, (Below.refl _ _).alloc (Nat.le_refl _) _⟩

set_option maxHeartbeats 400000 in
theorem abs_any (x : Int) (hx : -1000 ≤ x ∧ x ≤ 1000) (w : World) : Calls Try.prog 41 #[.int .i64 x] w fun e w' => e = .returned (.int .u64 (absI x)) ∧ w = w' := by
  obtain ⟨h0, h1⟩ := hx
  rcases Int.lt_or_le x 0 with h | h
  rotate_left
  · have H := Lib.hid (show x = (absI x : Int) by unfold absI; omega)
    have hm : max x (-x) = x := by omega
    go_enter Try.func41, Try.ntmps41
    go_wp2_with fail
    go_ret
    exact ⟨by rw [← H.out]; rfl, rfl⟩
  · have H := Lib.hid (show -x = (absI x : Int) by unfold absI; omega)
    have hm : max x (-x) = -x := by omega
    go_enter Try.func41, Try.ntmps41
    go_wp2_with fail
    go_ret
    exact ⟨by rw [← H.out]; rfl, rfl⟩

/-! ### The product -/
theorem mlow (a : Nat) (ha : a < 18446744073709551616) : bits .and .u64 (a : Int) 4294967295 = ((a % 4294967296 : Nat) : Int) := by
  have h := bits_and_u64_nat a 4294967295 ha (by omega)
  have e : a &&& 4294967295 = a % 4294967296 := Nat.and_two_pow_sub_one_eq_mod a 32
  rw [e] at h
  exact h
theorem mhigh (a : Nat) : (a : Int) / 4294967296 = ((a / 4294967296 : Nat) : Int) := by omega
theorem mmul (a b : Nat) : (a : Int) * (b : Int) = ((a * b : Nat) : Int) := (Int.natCast_mul a b).symm
theorem madd (a b : Nat) : (a : Int) + (b : Int) = ((a + b : Nat) : Int) := (Int.natCast_add a b).symm
theorem mwrap (a : Nat) (ha : a < 18446744073709551616) : IntKind.u64.wrap (a : Int) = (a : Int) := by rw [IntKind.wrap_u64]; omega

set_option maxHeartbeats 1000000 in
/-- The product of an amount and a weight: nothing in the upper half. -/
theorem mul64_any (x y : Nat) (hx : x ≤ 4503599627370496) (hy : y ≤ 1000) (w : World) :
    Calls Try.prog 40 #[.int .u64 x, .int .u64 y] w fun e w' => e = .returned (.tuple #[.int .u64 0, .int .u64 ((x * y : Nat) : Int)]) ∧ w = w' := by
  have p1 : x % 4294967296 * y ≤ 4294967296000 := Nat.le_trans (Nat.mul_le_mul (show x % 4294967296 ≤ 4294967296 by omega) hy) (by decide)
  have p2 : x / 4294967296 * y ≤ 1048576000 := Nat.le_trans (Nat.mul_le_mul (show x / 4294967296 ≤ 1048576 by omega) hy) (by decide)
  have p3 : x * y ≤ 4503599627370496000 := Nat.mul_le_mul hx hy
  have e1 := mlow x (by omega)
  have e2 := mhigh x
  have e3 : bits .and .u64 (y : Int) 4294967295 = (y : Int) := by rw [mlow y (by omega), Nat.mod_eq_of_lt (by omega)]
  have e4 : (y : Int) / 4294967296 = 0 := by omega
  have m1 := mmul (x % 4294967296) y
  have m2 := mmul (x / 4294967296) y
  have m3 := mmul x y
  generalize x % 4294967296 * y = A at *
  generalize x / 4294967296 * y = B at *
  generalize hM : x * y = M at *
  have wA := mwrap A (by omega)
  have wB := mwrap B (by omega)
  have wM := mwrap M (by omega)
  have dA := mhigh A
  have sT := madd B (A / 4294967296)
  have hT : B + A / 4294967296 < 4294967296 := by omega
  generalize B + A / 4294967296 = T at *
  have wT := mwrap T (by omega)
  have dT : (T : Int) / 4294967296 = 0 := by omega
  have lT : bits .and .u64 (T : Int) 4294967295 = (T : Int) := by rw [mlow T (by omega), Nat.mod_eq_of_lt hT]
  have w0 : IntKind.u64.wrap 0 = 0 := by rw [IntKind.wrap_u64]; rfl
  have EQ := Lib.hid (And.intro e1 (And.intro e2 (And.intro e3 (And.intro e4 (And.intro m1 (And.intro m2 (And.intro m3 (And.intro wA (And.intro wB (And.intro wM (And.intro dA (And.intro sT (And.intro wT (And.intro dT (And.intro lT w0)))))))))))))))
  clear e1 e2 e3 e4 m1 m2 m3 wA wB wM dA sT wT dT lT w0 p1 p2 p3 hx hy hT hM
  go_enter Try.func40, Try.ntmps40
  go_wp2
  obtain ⟨e1, e2, e3, e4, m1, m2, m3, wA, wB, wM, dA, sT, wT, dT, lT, w0⟩ := EQ.out
  simp only [e1, e2, e3, e4, m1, m2, m3, wA, wB, wM, dA, sT, wT, dT, lT, w0, Int.mul_zero, Int.add_zero]
  go_ret2
  exact ⟨rfl, rfl⟩

set_option maxHeartbeats 1000000 in
theorem edge_any (n : Int) (a : Option Addr) (l c : Nat) (e : Ed) (w : World) : Calls Try.prog 39 #[.agg #[.int .i64 n, .slice a l c], .agg #[.int .i64 e.f, .int .i64 e.t, .int .i64 e.c, .int .i64 e.k]] w fun en w' => en = .returned (.bool (edgeB n e)) ∧ Below w.heap.size w w' := by
  obtain ⟨f, t, cc, k⟩ := e
  dsimp only
  have hs0 := ((Sep.start w).newCells #[.int .i64 n, .slice a l c] 24).newCells #[.int .i64 f, .int .i64 t, .int .i64 cc, .int .i64 k] 39
  simp only [World.size_alloc] at hs0
  have fin : ∀ W, Sep w W [cellsT (w.heap.size + 1) #[.int .i64 f, .int .i64 t, .int .i64 cc, .int .i64 k] 39, cellsT w.heap.size #[.int .i64 n, .slice a l c] 24] → (∀ j, W.cell? ⟨w.heap.size + 1, j, none⟩ = #[Value.int .i64 f, .int .i64 t, .int .i64 cc, .int .i64 k][j]?) ∧ (∀ j, W.cell? ⟨w.heap.size, j, none⟩ = #[Value.int .i64 n, .slice a l c][j]?) := fun W h => ⟨fun j => cell_of (h.cells 0 rfl) j, fun j => cell_of (h.cells 1 rfl) j⟩
  have FIN := Lib.hid fin
  clear fin
  go_enter Try.func39, Try.ntmps39
  go_wp2_with fail
  refine (node_any _ _ _ _ _ _).mono ?_
  rintro e w1 ⟨rfl, hb1⟩
  have hs1 := hs0.belowStep hb1
  clear hs0 hb1
  cases h1 : nodeB n f
  · have H := Lib.hid (show edgeB n ⟨f, t, cc, k⟩ = false by simp [edgeB, h1])
    clear h1
    go_wp2_with fail
    go_ret
    exact ⟨by rw [H.out]; rfl, hs1.below⟩
  · have H1 := (nodeB_iff _ _).1 h1
    clear h1
    obtain ⟨g1, g2⟩ := FIN.out _ hs1
    have c1 := g1 1
    have d0 := g2 0
    have d1 := g2 1
    simp only [List.getElem?_toArray, List.getElem?_cons_zero, List.getElem?_cons_succ] at c1 d0 d1
    clear g1 g2
    go_wp2_with fail
    refine (node_any _ _ _ _ _ _).mono ?_
    rintro e w2 ⟨rfl, hb2⟩
    have hs2 := hs1.belowStep hb2
    clear hs1 hb2 c1 d0 d1
    cases h2 : nodeB n t
    · have H := Lib.hid (show edgeB n ⟨f, t, cc, k⟩ = false by simp [edgeB, h2])
      clear h2
      go_wp2_with fail
      go_ret
      exact ⟨by rw [H.out]; rfl, hs2.below⟩
    · have H2 := (nodeB_iff _ _).1 h2
      clear h2
      obtain ⟨g1, g2⟩ := FIN.out _ hs2
      have c2 := g1 2
      have c3 := g1 3
      simp only [List.getElem?_toArray, List.getElem?_cons_zero, List.getElem?_cons_succ] at c2 c3
      clear g1 g2
      obtain ⟨H1a, H1b⟩ := H1
      obtain ⟨H2a, H2b⟩ := H2
      have hB := hs2.below
      clear hs2
      go_wp2_with fail
      all_goals
        go_ret
        refine ⟨congrArg (fun b => Ending.returned (.bool b)) ?_, hB⟩
        first
          | exact (show (false : Bool) = edgeB n ⟨f, t, cc, k⟩ from by symm; rw [Bool.eq_false_iff, Ne, edgeB_iff]; dsimp only; omega)
          | exact (show (true : Bool) = edgeB n ⟨f, t, cc, k⟩ from by symm; rw [edgeB_iff]; dsimp only; omega)
end Go.Proofs.Ytfafecgnjjkagaa
