/-
  Package net, walked.
-/
import Derived.Test.YthcmkljdhhepgaaRows
import Derived.Test.YthcmkljdhhepgaaLB
import Derived.Test.YthcmkljdhhepgaaLA
import Derived.Test.YthcmkljdhhepgaaNA
import Derived.WalkSpells
import Derived.WalkLawsBesides
import Derived.RangeFuncNested
import Derived.RangeFuncBound
import Derived.RangeFuncCalls
import Derived.RangeFuncLeaves
import Derived.Shelf.Abstract
import Derived.Shelf.RegionOpen
import Derived.WalkKit
import Derived.OwnWalkIn
import Derived.TacticsInMore
import Derived.LoopNIn
import Derived.LoopIn
import Derived.Stop.RegionWithIn
set_option linter.unusedVariables false
set_option linter.unusedSimpArgs false
namespace Go.Proofs.Ythcmkljdhhepgaa
open Go Go.RowKit Go.Mem Go.NetP

/-! ### The product -/
theorem mlow (a : Nat) (ha : a < 18446744073709551616) : bits .and .u64 (a : Int) 4294967295 = ((a % 4294967296 : Nat) : Int) := by
  have h := bits_and_u64_nat a 4294967295 ha (by omega)
  have e : a &&& 4294967295 = a % 4294967296 := Nat.and_two_pow_sub_one_eq_mod a 32
  rw [e] at h
  exact h
theorem mhigh (a : Nat) : (a : Int) / 4294967296 = ((a / 4294967296 : Nat) : Int) := by omega
theorem mmul (a b : Nat) : (a : Int) * (b : Int) = ((a * b : Nat) : Int) := (Int.natCast_mul a b).symm
theorem madd (a b : Nat) : (a : Int) + (b : Int) = ((a + b : Nat) : Int) := (Int.natCast_add a b).symm
theorem mwrap (a : Nat) (ha : a < 18446744073709551616) : IntKind.u64.wrap (a : Int) = (a : Int) := by rw [IntKind.wrap_u64]; omega

end Go.Proofs.Ythcmkljdhhepgaa
namespace Go.Proofs.Ythcmkljdhhepgaa
open Go Go.RowKit Go.Mem Go.NetP

end Go.Proofs.Ythcmkljdhhepgaa
namespace Go.Proofs.Ythcmkljdhhepgaa
open Go Go.RowKit Go.Mem Go.NetP Go.Shelf

attribute [local go_sem] Oper.semAt_some

/-- What comes: each edge, and the number on it. -/
def pairs (es : List Ed) (fl : List Int) (k : Nat) : List (Ed × Int) := (es.zip fl).take k
theorem pairs_succ {es : List Ed} {fl : List Int} (hl : fl.length = es.length) {k : Nat} (hk : k < es.length) : pairs es fl (k + 1) = pairs es fl k ++ [(es[k], fl.getD k 0)] := by
  have h : k < (es.zip fl).length := by simp; omega
  have h2 : k < fl.length := by omega
  unfold pairs
  rw [List.take_succ_eq_append_getElem h]
  simp [h2]
def encE (x : Ed × Int) : Array Value := #[.agg #[.int .i64 x.1.f, .int .i64 x.1.t, .int .i64 x.1.c, .int .i64 x.1.k], .int .i64 x.2]

/-- A round's two ways out, under one name. -/
def Out (J Jx : List (Ed × Int) → World → Prop) (N : Nat) (S : Nat → Prop) (p : List (Ed × Int)) (W : World) (b : Bool) (W' : World) : Prop := (b = true ∧ J p W' ∧ KeepX N S W W') ∨ (b = false ∧ Jx p W')

end Go.Proofs.Ythcmkljdhhepgaa
namespace Go.Proofs.Ythcmkljdhhepgaa
open Go Go.RowKit Go.Mem Go.NetP Go.Shelf

attribute [local go_sem] Oper.semAt_some

/-- What has been summed when these edges have come. -/
def sumP (pre : List (Ed × Int)) : Int := pre.foldl (fun s x => wrap64 (s + wrap64 (x.2 * x.1.k))) 0
theorem sumP_snoc (pre : List (Ed × Int)) (x : Ed × Int) : sumP (pre ++ [x]) = wrap64 (sumP pre + wrap64 (x.2 * x.1.k)) := by simp [sumP]
theorem sumP_pairs {n : Int} {es : List Ed} {fl : List Int} (h : withinB n es fl = true) : ∀ k, k ≤ es.length → sumP (pairs es fl k) = flowCost es fl k
  | 0, _ => by simp [pairs, sumP, flowCost]
  | k + 1, hk => by
    have hlt : k < es.length := by omega
    have hl := (within_cap h).1
    have ih := sumP_pairs h k (by omega)
    have b0 := flowCost_bound h (i := k + 1) hk
    have b1 := costP_bound h hlt
    rw [pairs_succ hl hlt, sumP_snoc, ih, flowCost_succ, edAt_of hlt]
    rw [flowCost_succ, edAt_of hlt] at b0
    show wrap64 (_ + wrap64 (fl.getD k 0 * es[k].k)) = _
    rw [IntWalk.wrap64_in (fl.getD k 0 * es[k].k) ⟨by omega, by omega⟩, IntWalk.wrap64_in _ ⟨by omega, by omega⟩]
def GE (x : Ed × Int) : Prop := (-1000 ≤ x.1.k ∧ x.1.k ≤ 1000) ∧ 0 ≤ x.2 ∧ x.2 ≤ 4503599627370496

end Go.Proofs.Ythcmkljdhhepgaa
namespace Go.Proofs.Ythcmkljdhhepgaa
open Go Go.RowKit Go.Mem Go.NetP Go.Shelf

attribute [local go_sem] Oper.semAt_some

theorem Try.infoI64' : (Try.prog.info? 2).map (fun i => (i.zero, i.size, i.bytes)) = some (some (.int .i64 0), 1, 8) := by kernel_rfl

/-- What has come to node u when these edges have come. -/
def overP (u : Nat) (pre : List (Ed × Int)) : Int := (pre.map fun x => gain (decide (x.1.t = (u : Int))) x.2 - gain (decide (x.1.f = (u : Int))) x.2).sum
def outP (N : Nat) (pre : List (Ed × Int)) : List Int := (List.range N).map fun u => overP u pre
theorem overP_snoc (u : Nat) (pre : List (Ed × Int)) (x : Ed × Int) : overP u (pre ++ [x]) = overP u pre + (gain (decide (x.1.t = (u : Int))) x.2 - gain (decide (x.1.f = (u : Int))) x.2) := by simp [overP, List.sum_append]
theorem overP_pairs {es : List Ed} {fl : List Int} (u : Nat) (hl : fl.length = es.length) : ∀ k, k ≤ es.length → overP u (pairs es fl k) = overAt es fl u k
  | 0, _ => by simp [pairs, overP, overAt]
  | k + 1, hk => by
    have hlt : k < es.length := by omega
    rw [pairs_succ hl hlt, overP_snoc, overP_pairs u hl k (by omega), overAt_succ, edAt_of hlt]; dsimp only; omega
theorem outP_pairs {N : Nat} {es : List Ed} {fl : List Int} (hl : fl.length = es.length) : outP N (pairs es fl es.length) = overL N es fl := by
  unfold outP overL
  refine List.map_congr_left fun u _ => ?_
  rw [overP_pairs u hl _ (Nat.le_refl _), hl]
theorem outP_length (N : Nat) (pre : List (Ed × Int)) : (outP N pre).length = N := by simp [outP]
theorem outP_get {N u : Nat} (pre : List (Ed × Int)) (h : u < N) : (outP N pre).getD u 0 = overP u pre := by simp [outP, h]
theorem outP_ne {N F T : Nat} (pre : List (Ed × Int)) (c k y : Int) (hF : F < N) (hT : T < N) (hne : F ≠ T) :
    ((outP N pre).set F (overP F pre - y)).set T (overP T pre + y) = outP N (pre ++ [(⟨F, T, c, k⟩, y)]) := by
  refine List.ext_getElem (by simp [outP]) fun i h1 h2 => ?_
  have hi : i < N := by simpa [outP] using h1
  rw [List.getElem_set, List.getElem_set]
  simp only [outP, List.getElem_map, List.getElem_range, overP_snoc, gain, decide_eq_true_eq]
  by_cases h1 : T = i
  · subst h1
    have : ¬ (F : Int) = (T : Int) := by omega
    simp [this]
  · by_cases h2 : F = i
    · subst h2
      have : ¬ (T : Int) = (F : Int) := by omega
      simp [this, h1]; omega
    · have a1 : ¬ (T : Int) = (i : Int) := by omega
      have a2 : ¬ (F : Int) = (i : Int) := by omega
      simp [h1, h2, a1, a2]
theorem outP_eq {N F : Nat} (pre : List (Ed × Int)) (c k y : Int) (hF : F < N) :
    ((outP N pre).set F (overP F pre - y)).set F (overP F pre) = outP N (pre ++ [(⟨F, F, c, k⟩, y)]) := by
  refine List.ext_getElem (by simp [outP]) fun i h1 h2 => ?_
  have hi : i < N := by simpa [outP] using h1
  rw [List.getElem_set, List.getElem_set]
  simp only [outP, List.getElem_map, List.getElem_range, overP_snoc]
  by_cases h1 : F = i
  · subst h1; simp
  · simp [h1]
def GO (n : Int) (x : Ed × Int) : Prop := (0 ≤ x.1.f ∧ x.1.f < n) ∧ (0 ≤ x.1.t ∧ x.1.t < n) ∧ 0 ≤ x.2 ∧ x.2 ≤ 4503599627370496
theorem overP_bound {n : Int} (u : Nat) (p : List { x // GO n x }) : -(p.length * 4503599627370496 : Int) ≤ overP u (p.map Subtype.val) ∧ overP u (p.map Subtype.val) ≤ p.length * 4503599627370496 := by
  induction p with
  | nil => simp [overP]
  | cons x p ih =>
    obtain ⟨_, _, h0, h1⟩ := x.2
    have p1 := gain_bound (decide (x.1.1.t = (u : Int))) x.1.2 h0
    have p2 := gain_bound (decide (x.1.1.f = (u : Int))) x.1.2 h0
    have e : overP u ((x :: p).map Subtype.val) = (gain (decide (x.1.1.t = (u : Int))) x.1.2 - gain (decide (x.1.1.f = (u : Int))) x.1.2) + overP u (p.map Subtype.val) := by simp [overP]
    rw [e, List.length_cons]
    omega

end Go.Proofs.Ythcmkljdhhepgaa
namespace Go.Proofs.Ythcmkljdhhepgaa
open Go Go.RowKit Go.Mem Go.NetP

end Go.Proofs.Ythcmkljdhhepgaa
