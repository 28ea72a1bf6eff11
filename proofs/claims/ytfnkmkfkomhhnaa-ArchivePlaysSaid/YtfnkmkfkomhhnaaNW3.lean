/-
  Package net: Cost, walked.
-/
import Derived.Test.YtfnkmkfkomhhnaaNSeq
namespace Go.Proofs.Ytfnkmkfkomhhnaa
open Go Go.RowKit Go.Mem Go.NetP Go.Shelf

attribute [local go_sem] Oper.semAt_some

/-- What has been summed when these edges have come. -/
def sumP (pre : List (Ed × Int)) : Int := pre.foldl (fun s x => wrap64 (s + wrap64 (x.2 * x.1.k))) 0
theorem sumP_snoc (pre : List (Ed × Int)) (x : Ed × Int) : sumP (pre ++ [x]) = wrap64 (sumP pre + wrap64 (x.2 * x.1.k)) := by simp [sumP]
theorem sumP_pairs {n : Int} {es : List Ed} {fl : List Int} (h : withinB n es fl = true) : ∀ k, k ≤ es.length → sumP (pairs es fl k) = flowCost es fl k
  | 0, _ => by simp [pairs, sumP, flowCost]
  | k + 1, hk => by
    have hlt : k < es.length := by omega
    have hl := (within_cap h).1
    have ih := sumP_pairs h k (by omega)
    have b0 := flowCost_bound h (i := k + 1) hk
    have b1 := costP_bound h hlt
    rw [pairs_succ hl hlt, sumP_snoc, ih, flowCost_succ, edAt_of hlt]
    rw [flowCost_succ, edAt_of hlt] at b0
    show wrap64 (_ + wrap64 (fl.getD k 0 * es[k].k)) = _
    rw [IntWalk.wrap64_in (fl.getD k 0 * es[k].k) ⟨by omega, by omega⟩, IntWalk.wrap64_in _ ⟨by omega, by omega⟩]
def GE (x : Ed × Int) : Prop := (-1000 ≤ x.1.k ∧ x.1.k ≤ 1000) ∧ 0 ≤ x.2 ∧ x.2 ≤ 4503599627370496

end Go.Proofs.Ytfnkmkfkomhhnaa
