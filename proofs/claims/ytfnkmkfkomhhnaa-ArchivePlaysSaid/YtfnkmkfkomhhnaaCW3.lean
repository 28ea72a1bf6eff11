/-
  Package cert, walked: Gap. The reference's Length, Fits, Check, Gap.
-/
import Derived.Test.YtfnkmkfkomhhnaaCW2
import Derived.Test.YtfnkmkfkomhhnaaRRef
import Derived.Test.YtfnkmkfkomhhnaaNRef5W
import Derived.Test.YtfnkmkfkomhhnaaNRef3W
namespace Go.Proofs.Ytfnkmkfkomhhnaa
open Go Go.RowKit Go.Mem Go.NetP Go.RestP Go.CertP Go.Shelf

theorem cost_bound2 {n : Int} {es : List Ed} {x : List Int} (hx : withinB n es x = true) : -4611686018427387904 ≤ costV n es x ∧ costV n es x ≤ 4611686018427387904 := by
  unfold costV
  rw [if_pos hx]
  exact flowCost_bound hx (by rw [(within_cap hx).1]; exact Nat.le_refl _)
set_option maxHeartbeats 1000000 in
theorem rlen_any (n : Int) (a : Option Addr) (c : Nat) (es : List Ed) (v : Value) (pot : List Int) (i : Nat) (w : World) (h : RdG edR w (.slice a es.length c) es) (hp : Rd .i64 w v pot) (hr : rightB n es = true) (hi : i < 2 * es.length) (hpot : potB n pot = true) :
    Calls Try.prog 38 #[.agg #[.int .i64 n, .slice a es.length c], v, .int .i64 i] w fun en w' => en = .returned (.int .i64 (lenA es pot i)) ∧ Below w.heap.size w w' := by
  obtain ⟨ap, cp, rfl⟩ := hp.shape
  have he : es.length ≤ 200 := (right_cap hr).2.2.1
  have hs := (Sep.start w).newCells #[.int .i64 n, .slice a es.length c] 34
  have hh : hasB es.length (i : Int) = true := by rw [hasB_iff]; omega
  have hend : endsV n es i = endsE es i := by rw [endsV, if_pos (by rw [hh, hr]; rfl), Int.toNat_natCast]
  have hnode := ends_node hr hi
  obtain ⟨hpl, hpb⟩ := pot_cap hpot
  obtain ⟨f, hf'⟩ : ∃ f : Nat, (endsE es i).1 = f := ⟨(endsE es i).1.toNat, by omega⟩
  obtain ⟨t, ht'⟩ : ∃ t : Nat, (endsE es i).2.1 = t := ⟨(endsE es i).2.1.toNat, by omega⟩
  obtain ⟨K, hK'⟩ : ∃ K, (endsE es i).2.2 = K := ⟨_, rfl⟩
  have hlen : lenA es pot i = K + pot.getD f 0 - pot.getD t 0 := by
    unfold lenA potAt
    rw [hf', ht', hK', Int.toNat_natCast, Int.toNat_natCast]
  rw [hf', ht', hK'] at hnode
  have hfl : f < pot.length := by omega
  have htl : t < pot.length := by omega
  have hk0 : -1000 ≤ K := by omega
  have hk1 : K ≤ 1000 := by omega
  have hP := hpb f
  have hQ := hpb t
  have HEND := Lib.hid (show endsV n es i = ((f : Int), (t : Int), K) by rw [hend, ← hf', ← ht', ← hK'])
  obtain ⟨b1, o1, e1, hb1, hc1⟩ := hp.at f hfl
  obtain ⟨b2, o2, e2, hb2, hc2⟩ := hp.at t htl
  subst e1
  injection e2 with e2
  injection e2 with e2 e3
  subst e2
  subst e3
  obtain ⟨P, hPn⟩ : ∃ P, P = pot.getD f 0 := ⟨_, rfl⟩
  obtain ⟨Q, hQn⟩ : ∃ Q, Q = pot.getD t 0 := ⟨_, rfl⟩
  rw [← hPn] at hlen hc1 hP
  rw [← hQn] at hlen hc2 hQ
  have HLEN := Lib.hid hlen
  clear hh hend hnode hpl hpb hf' ht' hK' hlen hPn hQn hr hpot
  obtain ⟨hP0, hP1⟩ := hP
  obtain ⟨hQ0, hQ1⟩ := hQ
  go_enter Try.func38, Try.ntmps38
  go_wp2_with fail
  refine (rends_any n a c es i _ (hs.rdG h) (by omega)).mono ?_
  rintro en w2 ⟨rfl, hb⟩
  rw [HEND.out]
  replace hs := hs.belowStep hb
  clear hb
  have x1 := (hs.cell hb1).trans hc1
  have x2 := (hs.cell hb1).trans hc2
  go_wp2_with fail
  refine Mix.region [0, 0, 0, 0, 0, 0, 0, 0, 0, 0, 0, 0] (fun _ => True) (by kernel_rfl) (by kernel_rfl) trivial ?_
  simp only [List.zip_cons_cons, List.zip_nil_right]
  iterate 12 (refine Mix.step0 fun K hK => ?_; go_simp; (try (go_bits; try go_simp)); first | ((with_reducible refine hK _ _ ?_); clear hK K) | ((try (simp only [IntWalk.iteOmega]; try go_simp)); (try go_bits); (with_reducible refine hK _ _ ?_); clear hK K))
  refine Mix.done ?_
  go_wp2_with fail
  go_ret
  exact ⟨by rw [HLEN.out]; rfl, hs.drew.below⟩
end Go.Proofs.Ytfnkmkfkomhhnaa
