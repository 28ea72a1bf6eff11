/-
  Package cert, walked: Gap. The reference's Length, Fits, Check, Gap.
-/
import Derived.Test.YtlladdkchhndiaaCW2
import Derived.Test.YtlladdkchhndiaaRRef
import Derived.Test.YtlladdkchhndiaaNRef5W
import Derived.Test.YtlladdkchhndiaaNRef3W
namespace Go.Proofs.Ytlladdkchhndiaa
open Go Go.RowKit Go.Mem Go.NetP Go.RestP Go.CertP Go.Shelf

theorem cost_bound2 {n : Int} {es : List Ed} {x : List Int} (hx : withinB n es x = true) : -4611686018427387904 ≤ costV n es x ∧ costV n es x ≤ 4611686018427387904 := by
  unfold costV
  rw [if_pos hx]
  exact flowCost_bound hx (by rw [(within_cap hx).1]; exact Nat.le_refl _)
set_option maxHeartbeats 2000000 in
theorem gap_any (n : Int) (a : Option Addr) (c : Nat) (es : List Ed) (vf : Value) (fl : List Int) (vp : Value) (pot : List Int) (vx : Value) (x : List Int) (w : World) (h : RdG edR w (.slice a es.length c) es) (hf : Rd .i64 w vf fl) (hp : Rd .i64 w vp pot) (hx : Rd .i64 w vx x) :
    Calls Try.prog 8 #[.agg #[.int .i64 n, .slice a es.length c], .agg #[vf, vp], vx] w fun en w' => en = .returned (.tuple #[.int .i64 (gapV n es fl pot x), .bool (gapB n es fl pot x)]) ∧ Below w.heap.size w w' := by
  obtain ⟨af, cf, rfl⟩ := hf.shape
  obtain ⟨ap, cp, rfl⟩ := hp.shape
  obtain ⟨ax, cx, rfl⟩ := hx.shape
  have hs := ((Sep.start w).newCells #[.int .i64 n, .slice a es.length c] 24).newCells #[.slice af fl.length cf, .slice ap pot.length cp] 27
  simp only [World.size_alloc] at hs
  cases hfl : flowsB n es x
  · have HG := Lib.hid (show gapV n es fl pot x = 0 ∧ gapB n es fl pot x = false by simp [gapV, gapB, hfl])
    have HFL := Lib.hid hfl
    clear hfl
    go_enter Try.func8, Try.ntmps8
    go_wp2_with fail
    refine (flows_any n a c es _ x _ (hs.rdG h) (hs.rd hx)).mono ?_
    rintro en w1 ⟨rfl, hb⟩
    rw [HFL.out]
    replace hs := hs.belowStep hb
    clear hb
    go_wp2_with fail
    go_ret2
    exact ⟨by rw [HG.out.1, HG.out.2]; rfl, hs.below⟩
  · cases hch : checkB n es fl pot
    · have HG := Lib.hid (show gapV n es fl pot x = 0 ∧ gapB n es fl pot x = false by simp [gapV, gapB, hch])
      have HFL := Lib.hid hfl
      have HCH := Lib.hid hch
      clear hfl hch
      go_enter Try.func8, Try.ntmps8
      go_wp2_with fail
      refine (flows_any n a c es _ x _ (hs.rdG h) (hs.rd hx)).mono ?_
      rintro en w1 ⟨rfl, hb⟩
      rw [HFL.out]
      replace hs := hs.belowStep hb
      clear hb
      have n0 := cell_of (hs.cells 1 rfl) 0
      have n1 := cell_of (hs.cells 1 rfl) 1
      have c0 := cell_of (hs.cells 0 rfl) 0
      have c1 := cell_of (hs.cells 0 rfl) 1
      simp only [List.getElem?_toArray, List.getElem?_cons_zero, List.getElem?_cons_succ] at n0 n1 c0 c1
      go_wp2_with fail
      refine (check_any n a c es _ fl _ pot _ (hs.rdG h) (hs.rd hf) (hs.rd hp)).mono ?_
      rintro en w2 ⟨rfl, hb⟩
      rw [HCH.out]
      replace hs := hs.belowStep hb
      clear hb
      go_wp2_with fail
      go_ret2
      exact ⟨by rw [HG.out.1, HG.out.2]; rfl, hs.below⟩
    · obtain ⟨D, hD⟩ : ∃ D, D = costV n es x := ⟨_, rfl⟩
      obtain ⟨F, hF⟩ : ∃ F, F = costV n es fl := ⟨_, rfl⟩
      have hd := cost_diff (flows_within hfl) (flows_within (check_flows hch).2.1)
      have hd1 := cost_bound2 (flows_within hfl)
      have hd2 := cost_bound2 (flows_within (check_flows hch).2.1)
      rw [← hD, ← hF] at hd
      rw [← hD] at hd1
      rw [← hF] at hd2
      have HG := Lib.hid (show gapV n es fl pot x = D - F ∧ gapB n es fl pot x = true by
        have : gapB n es fl pot x = true := by simp [gapB, hfl, hch]
        exact ⟨by unfold gapV; rw [if_pos this, hD, hF], this⟩)
      have HDD := Lib.hid hD
      have HFF := Lib.hid hF
      have HCH := Lib.hid hch
      have HFL := Lib.hid hfl
      obtain ⟨g0, g1⟩ := hd
      obtain ⟨g2, g3⟩ := hd1
      obtain ⟨g4, g5⟩ := hd2
      clear hD hF hch hfl
      go_enter Try.func8, Try.ntmps8
      go_wp2_with fail
      refine (flows_any n a c es _ x _ (hs.rdG h) (hs.rd hx)).mono ?_
      rintro en w1 ⟨rfl, hb⟩
      rw [HFL.out]
      replace hs := hs.belowStep hb
      clear hb
      have n0 := cell_of (hs.cells 1 rfl) 0
      have n1 := cell_of (hs.cells 1 rfl) 1
      have c0 := cell_of (hs.cells 0 rfl) 0
      have c1 := cell_of (hs.cells 0 rfl) 1
      simp only [List.getElem?_toArray, List.getElem?_cons_zero, List.getElem?_cons_succ] at n0 n1 c0 c1
      go_wp2_with fail
      refine (check_any n a c es _ fl _ pot _ (hs.rdG h) (hs.rd hf) (hs.rd hp)).mono ?_
      rintro en w2 ⟨rfl, hb⟩
      rw [HCH.out]
      replace hs := hs.belowStep hb
      clear hb
      clear n0 n1 c0 c1
      have n0 := cell_of (hs.cells 1 rfl) 0
      have n1 := cell_of (hs.cells 1 rfl) 1
      have c0 := cell_of (hs.cells 0 rfl) 0
      have c1 := cell_of (hs.cells 0 rfl) 1
      simp only [List.getElem?_toArray, List.getElem?_cons_zero, List.getElem?_cons_succ] at n0 n1 c0 c1
      clear c1
      go_wp2_with fail
      have hCW := (show (fun W : World => W.cell? ⟨w.heap.size, 0, none⟩ = some (.int .i64 n) ∧ W.cell? ⟨w.heap.size, 1, none⟩ = some (.slice a es.length c) ∧ W.cell? ⟨w.heap.size + 1, 0, none⟩ = some (.slice af fl.length cf)) _ from ⟨n0, n1, c0⟩)
      refine Mix.region [0, 0, 2, 1, 1, 1, 2, 0, 0, 0] (fun W : World => W.cell? ⟨w.heap.size, 0, none⟩ = some (.int .i64 n) ∧ W.cell? ⟨w.heap.size, 1, none⟩ = some (.slice a es.length c) ∧ W.cell? ⟨w.heap.size + 1, 0, none⟩ = some (.slice af fl.length cf)) (by kernel_rfl) (by kernel_rfl) hCW ?_
      simp only [List.zip_cons_cons, List.zip_nil_right]
      iterate 2 (refine Mix.step0 fun K hK => ?_; go_simp; (try (go_bits; try go_simp)); first | ((with_reducible refine hK _ _ ?_); clear hK K) | ((try (simp only [IntWalk.iteOmega]; try go_simp)); (try go_bits); (with_reducible refine hK _ _ ?_); clear hK K))
      refine Mix.step2n (by first | rfl | simp [Region.wanted, yielded]) fun K hK => ?_
      go_wp2_with fail
      replace hs := hs.drew
      refine (cost_any n a c es _ x _ (hs.rdG h) (hs.rd hx)).mono ?_
      rintro en w5 ⟨rfl, hb⟩
      rw [← HDD.out]
      clear hCW n0 n1 c0
      replace hs := hs.belowStep hb
      clear hb
      have n0 := cell_of (hs.cells 1 rfl) 0
      have n1 := cell_of (hs.cells 1 rfl) 1
      have c0 := cell_of (hs.cells 0 rfl) 0
      have c1 := cell_of (hs.cells 0 rfl) 1
      simp only [List.getElem?_toArray, List.getElem?_cons_zero, List.getElem?_cons_succ] at n0 n1 c0 c1
      clear c1
      have hCW := (show (fun W : World => W.cell? ⟨w.heap.size, 0, none⟩ = some (.int .i64 n) ∧ W.cell? ⟨w.heap.size, 1, none⟩ = some (.slice a es.length c) ∧ W.cell? ⟨w.heap.size + 1, 0, none⟩ = some (.slice af fl.length cf)) _ from ⟨n0, n1, c0⟩)
      go_wp2_with fail
      refine Mix.post_mk (C := (fun W : World => W.cell? ⟨w.heap.size, 0, none⟩ = some (.int .i64 n) ∧ W.cell? ⟨w.heap.size, 1, none⟩ = some (.slice a es.length c) ∧ W.cell? ⟨w.heap.size + 1, 0, none⟩ = some (.slice af fl.length cf))) (by first | exact hCW | exact HCW.out _) (hK _ _ ?_)
      clear hK K
      (refine Mix.step1 fun K hK => ?_; go_simp; refine ⟨fun W => ?_, hK _ _ ?_⟩; (intro hW1; (try intro hW2); (try intro hW3); (try intro hW4); (try intro hW5); (try intro hW6); (try intro hW7); (try intro hW8); go_simp); clear hK K)
      (refine Mix.step1 fun K hK => ?_; go_simp; (try (go_bits; try go_simp)); first | ((with_reducible refine hK _ _ ?_); clear hK K) | ((try (simp only [IntWalk.iteOmega]; try go_simp)); (try go_bits); (with_reducible refine hK _ _ ?_); clear hK K))
      (refine Mix.step1 fun K hK => ?_; go_simp; refine ⟨fun W => ?_, hK _ _ ?_⟩; (intro hW1; (try intro hW2); (try intro hW3); (try intro hW4); (try intro hW5); (try intro hW6); (try intro hW7); (try intro hW8); go_simp); clear hK K)
      refine Mix.step2n (by first | rfl | simp [Region.wanted, yielded]) fun K hK => ?_
      go_wp2_with fail
      refine (cost_any n a c es _ fl _ (hs.rdG h) (hs.rd hf)).mono ?_
      rintro en w6 ⟨rfl, hb⟩
      rw [← HFF.out]
      clear hCW n0 n1 c0
      replace hs := hs.belowStep hb
      clear hb
      have n0 := cell_of (hs.cells 1 rfl) 0
      have n1 := cell_of (hs.cells 1 rfl) 1
      have c0 := cell_of (hs.cells 0 rfl) 0
      have c1 := cell_of (hs.cells 0 rfl) 1
      simp only [List.getElem?_toArray, List.getElem?_cons_zero, List.getElem?_cons_succ] at n0 n1 c0 c1
      clear c1
      have hCW := (show (fun W : World => W.cell? ⟨w.heap.size, 0, none⟩ = some (.int .i64 n) ∧ W.cell? ⟨w.heap.size, 1, none⟩ = some (.slice a es.length c) ∧ W.cell? ⟨w.heap.size + 1, 0, none⟩ = some (.slice af fl.length cf)) _ from ⟨n0, n1, c0⟩)
      go_wp2_with fail
      refine Mix.post_mk (C := (fun W : World => W.cell? ⟨w.heap.size, 0, none⟩ = some (.int .i64 n) ∧ W.cell? ⟨w.heap.size, 1, none⟩ = some (.slice a es.length c) ∧ W.cell? ⟨w.heap.size + 1, 0, none⟩ = some (.slice af fl.length cf))) (by first | exact hCW | exact HCW.out _) (hK _ _ ?_)
      clear hK K
      iterate 3 (refine Mix.step0 fun K hK => ?_; go_simp; (try (go_bits; try go_simp)); first | ((with_reducible refine hK _ _ ?_); clear hK K) | ((try (simp only [IntWalk.iteOmega]; try go_simp)); (try go_bits); (with_reducible refine hK _ _ ?_); clear hK K))
      refine Mix.done ?_
      clear hCW
      go_wp2_with fail
      go_ret2
      exact ⟨by rw [HG.out.1, HG.out.2]; rfl, hs.below⟩
set_option maxHeartbeats 1000000 in
theorem rlen_any (n : Int) (a : Option Addr) (c : Nat) (es : List Ed) (v : Value) (pot : List Int) (i : Nat) (w : World) (h : RdG edR w (.slice a es.length c) es) (hp : Rd .i64 w v pot) (hr : rightB n es = true) (hi : i < 2 * es.length) (hpot : potB n pot = true) :
    Calls Try.prog 38 #[.agg #[.int .i64 n, .slice a es.length c], v, .int .i64 i] w fun en w' => en = .returned (.int .i64 (lenA es pot i)) ∧ Below w.heap.size w w' := by
  obtain ⟨ap, cp, rfl⟩ := hp.shape
  have he : es.length ≤ 200 := (right_cap hr).2.2.1
  have hs := (Sep.start w).newCells #[.int .i64 n, .slice a es.length c] 24
  have hh : hasB es.length (i : Int) = true := by rw [hasB_iff]; omega
  have hend : endsV n es i = endsE es i := by rw [endsV, if_pos (by rw [hh, hr]; rfl), Int.toNat_natCast]
  have hnode := ends_node hr hi
  obtain ⟨hpl, hpb⟩ := pot_cap hpot
  obtain ⟨f, hf'⟩ : ∃ f : Nat, (endsE es i).1 = f := ⟨(endsE es i).1.toNat, by omega⟩
  obtain ⟨t, ht'⟩ : ∃ t : Nat, (endsE es i).2.1 = t := ⟨(endsE es i).2.1.toNat, by omega⟩
  obtain ⟨K, hK'⟩ : ∃ K, (endsE es i).2.2 = K := ⟨_, rfl⟩
  have hlen : lenA es pot i = K + pot.getD f 0 - pot.getD t 0 := by
    unfold lenA potAt
    rw [hf', ht', hK', Int.toNat_natCast, Int.toNat_natCast]
  rw [hf', ht', hK'] at hnode
  have hfl : f < pot.length := by omega
  have htl : t < pot.length := by omega
  have hk0 : -1000 ≤ K := by omega
  have hk1 : K ≤ 1000 := by omega
  have hP := hpb f
  have hQ := hpb t
  have HEND := Lib.hid (show endsV n es i = ((f : Int), (t : Int), K) by rw [hend, ← hf', ← ht', ← hK'])
  obtain ⟨b1, o1, e1, hb1, hc1⟩ := hp.at f hfl
  obtain ⟨b2, o2, e2, hb2, hc2⟩ := hp.at t htl
  subst e1
  injection e2 with e2
  injection e2 with e2 e3
  subst e2
  subst e3
  obtain ⟨P, hPn⟩ : ∃ P, P = pot.getD f 0 := ⟨_, rfl⟩
  obtain ⟨Q, hQn⟩ : ∃ Q, Q = pot.getD t 0 := ⟨_, rfl⟩
  rw [← hPn] at hlen hc1 hP
  rw [← hQn] at hlen hc2 hQ
  have HLEN := Lib.hid hlen
  clear hh hend hnode hpl hpb hf' ht' hK' hlen hPn hQn hr hpot
  obtain ⟨hP0, hP1⟩ := hP
  obtain ⟨hQ0, hQ1⟩ := hQ
  go_enter Try.func38, Try.ntmps38
  go_wp2_with fail
  refine (rends_any n a c es i _ (hs.rdG h) (by omega)).mono ?_
  rintro en w2 ⟨rfl, hb⟩
  rw [HEND.out]
  replace hs := hs.belowStep hb
  clear hb
  have x1 := (hs.cell hb1).trans hc1
  have x2 := (hs.cell hb1).trans hc2
  go_wp2_with fail
  refine Mix.region [0, 0, 0, 0, 0, 0, 0, 0, 0, 0, 0, 0] (fun _ => True) (by kernel_rfl) (by kernel_rfl) trivial ?_
  simp only [List.zip_cons_cons, List.zip_nil_right]
  iterate 12 (refine Mix.step0 fun K hK => ?_; go_simp; (try (go_bits; try go_simp)); first | ((with_reducible refine hK _ _ ?_); clear hK K) | ((try (simp only [IntWalk.iteOmega]; try go_simp)); (try go_bits); (with_reducible refine hK _ _ ?_); clear hK K))
  refine Mix.done ?_
  go_wp2_with fail
  go_ret
  exact ⟨by rw [HLEN.out]; rfl, hs.drew.below⟩
end Go.Proofs.Ytlladdkchhndiaa
