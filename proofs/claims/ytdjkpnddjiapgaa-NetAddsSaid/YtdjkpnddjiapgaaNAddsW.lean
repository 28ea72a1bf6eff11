/-
  The law NetAdds, walked.
-/
import Derived.Test.YtdjkpnddjiapgaaNW6
import Derived.Test.YtdjkpnddjiapgaaNAdds
namespace Go.Proofs.Ytdjkpnddjiapgaa
open Go Go.RowKit Go.Mem Go.NetP

set_option maxRecDepth 100000 in
set_option maxHeartbeats 4000000 in
theorem netAdds_any (n : Int) (a : Option Addr) (c : Nat) (es : List Ed) (va vb : Value) (la lb : List Int) (w : World) (h : RdG edR w (.slice a es.length c) es) (h1 : Rd .i64 w va la) (h2 : Rd .i64 w vb lb) :
    Calls Try.prog 5 #[.agg #[.int .i64 n, .slice a es.length c], va, vb] w fun e w' => e = .returned (.bool true) ∧ Below w.heap.size w w' := by
  have hle := h.le
  unfold maxLen at hle
  obtain ⟨a1, c1, rfl⟩ := h1.shape
  obtain ⟨a2, c2, rfl⟩ := h2.shape
  have hs := (Sep.start w).newCells #[.int .i64 n, .slice a es.length c] 24
  go_enter Try.func5, Try.ntmps5
  go_wp2_with fail
  refine (vast_any n a c es a1 la.length c1 _ hle).mono ?_
  rintro en w1 ⟨rfl, hb⟩
  replace hs := hs.belowStep hb
  clear hb; (try clear n0 n1)
  cases HV : (decide (2000 < es.length) || decide (2000 < la.length))
  case true =>
    go_wp2_with fail
    refine (works_any _).mono ?_
    rintro en wz ⟨rfl, hb⟩
    go_wp2_with fail
    go_ret
    exact ⟨rfl, (hs.belowStep hb).below⟩
  have hsmall : la.length ≤ 2000 := by simp at HV; omega
  clear HV
  have n0 := cell_of (hs.cells 0 rfl) 0
  have n1 := cell_of (hs.cells 0 rfl) 1
  simp only [List.getElem?_toArray, List.getElem?_cons_zero, List.getElem?_cons_succ] at n0 n1
  go_wp2_with fail
  refine (vast_any n a c es a2 lb.length c2 _ hle).mono ?_
  rintro en w2 ⟨rfl, hb⟩
  replace hs := hs.belowStep hb
  clear hb; (try clear n0 n1)
  cases HV : (decide (2000 < es.length) || decide (2000 < lb.length))
  case true =>
    go_wp2_with fail
    refine (works_any _).mono ?_
    rintro en wz ⟨rfl, hb⟩
    go_wp2_with fail
    go_ret
    exact ⟨rfl, (hs.belowStep hb).below⟩
  clear HV
  have n0 := cell_of (hs.cells 0 rfl) 0
  have n1 := cell_of (hs.cells 0 rfl) 1
  simp only [List.getElem?_toArray, List.getElem?_cons_zero, List.getElem?_cons_succ] at n0 n1
  go_wp2_with fail
  refine (within_any n a c es _ la _ (hs.rdG h) (hs.rd h1)).mono ?_
  rintro en w3 ⟨rfl, hb⟩
  replace hs := hs.belowStep hb
  clear hb; (try clear n0 n1)
  cases hra : withinB n es la
  case false =>
    go_wp2_with fail
    refine (works_any _).mono ?_
    rintro en wz ⟨rfl, hb⟩
    go_wp2_with fail
    go_ret
    exact ⟨rfl, (hs.belowStep hb).below⟩
  have HA := Lib.hid hra
  clear hra
  have n0 := cell_of (hs.cells 0 rfl) 0
  have n1 := cell_of (hs.cells 0 rfl) 1
  simp only [List.getElem?_toArray, List.getElem?_cons_zero, List.getElem?_cons_succ] at n0 n1
  go_wp2_with fail
  refine (within_any n a c es _ lb _ (hs.rdG h) (hs.rd h2)).mono ?_
  rintro en w4 ⟨rfl, hb⟩
  replace hs := hs.belowStep hb
  clear hb; (try clear n0 n1)
  cases hrb : withinB n es lb
  case false =>
    go_wp2_with fail
    refine (works_any _).mono ?_
    rintro en wz ⟨rfl, hb⟩
    go_wp2_with fail
    go_ret
    exact ⟨rfl, (hs.belowStep hb).below⟩
  have HBB := Lib.hid hrb
  clear hrb
  obtain ⟨k1, k2, k3, _, _⟩ := right_cap (within_cap HA.out).2.1
  obtain ⟨N, rfl⟩ : ∃ N : Nat, n = N := ⟨n.toNat, by omega⟩
  have HLA := Lib.hid (within_cap HA.out).1
  have HLB := Lib.hid (within_cap HBB.out).1
  have hlq : la.length ≤ lb.length ∧ lb.length ≤ la.length := by have := HLA.out; have := HLB.out; omega
  obtain ⟨hlq1, hlq2⟩ := hlq
  go_wp2_with fail
  refine (copied_any _ la _ (hs.rd h1) (by omega)).mono ?_
  rintro en w5 ⟨u, rfl, hs5⟩
  replace hs := hs.join hs5
  clear hs5
  simp only [List.cons_append, List.nil_append] at hs
  obtain ⟨ac, cc, rfl⟩ := (hs.rdInts 0 rfl).shape
  go_wp2_with fail
  refine wp_loopM [none, none, none, none, none, none, none, none, some 8, none, none, none, none, none, none, none, none, none, none, none, none, none, none, none, none, none, none, none, none, none, none, none, none, none, none, none, none, none, none, some 39, some 40, some 41, some 42, some 43, some 44, some 45, some 46, some 47, some 48, some 49, some 50, some 51, some 52, some 53, some 54, some 55, some 56, some 57, some 58, some 59, some 60, some 61, some 62, none, none, none, none, none, none, none, none, none, none, none, none, none, none, none, none, none, none, none, none, none, none, none, none, none, none, none, none, none, none, none, none, none, none, none, none, none, none, none, none, none, none, none, none, none, none, none, none, none, none, none, none, none, none, none, none, none, none, none, none, none, none, none, none, none, none, none, none, none, none, none, none, none, none, none, none, none, none, none, none, none, none, none, none, none, none, none, none, none, none, none, none, none, none] (fun (r : Nat) (f : Nat → Value) (wr : World) => (fun (v : Value) => ∃ i : Nat, v = .int .i64 i ∧ i ≤ la.length ∧ r = la.length - i ∧ Sep w wr [intsT .i64 2 (.slice ac la.length cc) (stepL la lb i), cellsT w.heap.size #[.int .i64 N, .slice a es.length c] 24]) (f 8)) (la.length) (by kernel_rfl) ?atStart1 ?round1
  case' atStart1 => (try dsimp only [nthV])
  case' round1 =>
    intro gk f wr l hl hrel J1 K1 hJ1 hK1
    (try simp only [mask] at hl)
    generalize f 8 = u8 at hl hrel
    subst hl
    (try dsimp only at hrel)
  case atStart1 => exact ⟨0, rfl, Nat.zero_le _, rfl, by rw [stepL_zero]; exact hs⟩
  case round1 =>
    clear hs
    obtain ⟨i, rfl, hi, rfl, hs⟩ := hrel
    by_cases hlt : i < la.length
    · obtain ⟨g, cp, eg, hg, hcR, hfr⟩ := (hs.ints 0 rfl).get i (by rw [stepL_length]; exact hlt)
      injection eg with eg1 eg2 eg3
      clear eg2 eg3
      subst eg1
      have r0 := hcR i (by rw [stepL_length]; exact hlt)
      rw [stepL_get _ _ hlt] at r0
      obtain ⟨b2, o2, e2, hb2, r1⟩ := (hs.rd h2).at i (by omega)
      subst e2
      have HSET := Lib.hid (stepL_set la lb hlt)
      obtain ⟨x0, x1⟩ := within_at HA.out (i := i) (by have := HLA.out; omega)
      obtain ⟨y0, y1⟩ := within_at HBB.out (i := i) (by have := HLB.out; omega)
      have hcap := (edgeB_iff _ _).1 ((right_cap (within_cap HA.out).2.1).2.2.2.2 _ (List.getElem_mem (show i < es.length by have := HLA.out; omega)))
      have x2 : la.getD i 0 ≤ 4503599627370496 := by omega
      have y2 : lb.getD i 0 ≤ 4503599627370496 := by omega
      have hs' := (hs.setInts (j := i) 0 rfl (la.getD i 0 + lb.getD i 0)).drew
      rw [HSET.out] at hs'
      generalize la.getD i 0 = x at *
      generalize lb.getD i 0 = y at *
      clear hcap x1 y1 hcR
      have hlb : i < lb.length := by omega
      go_wp2_with fail
      refine Mix.region [0, 0, 0, 0, 0, 0, 0, 0, 0, 0, 0, 0, 2] (fun _ => True) (by kernel_rfl) (by kernel_rfl) trivial ?_
      simp only [List.zip_cons_cons, List.zip_nil_right]
      iterate 12 (refine Mix.step0 fun K hK => ?_; go_simp; (try (go_bits; try go_simp)); first | ((with_reducible refine hK _ _ ?_); clear hK K) | ((try (simp only [IntWalk.iteOmega]; try go_simp)); (try go_bits); (with_reducible refine hK _ _ ?_); clear hK K))
      refine Mix.step2n (by first | rfl | simp [Region.wanted, yielded]) fun K hK => ?_
      go_wp2_with fail
      refine Mix.post_mk (C := (fun _ => True)) trivial (hK _ _ ?_)
      clear hK K
      refine Mix.done ?_
      go_wp2_with fail
      refine Round.intro (la.length - (i + 1)) ?measure2 (by kernel_rfl) (hJ1 _ _ _ ?rel2)
      case' rel2 => (try dsimp only [nthV])
      case measure2 => omega
      case rel2 => exact ⟨i + 1, by go_num, hlt, rfl, hs'⟩
    · obtain rfl : i = la.length := by omega
      rw [show stepL la lb la.length = sumL la lb from rfl] at hs
      have n0 := cell_of (hs.cells 1 rfl) 0
      have n1 := cell_of (hs.cells 1 rfl) 1
      simp only [List.getElem?_toArray, List.getElem?_cons_zero, List.getElem?_cons_succ] at n0 n1
      have hrs := hs.rdInts 0 rfl
      have hcl : Rd .i64 wr (.slice ac la.length cc) (sumL la lb) := hrs
      have HSL := Lib.hid (sumL_length la lb)
      go_wp2_with fail
      refine (within_any N a c es _ (sumL la lb) _ (hs.rdG h) hcl).mono ?_
      rintro en w6 ⟨rfl, hb⟩
      replace hs := hs.belowStep hb
      clear hb; (try clear n0 n1)
      clear hrs hcl
      cases hrc : withinB N es (sumL la lb)
      case false =>
        go_wp2_with fail
        refine (works_any _).mono ?_
        rintro en wz ⟨rfl, hb⟩
        go_wp2_with fail
        go_ret
        exact ⟨rfl, (hs.belowStep hb).below⟩
      have HC := Lib.hid hrc
      clear hrc
      have ov : ∀ l, withinB N es l = true → overV N es l = overL N es l := fun l h => by simp [overV, h]
      have cv : ∀ l, withinB N es l = true → costV N es l = flowCost es l l.length := fun l h => by simp [costV, h]
      have OV := Lib.hid ov
      have CV := Lib.hid cv
      clear ov cv
      have n0 := cell_of (hs.cells 1 rfl) 0
      have n1 := cell_of (hs.cells 1 rfl) 1
      simp only [List.getElem?_toArray, List.getElem?_cons_zero, List.getElem?_cons_succ] at n0 n1
      go_wp2_with fail
      refine (over_any N a c es _ la _ (hs.rdG h) (hs.rd h1)).mono ?_
      rintro en w7 ⟨ux, rfl, hsx⟩
      replace hs := hs.join hsx
      rw [OV.out _ HA.out] at hs
      simp only [List.cons_append, List.nil_append] at hs
      obtain ⟨ax, cx, hu⟩ := (hs.rdInts 0 rfl).shape
      rw [over_len] at hu
      subst hu
      clear n0 n1 hsx
      have n0 := cell_of (hs.cells 2 rfl) 0
      have n1 := cell_of (hs.cells 2 rfl) 1
      simp only [List.getElem?_toArray, List.getElem?_cons_zero, List.getElem?_cons_succ] at n0 n1
      go_wp2_with fail
      refine (over_any N a c es _ lb _ (hs.rdG h) (hs.rd h2)).mono ?_
      rintro en w8 ⟨uy, rfl, hsx⟩
      replace hs := hs.join hsx
      rw [OV.out _ HBB.out] at hs
      simp only [List.cons_append, List.nil_append] at hs
      obtain ⟨ay, cy, hu⟩ := (hs.rdInts 0 rfl).shape
      rw [over_len] at hu
      subst hu
      clear n0 n1 hsx
      have n0 := cell_of (hs.cells 3 rfl) 0
      have n1 := cell_of (hs.cells 3 rfl) 1
      simp only [List.getElem?_toArray, List.getElem?_cons_zero, List.getElem?_cons_succ] at n0 n1
      have hcl : Rd .i64 w8 (.slice ac la.length cc) (sumL la lb) := hs.rdInts 2 rfl
      go_wp2_with fail
      refine (over_any N a c es _ (sumL la lb) _ (hs.rdG h) hcl).mono ?_
      rintro en w9 ⟨uz, rfl, hsx⟩
      replace hs := hs.join hsx
      rw [OV.out _ HC.out] at hs
      simp only [List.cons_append, List.nil_append] at hs
      obtain ⟨az, cz, hu⟩ := (hs.rdInts 0 rfl).shape
      rw [over_len] at hu
      subst hu
      clear n0 n1 hsx hcl
      replace hs := hs.drew
      have n0 := cell_of (hs.cells 4 rfl) 0
      have n1 := cell_of (hs.cells 4 rfl) 1
      simp only [List.getElem?_toArray, List.getElem?_cons_zero, List.getElem?_cons_succ] at n0 n1
      have hCW := (show (fun W : World => W.cell? ⟨w.heap.size, 0, none⟩ = some (.int .i64 N) ∧ W.cell? ⟨w.heap.size, 1, none⟩ = some (.slice a es.length c)) _ from ⟨n0, n1⟩)
      have hce := flowCost_bound HC.out (i := (sumL la lb).length) (by rw [(within_cap HC.out).1]; exact Nat.le_refl _)
      rw [HSL.out, flowCost_add es la lb _ (Nat.le_refl _)] at hce
      have HCA := Lib.hid (show flowCost es (sumL la lb) (sumL la lb).length = flowCost es la la.length + flowCost es lb lb.length by rw [HSL.out, flowCost_add es la lb _ (Nat.le_refl _)]; congr 2; omega)
      have hce2 : flowCost es lb la.length = flowCost es lb lb.length := by congr 1; omega
      rw [hce2] at hce
      obtain ⟨ce0, ce1⟩ := hce
      clear hce2
      go_wp2_with fail
      refine Mix.region [0, 0, 0, 0, 0, 0, 0, 0, 0, 0, 0, 0, 0, 0, 0, 0, 0, 0, 0, 0, 0, 0, 2, 1, 1, 2, 1, 1, 2, 0, 0, 0] (fun W : World => W.cell? ⟨w.heap.size, 0, none⟩ = some (.int .i64 N) ∧ W.cell? ⟨w.heap.size, 1, none⟩ = some (.slice a es.length c)) (by kernel_rfl) (by kernel_rfl) hCW ?_
      simp only [List.zip_cons_cons, List.zip_nil_right]
      iterate 6 (refine Mix.step0 fun K hK => ?_; go_simp; (try (go_bits; try go_simp)); first | ((with_reducible refine hK _ _ ?_); clear hK K) | ((try (simp only [IntWalk.iteOmega]; try go_simp)); (try go_bits); (with_reducible refine hK _ _ ?_); clear hK K))
      iterate 5 (first | (refine Mix.stepS rfl fun K hK => ?_; go_simp; (with_reducible refine hK _ _ ?_); clear hK K) | (refine Mix.step0 fun K hK => ?_; go_simp; (try (go_bits; try go_simp)); first | ((with_reducible refine hK _ _ ?_); clear hK K) | ((try (simp only [IntWalk.iteOmega]; try go_simp)); (try go_bits); (with_reducible refine hK _ _ ?_); clear hK K)))
      iterate 2 (refine Mix.step0 fun K hK => ?_; go_simp; (try (go_bits; try go_simp)); first | ((with_reducible refine hK _ _ ?_); clear hK K) | ((try (simp only [IntWalk.iteOmega]; try go_simp)); (try go_bits); (with_reducible refine hK _ _ ?_); clear hK K))
      iterate 5 (first | (refine Mix.stepS rfl fun K hK => ?_; go_simp; (with_reducible refine hK _ _ ?_); clear hK K) | (refine Mix.step0 fun K hK => ?_; go_simp; (try (go_bits; try go_simp)); first | ((with_reducible refine hK _ _ ?_); clear hK K) | ((try (simp only [IntWalk.iteOmega]; try go_simp)); (try go_bits); (with_reducible refine hK _ _ ?_); clear hK K)))
      iterate 2 (refine Mix.step0 fun K hK => ?_; go_simp; (try (go_bits; try go_simp)); first | ((with_reducible refine hK _ _ ?_); clear hK K) | ((try (simp only [IntWalk.iteOmega]; try go_simp)); (try go_bits); (with_reducible refine hK _ _ ?_); clear hK K))
      iterate 2 (first | (refine Mix.stepS rfl fun K hK => ?_; go_simp; (with_reducible refine hK _ _ ?_); clear hK K) | (refine Mix.step0 fun K hK => ?_; go_simp; (try (go_bits; try go_simp)); first | ((with_reducible refine hK _ _ ?_); clear hK K) | ((try (simp only [IntWalk.iteOmega]; try go_simp)); (try go_bits); (with_reducible refine hK _ _ ?_); clear hK K)))
      refine Mix.step2n (by first | rfl | simp [Region.wanted, yielded]) fun K hK => ?_
      go_wp2_with fail
      have hcl : Rd .i64 w9.drew (.slice ac la.length cc) (sumL la lb) := hs.rdInts 3 rfl
      refine (cost_any N a c es _ (sumL la lb) _ (hs.rdG h) hcl).mono ?_
      rintro en wx ⟨rfl, hb⟩
      clear hcl hCW
      rw [CV.out _ HC.out, HCA.out]
      replace hs := hs.belowStep hb
      clear hb; (try clear n0 n1)
      have n0 := cell_of (hs.cells 4 rfl) 0
      have n1 := cell_of (hs.cells 4 rfl) 1
      simp only [List.getElem?_toArray, List.getElem?_cons_zero, List.getElem?_cons_succ] at n0 n1
      have hCW := (show (fun W : World => W.cell? ⟨w.heap.size, 0, none⟩ = some (.int .i64 N) ∧ W.cell? ⟨w.heap.size, 1, none⟩ = some (.slice a es.length c)) _ from ⟨n0, n1⟩)
      go_wp2_with fail
      refine Mix.post_mk (C := (fun W : World => W.cell? ⟨w.heap.size, 0, none⟩ = some (.int .i64 N) ∧ W.cell? ⟨w.heap.size, 1, none⟩ = some (.slice a es.length c))) (by first | exact hCW | exact HCW.out _) (hK _ _ ?_)
      clear hK K
      (refine Mix.step1 fun K hK => ?_; go_simp; refine ⟨fun W => ?_, hK _ _ ?_⟩; (intro hW1; (try intro hW2); (try intro hW3); (try intro hW4); go_simp); clear hK K)
      (refine Mix.step1 fun K hK => ?_; go_simp; (try (go_bits; try go_simp)); first | ((with_reducible refine hK _ _ ?_); clear hK K) | ((try (simp only [IntWalk.iteOmega]; try go_simp)); (try go_bits); (with_reducible refine hK _ _ ?_); clear hK K))
      refine Mix.step2n (by first | rfl | simp [Region.wanted, yielded]) fun K hK => ?_
      go_wp2_with fail
      refine (cost_any N a c es _ la _ (hs.rdG h) (hs.rd h1)).mono ?_
      rintro en wx ⟨rfl, hb⟩
      clear hCW
      rw [CV.out _ HA.out]
      replace hs := hs.belowStep hb
      clear hb; (try clear n0 n1)
      have n0 := cell_of (hs.cells 4 rfl) 0
      have n1 := cell_of (hs.cells 4 rfl) 1
      simp only [List.getElem?_toArray, List.getElem?_cons_zero, List.getElem?_cons_succ] at n0 n1
      have hCW := (show (fun W : World => W.cell? ⟨w.heap.size, 0, none⟩ = some (.int .i64 N) ∧ W.cell? ⟨w.heap.size, 1, none⟩ = some (.slice a es.length c)) _ from ⟨n0, n1⟩)
      go_wp2_with fail
      refine Mix.post_mk (C := (fun W : World => W.cell? ⟨w.heap.size, 0, none⟩ = some (.int .i64 N) ∧ W.cell? ⟨w.heap.size, 1, none⟩ = some (.slice a es.length c))) (by first | exact hCW | exact HCW.out _) (hK _ _ ?_)
      clear hK K
      (refine Mix.step1 fun K hK => ?_; go_simp; refine ⟨fun W => ?_, hK _ _ ?_⟩; (intro hW1; (try intro hW2); (try intro hW3); (try intro hW4); go_simp); clear hK K)
      (refine Mix.step1 fun K hK => ?_; go_simp; (try (go_bits; try go_simp)); first | ((with_reducible refine hK _ _ ?_); clear hK K) | ((try (simp only [IntWalk.iteOmega]; try go_simp)); (try go_bits); (with_reducible refine hK _ _ ?_); clear hK K))
      refine Mix.step2n (by first | rfl | simp [Region.wanted, yielded]) fun K hK => ?_
      go_wp2_with fail
      refine (cost_any N a c es _ lb _ (hs.rdG h) (hs.rd h2)).mono ?_
      rintro en wx ⟨rfl, hb⟩
      clear hCW
      rw [CV.out _ HBB.out]
      replace hs := hs.belowStep hb
      clear hb; (try clear n0 n1)
      have n0 := cell_of (hs.cells 4 rfl) 0
      have n1 := cell_of (hs.cells 4 rfl) 1
      simp only [List.getElem?_toArray, List.getElem?_cons_zero, List.getElem?_cons_succ] at n0 n1
      have hCW := (show (fun W : World => W.cell? ⟨w.heap.size, 0, none⟩ = some (.int .i64 N) ∧ W.cell? ⟨w.heap.size, 1, none⟩ = some (.slice a es.length c)) _ from ⟨n0, n1⟩)
      generalize flowCost es la la.length = CA at *
      generalize flowCost es lb lb.length = CB at *
      go_wp2_with fail
      refine Mix.post_mk (C := (fun W : World => W.cell? ⟨w.heap.size, 0, none⟩ = some (.int .i64 N) ∧ W.cell? ⟨w.heap.size, 1, none⟩ = some (.slice a es.length c))) (by first | exact hCW | exact HCW.out _) (hK _ _ ?_)
      clear hK K
      iterate 2 (first | (refine Mix.stepS rfl fun K hK => ?_; go_simp; (with_reducible refine hK _ _ ?_); clear hK K) | (refine Mix.step0 fun K hK => ?_; go_simp; (try (go_bits; try go_simp)); first | ((with_reducible refine hK _ _ ?_); clear hK K) | ((try (simp only [IntWalk.iteOmega]; try go_simp)); (try go_bits); (with_reducible refine hK _ _ ?_); clear hK K)))
      iterate 1 (refine Mix.step0 fun K hK => ?_; go_simp; (try (go_bits; try go_simp)); first | ((with_reducible refine hK _ _ ?_); clear hK K) | ((try (simp only [IntWalk.iteOmega]; try go_simp)); (try go_bits); (with_reducible refine hK _ _ ?_); clear hK K))
      refine Mix.done ?_
      clear hCW
      go_wp2_with fail
      refine wp_loopM [none, none, none, none, none, none, some 6, none, none, none, none, none, some 12, none, none, none, none, none, none, none, none, none, none, none, none, none, none, none, none, none, none, none, none, none, none, none, none, none, none, none, none, none, none, none, none, none, none, none, none, none, none, none, none, none, none, none, none, none, none, none, none, none, none, none, none, none, none, none, none, none, none, none, none, none, none, none, none, none, none, none, none, none, none, none, none, none, none, none, none, none, none, none, none, none, none, none, none, none, none, none, none, none, none, none, none, none, none, none, none, some 109, some 110, some 111, some 112, some 113, some 114, some 115, some 116, some 117, some 118, some 119, some 120, some 121, some 122, some 123, some 124, some 125, some 126, some 127, some 128, none, none, none, none, none, none, none, none, none, none, none, none, none, none, none, none, none, none, none, none, none, none, none, none, none, none, none, none] (fun (r : Nat) (f : Nat → Value) (wr : World) => (fun (v : Value) => ∃ i : Nat, v = .int .i64 i ∧ i ≤ N ∧ r = N - i ∧ Sep w wr [intsT .i64 2 (.slice az N cz) (overL N es (sumL la lb)), intsT .i64 2 (.slice ay N cy) (overL N es lb), intsT .i64 2 (.slice ax N cx) (overL N es la), intsT .i64 2 (.slice ac la.length cc) (sumL la lb), cellsT w.heap.size #[.int .i64 N, .slice a es.length c] 24]) (f 12)) (N) (by kernel_rfl) ?atStart3 ?round3
      case' atStart3 => (try dsimp only [nthV])
      case' round3 =>
        intro gk f wr l hl hrel J2 K2 hJ2 hK2
        (try simp only [mask] at hl)
        generalize f 12 = u12 at hl hrel
        subst hl
        (try dsimp only at hrel)
      case atStart3 => exact ⟨0, rfl, Nat.zero_le _, rfl, hs⟩
      case round3 =>
        clear hs n0 n1
        obtain ⟨i, rfl, hi, rfl, hs⟩ := hrel
        have n0 := cell_of (hs.cells 4 rfl) 0
        have n1 := cell_of (hs.cells 4 rfl) 1
        simp only [List.getElem?_toArray, List.getElem?_cons_zero, List.getElem?_cons_succ] at n0 n1
        by_cases hlt : i < N
        · obtain ⟨bz, oz, ez, hbz, rz⟩ := (hs.rdInts 0 rfl).at i (by rw [over_len]; exact hlt)
          obtain ⟨by', oy, ey, hby, ry⟩ := (hs.rdInts 1 rfl).at i (by rw [over_len]; exact hlt)
          obtain ⟨bx, ox, ex, hbx, rx⟩ := (hs.rdInts 2 rfl).at i (by rw [over_len]; exact hlt)
          subst ez; subst ey; subst ex
          obtain ⟨x0, x1⟩ := over_at_bound HA.out i hlt
          obtain ⟨y0, y1⟩ := over_at_bound HBB.out i hlt
          rw [over_add es la lb (by omega) hlt] at rz
          generalize (overL N es la).getD i 0 = x at *
          generalize (overL N es lb).getD i 0 = y at *
          replace hs := hs.drew
          go_wp2_with fail
          refine Mix.region [0, 0, 0, 0, 0, 0, 0, 0, 0, 0, 0, 0, 0, 0] (fun _ => True) (by kernel_rfl) (by kernel_rfl) trivial ?_
          simp only [List.zip_cons_cons, List.zip_nil_right]
          iterate 14 (refine Mix.step0 fun K hK => ?_; go_simp; (try (go_bits; try go_simp)); first | ((with_reducible refine hK _ _ ?_); clear hK K) | ((try (simp only [IntWalk.iteOmega]; try go_simp)); (try go_bits); (with_reducible refine hK _ _ ?_); clear hK K))
          refine Mix.done ?_
          go_wp2_with fail
          refine Round.intro (N - (i + 1)) ?measure4 (by kernel_rfl) (hJ2 _ _ _ ?rel4)
          case' rel4 => (try dsimp only [nthV])
          case measure4 => omega
          case rel4 => exact ⟨i + 1, by go_num, hlt, rfl, hs⟩
        · obtain rfl : i = N := by omega
          have hfl := flows_add HA.out HBB.out HC.out
          have HFL := Lib.hid hfl
          clear hfl
          go_wp2_with fail
          refine (flows_any i a c es _ la _ (hs.rdG h) (hs.rd h1)).mono ?_
          rintro en wa ⟨rfl, hb⟩
          replace hs := hs.belowStep hb
          clear hb; (try clear n0 n1)
          have n0 := cell_of (hs.cells 4 rfl) 0
          have n1 := cell_of (hs.cells 4 rfl) 1
          simp only [List.getElem?_toArray, List.getElem?_cons_zero, List.getElem?_cons_succ] at n0 n1
          go_wp2_with fail
          refine (flows_any i a c es _ lb _ (hs.rdG h) (hs.rd h2)).mono ?_
          rintro en wb ⟨rfl, hb⟩
          replace hs := hs.belowStep hb
          clear hb; (try clear n0 n1)
          have n0 := cell_of (hs.cells 4 rfl) 0
          have n1 := cell_of (hs.cells 4 rfl) 1
          simp only [List.getElem?_toArray, List.getElem?_cons_zero, List.getElem?_cons_succ] at n0 n1
          have hcl : Rd .i64 wb (.slice ac la.length cc) (sumL la lb) := hs.rdInts 3 rfl
          go_wp2_with fail
          refine (flows_any i a c es _ (sumL la lb) _ (hs.rdG h) hcl).mono ?_
          rintro en wc ⟨rfl, hb⟩
          clear hcl
          replace hs := hs.belowStep hb
          clear hb; (try clear n0 n1)
          generalize flowsB i es la = p at *
          generalize flowsB i es lb = q at *
          generalize flowsB i es (sumL la lb) = r at *
          obtain ⟨f1, f2⟩ := HFL.out
          clear HFL
          cases p <;> cases q <;> cases r <;> simp at f1 f2
          all_goals
            go_wp2_with fail
            refine (works_any _).mono ?_
            rintro en wz ⟨rfl, hb⟩
            go_wp2_with fail
            go_ret
            exact ⟨rfl, (hs.belowStep hb).below⟩
end Go.Proofs.Ytdjkpnddjiapgaa
