/-
  The law NetPlays, walked.
-/
import Derived.Test.YtdjkpnddjiapgaaNW6
namespace Go.Proofs.Ytdjkpnddjiapgaa
open Go Go.RowKit Go.Mem Go.NetP

set_option maxRecDepth 100000 in
set_option maxHeartbeats 4000000 in
theorem netPlays_any (n : Int) (a : Option Addr) (c : Nat) (es : List Ed) (v : Value) (fl : List Int) (w : World) (h : RdG edR w (.slice a es.length c) es) (h' : Rd .i64 w v fl) :
    Calls Try.prog 3 #[.agg #[.int .i64 n, .slice a es.length c], v] w fun e w' => e = .returned (.bool true) ∧ Below w.heap.size w w' := by
  have hle := h.le
  unfold maxLen at hle
  obtain ⟨a', c', rfl⟩ := h'.shape
  have hs0 := (Sep.start w).newCells #[.int .i64 n, .slice a es.length c] 24
  by_cases hv : 2000 < es.length ∨ 2000 < fl.length
  · have HV := Lib.hid (show (decide (2000 < es.length) || decide (2000 < fl.length)) = true by simpa using hv)
    clear hv
    go_enter Try.func3, Try.ntmps3
    go_wp2_with fail
    refine (vast_any n a c es a' fl.length c' _ hle).mono ?_
    rintro en w1 ⟨rfl, hb⟩
    rw [HV.out]
    have hs := hs0.belowStep hb
    clear hs0 hb
    go_wp2_with fail
    refine (works_any _).mono ?_
    rintro en w2 ⟨rfl, hb⟩
    go_wp2_with fail
    go_ret
    exact ⟨rfl, (hs.belowStep hb).below⟩
  · have HV := Lib.hid (show (decide (2000 < es.length) || decide (2000 < fl.length)) = false by simp; omega)
    have he : es.length ≤ 2000 := by omega
    have hf : fl.length ≤ 2000 := by omega
    clear hv
    go_enter Try.func3, Try.ntmps3
    go_wp2_with fail
    refine (vast_any n a c es a' fl.length c' _ hle).mono ?_
    rintro en w1 ⟨rfl, hb⟩
    rw [HV.out]
    have hs1 := hs0.belowStep hb
    clear hs0 hb
    have n0 := cell_of (hs1.cells 0 rfl) 0
    have n1 := cell_of (hs1.cells 0 rfl) 1
    simp only [List.getElem?_toArray, List.getElem?_cons_zero, List.getElem?_cons_succ] at n0 n1
    go_wp2_with fail
    refine (copy_any n a c es _ (hs1.rdG h) (by omega)).mono ?_
    rintro en w2 ⟨am, cm, rfl, hs2'⟩
    have hs2 := (hs1.join hs2').newCells #[.int .i64 n, .slice am es.length cm] 24
    clear hs1 hs2' n0 n1
    go_wp2_with fail
    refine (copied_any _ fl _ (hs2.rd h') (by omega)).mono ?_
    rintro en w3 ⟨u, rfl, hs3'⟩
    have hs3 := hs2.join hs3'
    clear hs2 hs3'
    simp only [List.cons_append, List.nil_append] at hs3
    obtain ⟨al, cl, rfl⟩ := (hs3.rdInts 0 rfl).shape
    have gl := hs3.rdInts 0 rfl
    have gm := hs3.rdRecs 2 rfl
    have gn := hs3.rdG h
    have gf := hs3.rd h'
    have N0 := lt_of (hs3.cells 3 rfl)
    have N1 := lt_of (hs3.cells 1 rfl)
    have HB := Lib.hid hs3.below
    have n0 := cell_of (hs3.cells 3 rfl) 0
    have n1 := cell_of (hs3.cells 3 rfl) 1
    have m0 := cell_of (hs3.cells 1 rfl) 0
    have m1 := cell_of (hs3.cells 1 rfl) 1
    simp only [List.getElem?_toArray, List.getElem?_cons_zero, List.getElem?_cons_succ] at n0 n1 m0 m1
    have FIN := Lib.hid (fun (W : World) (L : List Thing) (h : Sep w3 W L) =>
      (⟨(h.cell N0).trans n0, (h.cell N0).trans n1, (h.cell N1).trans m0, (h.cell N1).trans m1⟩ : W.cell? ⟨w.heap.size, 0, none⟩ = some (.int .i64 n) ∧ W.cell? ⟨w.heap.size, 1, none⟩ = some (.slice a es.length c) ∧ W.cell? ⟨w2.heap.size, 0, none⟩ = some (.int .i64 n) ∧ W.cell? ⟨w2.heap.size, 1, none⟩ = some (.slice am es.length cm)))
    have hs := (Sep.start w3).drew
    clear hs3 N0 N1
    have hCW := (show (fun W : World => W.cell? ⟨w.heap.size, 0, none⟩ = some (.int .i64 n) ∧ W.cell? ⟨w.heap.size, 1, none⟩ = some (.slice a es.length c)) w3.drew from ⟨n0, n1⟩)
    go_wp2_with fail
    refine Mix.region [0, 2, 1, 2, 0, 0, 0, 0, 2, 1, 1, 2, 0, 0, 0, 0, 0, 2, 1, 1, 2, 0, 0, 0, 0, 0, 2, 1, 1, 2, 0, 0] (fun W : World => W.cell? ⟨w.heap.size, 0, none⟩ = some (.int .i64 n) ∧ W.cell? ⟨w.heap.size, 1, none⟩ = some (.slice a es.length c)) (by kernel_rfl) (by kernel_rfl) hCW ?_
    simp only [List.zip_cons_cons, List.zip_nil_right]
    iterate 1 (refine Mix.step0 fun K hK => ?_; go_simp; (try (go_bits; try go_simp)); first | ((with_reducible refine hK _ _ ?_); clear hK K) | ((try (simp only [IntWalk.iteOmega]; try go_simp)); (try go_bits); (with_reducible refine hK _ _ ?_); clear hK K))
    refine Mix.step2n (by first | rfl | simp [Region.wanted, yielded]) fun K hK => ?_
    go_wp2_with fail
    refine (right_any n _ _ es _ (hs.rdG gm)).mono ?_
    rintro en wx ⟨rfl, hb⟩
    replace hs := hs.belowStep hb
    clear hb
    (try clear hCW); (try clear n0 n1); (try clear m0 m1)
    obtain ⟨n0, n1, m0, m1⟩ := FIN.out _ _ hs
    have hCW := (show (fun W : World => W.cell? ⟨w.heap.size, 0, none⟩ = some (.int .i64 n) ∧ W.cell? ⟨w.heap.size, 1, none⟩ = some (.slice a es.length c)) _ from ⟨n0, n1⟩)
    go_wp2_with fail
    refine Mix.post_mk (C := (fun W : World => W.cell? ⟨w.heap.size, 0, none⟩ = some (.int .i64 n) ∧ W.cell? ⟨w.heap.size, 1, none⟩ = some (.slice a es.length c))) (by first | exact hCW | exact HCW.out _) (hK _ _ ?_)
    clear hK K
    (refine Mix.step1 fun K hK => ?_; go_simp; refine ⟨fun W => ?_, hK _ _ ?_⟩; (intro hW1; (try intro hW2); (try intro hW3); (try intro hW4); go_simp); clear hK K)
    refine Mix.step2n (by first | rfl | simp [Region.wanted, yielded]) fun K hK => ?_
    go_wp2_with fail
    refine (rright_any n _ _ es _ (hs.rdG gn)).mono ?_
    rintro en wx ⟨rfl, hb⟩
    replace hs := hs.belowStep hb
    clear hb
    (try clear hCW); (try clear n0 n1); (try clear m0 m1)
    obtain ⟨n0, n1, m0, m1⟩ := FIN.out _ _ hs
    have hCW := (show (fun W : World => W.cell? ⟨w.heap.size, 0, none⟩ = some (.int .i64 n) ∧ W.cell? ⟨w.heap.size, 1, none⟩ = some (.slice a es.length c)) _ from ⟨n0, n1⟩)
    go_wp2_with fail
    refine Mix.post_mk (C := (fun W : World => W.cell? ⟨w.heap.size, 0, none⟩ = some (.int .i64 n) ∧ W.cell? ⟨w.heap.size, 1, none⟩ = some (.slice a es.length c))) (by first | exact hCW | exact HCW.out _) (hK _ _ ?_)
    clear hK K
    iterate 2 (refine Mix.step0 fun K hK => ?_; go_simp; (try (go_bits; try go_simp)); first | ((with_reducible refine hK _ _ ?_); clear hK K) | ((try (simp only [IntWalk.iteOmega]; try go_simp)); (try go_bits); (with_reducible refine hK _ _ ?_); clear hK K))
    iterate 2 (first | (refine Mix.stepS rfl fun K hK => ?_; go_simp; (with_reducible refine hK _ _ ?_); clear hK K) | (refine Mix.step0 fun K hK => ?_; go_simp; (try (go_bits; try go_simp)); first | ((with_reducible refine hK _ _ ?_); clear hK K) | ((try (simp only [IntWalk.iteOmega]; try go_simp)); (try go_bits); (with_reducible refine hK _ _ ?_); clear hK K)))
    refine Mix.step2n (by first | rfl | simp [Region.wanted, yielded]) fun K hK => ?_
    go_wp2_with fail
    refine (within_any n _ _ es _ fl _ (hs.rdG gm) (hs.rd gl)).mono ?_
    rintro en wx ⟨rfl, hb⟩
    replace hs := hs.belowStep hb
    clear hb
    (try clear hCW); (try clear n0 n1); (try clear m0 m1)
    obtain ⟨n0, n1, m0, m1⟩ := FIN.out _ _ hs
    have hCW := (show (fun W : World => W.cell? ⟨w.heap.size, 0, none⟩ = some (.int .i64 n) ∧ W.cell? ⟨w.heap.size, 1, none⟩ = some (.slice a es.length c)) _ from ⟨n0, n1⟩)
    go_wp2_with fail
    refine Mix.post_mk (C := (fun W : World => W.cell? ⟨w.heap.size, 0, none⟩ = some (.int .i64 n) ∧ W.cell? ⟨w.heap.size, 1, none⟩ = some (.slice a es.length c))) (by first | exact hCW | exact HCW.out _) (hK _ _ ?_)
    clear hK K
    (refine Mix.step1 fun K hK => ?_; go_simp; refine ⟨fun W => ?_, hK _ _ ?_⟩; (intro hW1; (try intro hW2); (try intro hW3); (try intro hW4); go_simp); clear hK K)
    (refine Mix.step1 fun K hK => ?_; go_simp; (try (go_bits; try go_simp)); first | ((with_reducible refine hK _ _ ?_); clear hK K) | ((try (simp only [IntWalk.iteOmega]; try go_simp)); (try go_bits); (with_reducible refine hK _ _ ?_); clear hK K))
    refine Mix.step2n (by first | rfl | simp [Region.wanted, yielded]) fun K hK => ?_
    go_wp2_with fail
    refine (rwithin_any n _ _ es _ fl _ (hs.rdG gn) (hs.rd gf)).mono ?_
    rintro en wx ⟨rfl, hb⟩
    replace hs := hs.belowStep hb
    clear hb
    (try clear hCW); (try clear n0 n1); (try clear m0 m1)
    obtain ⟨n0, n1, m0, m1⟩ := FIN.out _ _ hs
    have hCW := (show (fun W : World => W.cell? ⟨w.heap.size, 0, none⟩ = some (.int .i64 n) ∧ W.cell? ⟨w.heap.size, 1, none⟩ = some (.slice a es.length c)) _ from ⟨n0, n1⟩)
    go_wp2_with fail
    refine Mix.post_mk (C := (fun W : World => W.cell? ⟨w.heap.size, 0, none⟩ = some (.int .i64 n) ∧ W.cell? ⟨w.heap.size, 1, none⟩ = some (.slice a es.length c))) (by first | exact hCW | exact HCW.out _) (hK _ _ ?_)
    clear hK K
    iterate 1 (first | (refine Mix.stepS rfl fun K hK => ?_; go_simp; (with_reducible refine hK _ _ ?_); clear hK K) | (refine Mix.step0 fun K hK => ?_; go_simp; (try (go_bits; try go_simp)); first | ((with_reducible refine hK _ _ ?_); clear hK K) | ((try (simp only [IntWalk.iteOmega]; try go_simp)); (try go_bits); (with_reducible refine hK _ _ ?_); clear hK K)))
    iterate 2 (refine Mix.step0 fun K hK => ?_; go_simp; (try (go_bits; try go_simp)); first | ((with_reducible refine hK _ _ ?_); clear hK K) | ((try (simp only [IntWalk.iteOmega]; try go_simp)); (try go_bits); (with_reducible refine hK _ _ ?_); clear hK K))
    iterate 2 (first | (refine Mix.stepS rfl fun K hK => ?_; go_simp; (with_reducible refine hK _ _ ?_); clear hK K) | (refine Mix.step0 fun K hK => ?_; go_simp; (try (go_bits; try go_simp)); first | ((with_reducible refine hK _ _ ?_); clear hK K) | ((try (simp only [IntWalk.iteOmega]; try go_simp)); (try go_bits); (with_reducible refine hK _ _ ?_); clear hK K)))
    refine Mix.step2n (by first | rfl | simp [Region.wanted, yielded]) fun K hK => ?_
    go_wp2_with fail
    refine (flows_any n _ _ es _ fl _ (hs.rdG gm) (hs.rd gl)).mono ?_
    rintro en wx ⟨rfl, hb⟩
    replace hs := hs.belowStep hb
    clear hb
    (try clear hCW); (try clear n0 n1); (try clear m0 m1)
    obtain ⟨n0, n1, m0, m1⟩ := FIN.out _ _ hs
    have hCW := (show (fun W : World => W.cell? ⟨w.heap.size, 0, none⟩ = some (.int .i64 n) ∧ W.cell? ⟨w.heap.size, 1, none⟩ = some (.slice a es.length c)) _ from ⟨n0, n1⟩)
    go_wp2_with fail
    refine Mix.post_mk (C := (fun W : World => W.cell? ⟨w.heap.size, 0, none⟩ = some (.int .i64 n) ∧ W.cell? ⟨w.heap.size, 1, none⟩ = some (.slice a es.length c))) (by first | exact hCW | exact HCW.out _) (hK _ _ ?_)
    clear hK K
    (refine Mix.step1 fun K hK => ?_; go_simp; refine ⟨fun W => ?_, hK _ _ ?_⟩; (intro hW1; (try intro hW2); (try intro hW3); (try intro hW4); go_simp); clear hK K)
    (refine Mix.step1 fun K hK => ?_; go_simp; (try (go_bits; try go_simp)); first | ((with_reducible refine hK _ _ ?_); clear hK K) | ((try (simp only [IntWalk.iteOmega]; try go_simp)); (try go_bits); (with_reducible refine hK _ _ ?_); clear hK K))
    refine Mix.step2n (by first | rfl | simp [Region.wanted, yielded]) fun K hK => ?_
    go_wp2_with fail
    refine (rflows_any n _ _ es _ fl _ (hs.rdG gn) (hs.rd gf)).mono ?_
    rintro en wx ⟨rfl, hb⟩
    replace hs := hs.belowStep hb
    clear hb
    (try clear hCW); (try clear n0 n1); (try clear m0 m1)
    obtain ⟨n0, n1, m0, m1⟩ := FIN.out _ _ hs
    have hCW := (show (fun W : World => W.cell? ⟨w.heap.size, 0, none⟩ = some (.int .i64 n) ∧ W.cell? ⟨w.heap.size, 1, none⟩ = some (.slice a es.length c)) _ from ⟨n0, n1⟩)
    go_wp2_with fail
    refine Mix.post_mk (C := (fun W : World => W.cell? ⟨w.heap.size, 0, none⟩ = some (.int .i64 n) ∧ W.cell? ⟨w.heap.size, 1, none⟩ = some (.slice a es.length c))) (by first | exact hCW | exact HCW.out _) (hK _ _ ?_)
    clear hK K
    iterate 1 (first | (refine Mix.stepS rfl fun K hK => ?_; go_simp; (with_reducible refine hK _ _ ?_); clear hK K) | (refine Mix.step0 fun K hK => ?_; go_simp; (try (go_bits; try go_simp)); first | ((with_reducible refine hK _ _ ?_); clear hK K) | ((try (simp only [IntWalk.iteOmega]; try go_simp)); (try go_bits); (with_reducible refine hK _ _ ?_); clear hK K)))
    iterate 2 (refine Mix.step0 fun K hK => ?_; go_simp; (try (go_bits; try go_simp)); first | ((with_reducible refine hK _ _ ?_); clear hK K) | ((try (simp only [IntWalk.iteOmega]; try go_simp)); (try go_bits); (with_reducible refine hK _ _ ?_); clear hK K))
    iterate 2 (first | (refine Mix.stepS rfl fun K hK => ?_; go_simp; (with_reducible refine hK _ _ ?_); clear hK K) | (refine Mix.step0 fun K hK => ?_; go_simp; (try (go_bits; try go_simp)); first | ((with_reducible refine hK _ _ ?_); clear hK K) | ((try (simp only [IntWalk.iteOmega]; try go_simp)); (try go_bits); (with_reducible refine hK _ _ ?_); clear hK K)))
    refine Mix.step2n (by first | rfl | simp [Region.wanted, yielded]) fun K hK => ?_
    go_wp2_with fail
    refine (cost_any n _ _ es _ fl _ (hs.rdG gm) (hs.rd gl)).mono ?_
    rintro en wx ⟨rfl, hb⟩
    replace hs := hs.belowStep hb
    clear hb
    (try clear hCW); (try clear n0 n1); (try clear m0 m1)
    obtain ⟨n0, n1, m0, m1⟩ := FIN.out _ _ hs
    have hCW := (show (fun W : World => W.cell? ⟨w.heap.size, 0, none⟩ = some (.int .i64 n) ∧ W.cell? ⟨w.heap.size, 1, none⟩ = some (.slice a es.length c)) _ from ⟨n0, n1⟩)
    go_wp2_with fail
    refine Mix.post_mk (C := (fun W : World => W.cell? ⟨w.heap.size, 0, none⟩ = some (.int .i64 n) ∧ W.cell? ⟨w.heap.size, 1, none⟩ = some (.slice a es.length c))) (by first | exact hCW | exact HCW.out _) (hK _ _ ?_)
    clear hK K
    (refine Mix.step1 fun K hK => ?_; go_simp; refine ⟨fun W => ?_, hK _ _ ?_⟩; (intro hW1; (try intro hW2); (try intro hW3); (try intro hW4); go_simp); clear hK K)
    (refine Mix.step1 fun K hK => ?_; go_simp; (try (go_bits; try go_simp)); first | ((with_reducible refine hK _ _ ?_); clear hK K) | ((try (simp only [IntWalk.iteOmega]; try go_simp)); (try go_bits); (with_reducible refine hK _ _ ?_); clear hK K))
    refine Mix.step2n (by first | rfl | simp [Region.wanted, yielded]) fun K hK => ?_
    go_wp2_with fail
    refine (rcost_any n _ _ es _ fl _ (hs.rdG gn) (hs.rd gf)).mono ?_
    rintro en wx ⟨rfl, hb⟩
    replace hs := hs.belowStep hb
    clear hb
    (try clear hCW); (try clear n0 n1); (try clear m0 m1)
    obtain ⟨n0, n1, m0, m1⟩ := FIN.out _ _ hs
    have hCW := (show (fun W : World => W.cell? ⟨w.heap.size, 0, none⟩ = some (.int .i64 n) ∧ W.cell? ⟨w.heap.size, 1, none⟩ = some (.slice a es.length c)) _ from ⟨n0, n1⟩)
    go_wp2_with fail
    refine Mix.post_mk (C := (fun W : World => W.cell? ⟨w.heap.size, 0, none⟩ = some (.int .i64 n) ∧ W.cell? ⟨w.heap.size, 1, none⟩ = some (.slice a es.length c))) (by first | exact hCW | exact HCW.out _) (hK _ _ ?_)
    clear hK K
    iterate 1 (first | (refine Mix.stepS rfl fun K hK => ?_; go_simp; (with_reducible refine hK _ _ ?_); clear hK K) | (refine Mix.step0 fun K hK => ?_; go_simp; (try (go_bits; try go_simp)); first | ((with_reducible refine hK _ _ ?_); clear hK K) | ((try (simp only [IntWalk.iteOmega]; try go_simp)); (try go_bits); (with_reducible refine hK _ _ ?_); clear hK K)))
    iterate 1 (refine Mix.step0 fun K hK => ?_; go_simp; (try (go_bits; try go_simp)); first | ((with_reducible refine hK _ _ ?_); clear hK K) | ((try (simp only [IntWalk.iteOmega]; try go_simp)); (try go_bits); (with_reducible refine hK _ _ ?_); clear hK K))
    refine Mix.done ?_
    go_wp2_with fail
    replace hs := hs.drew
    (try clear hCW); (try clear n0 n1); (try clear m0 m1)
    obtain ⟨n0, n1, m0, m1⟩ := FIN.out _ _ hs
    have hCW := (show (fun W : World => W.cell? ⟨w.heap.size, 0, none⟩ = some (.int .i64 n) ∧ W.cell? ⟨w.heap.size, 1, none⟩ = some (.slice a es.length c)) _ from ⟨n0, n1⟩)
    refine Mix.region [0, 0, 2, 1, 1, 2, 2, 0, 0, 0, 2, 0, 0, 0, 0, 2, 0, 0, 2, 0, 0] (fun W : World => W.cell? ⟨w.heap.size, 0, none⟩ = some (.int .i64 n) ∧ W.cell? ⟨w.heap.size, 1, none⟩ = some (.slice a es.length c)) (by kernel_rfl) (by kernel_rfl) hCW ?_
    simp only [List.zip_cons_cons, List.zip_nil_right]
    iterate 2 (refine Mix.step0 fun K hK => ?_; go_simp; (try (go_bits; try go_simp)); first | ((with_reducible refine hK _ _ ?_); clear hK K) | ((try (simp only [IntWalk.iteOmega]; try go_simp)); (try go_bits); (with_reducible refine hK _ _ ?_); clear hK K))
    refine Mix.step2n (by first | rfl | simp [Region.wanted, yielded]) fun K hK => ?_
    go_wp2_with fail
    refine (over_any n _ _ es _ fl _ (hs.rdG gm) (hs.rd gl)).mono ?_
    rintro en wx ⟨u1, rfl, hsx⟩
    replace hs := hs.join hsx
    clear hsx
    simp only [List.cons_append, List.nil_append] at hs
    (try clear hCW); (try clear n0 n1); (try clear m0 m1)
    obtain ⟨n0, n1, m0, m1⟩ := FIN.out _ _ hs
    have hCW := (show (fun W : World => W.cell? ⟨w.heap.size, 0, none⟩ = some (.int .i64 n) ∧ W.cell? ⟨w.heap.size, 1, none⟩ = some (.slice a es.length c)) _ from ⟨n0, n1⟩)
    go_wp2_with fail
    refine Mix.post_mk (C := (fun W : World => W.cell? ⟨w.heap.size, 0, none⟩ = some (.int .i64 n) ∧ W.cell? ⟨w.heap.size, 1, none⟩ = some (.slice a es.length c))) (by first | exact hCW | exact HCW.out _) (hK _ _ ?_)
    clear hK K
    (refine Mix.step1 fun K hK => ?_; go_simp; refine ⟨fun W => ?_, hK _ _ ?_⟩; (intro hW1; (try intro hW2); (try intro hW3); (try intro hW4); go_simp); clear hK K)
    (refine Mix.step1 fun K hK => ?_; go_simp; (try (go_bits; try go_simp)); first | ((with_reducible refine hK _ _ ?_); clear hK K) | ((try (simp only [IntWalk.iteOmega]; try go_simp)); (try go_bits); (with_reducible refine hK _ _ ?_); clear hK K))
    refine Mix.step2n (by first | rfl | simp [Region.wanted, yielded]) fun K hK => ?_
    go_wp2_with fail
    refine (rover_any n _ _ es _ fl _ (hs.rdG gn) (hs.rd gf)).mono ?_
    rintro en wx ⟨u2, rfl, hsx⟩
    replace hs := hs.join hsx
    clear hsx
    simp only [List.cons_append, List.nil_append] at hs
    (try clear hCW); (try clear n0 n1); (try clear m0 m1)
    obtain ⟨n0, n1, m0, m1⟩ := FIN.out _ _ hs
    have hCW := (show (fun W : World => W.cell? ⟨w.heap.size, 0, none⟩ = some (.int .i64 n) ∧ W.cell? ⟨w.heap.size, 1, none⟩ = some (.slice a es.length c)) _ from ⟨n0, n1⟩)
    go_wp2_with fail
    refine Mix.post_mk (C := (fun W : World => W.cell? ⟨w.heap.size, 0, none⟩ = some (.int .i64 n) ∧ W.cell? ⟨w.heap.size, 1, none⟩ = some (.slice a es.length c))) (by first | exact hCW | exact HCW.out _) (hK _ _ ?_)
    clear hK K
    refine Mix.step2n (by first | rfl | simp [Region.wanted, yielded]) fun K hK => ?_
    go_wp2_with fail
    refine (rsame_any _ _ _ _ _ (hs.rdInts 1 rfl) (hs.rdInts 0 rfl)).mono ?_
    rintro en wx ⟨rfl, hsx⟩
    rw [decide_eq_true rfl]
    replace hs := hs.belowStep hsx.below
    clear hsx
    (try clear hCW); (try clear n0 n1); (try clear m0 m1)
    obtain ⟨n0, n1, m0, m1⟩ := FIN.out _ _ hs
    have hCW := (show (fun W : World => W.cell? ⟨w.heap.size, 0, none⟩ = some (.int .i64 n) ∧ W.cell? ⟨w.heap.size, 1, none⟩ = some (.slice a es.length c)) _ from ⟨n0, n1⟩)
    go_wp2_with fail
    refine Mix.post_mk (C := (fun W : World => W.cell? ⟨w.heap.size, 0, none⟩ = some (.int .i64 n) ∧ W.cell? ⟨w.heap.size, 1, none⟩ = some (.slice a es.length c))) (by first | exact hCW | exact HCW.out _) (hK _ _ ?_)
    clear hK K
    iterate 1 (refine Mix.step0 fun K hK => ?_; go_simp; (try (go_bits; try go_simp)); first | ((with_reducible refine hK _ _ ?_); clear hK K) | ((try (simp only [IntWalk.iteOmega]; try go_simp)); (try go_bits); (with_reducible refine hK _ _ ?_); clear hK K))
    iterate 2 (first | (refine Mix.stepS rfl fun K hK => ?_; go_simp; (with_reducible refine hK _ _ ?_); clear hK K) | (refine Mix.step0 fun K hK => ?_; go_simp; (try (go_bits; try go_simp)); first | ((with_reducible refine hK _ _ ?_); clear hK K) | ((try (simp only [IntWalk.iteOmega]; try go_simp)); (try go_bits); (with_reducible refine hK _ _ ?_); clear hK K)))
    refine Mix.step2n (by first | rfl | simp [Region.wanted, yielded]) fun K hK => ?_
    go_wp2_with fail
    refine (sameNet_same n _ _ _ _ es _ (hs.rdG gm) (hs.rdG gn)).mono ?_
    rintro en wx ⟨rfl, hb⟩
    replace hs := hs.belowStep hb
    clear hb
    (try clear hCW); (try clear n0 n1); (try clear m0 m1)
    obtain ⟨n0, n1, m0, m1⟩ := FIN.out _ _ hs
    have hCW := (show (fun W : World => W.cell? ⟨w.heap.size, 0, none⟩ = some (.int .i64 n) ∧ W.cell? ⟨w.heap.size, 1, none⟩ = some (.slice a es.length c)) _ from ⟨n0, n1⟩)
    go_wp2_with fail
    refine Mix.post_mk (C := (fun W : World => W.cell? ⟨w.heap.size, 0, none⟩ = some (.int .i64 n) ∧ W.cell? ⟨w.heap.size, 1, none⟩ = some (.slice a es.length c))) (by first | exact hCW | exact HCW.out _) (hK _ _ ?_)
    clear hK K
    iterate 2 (refine Mix.step0 fun K hK => ?_; go_simp; (try (go_bits; try go_simp)); first | ((with_reducible refine hK _ _ ?_); clear hK K) | ((try (simp only [IntWalk.iteOmega]; try go_simp)); (try go_bits); (with_reducible refine hK _ _ ?_); clear hK K))
    iterate 2 (first | (refine Mix.stepS rfl fun K hK => ?_; go_simp; (with_reducible refine hK _ _ ?_); clear hK K) | (refine Mix.step0 fun K hK => ?_; go_simp; (try (go_bits; try go_simp)); first | ((with_reducible refine hK _ _ ?_); clear hK K) | ((try (simp only [IntWalk.iteOmega]; try go_simp)); (try go_bits); (with_reducible refine hK _ _ ?_); clear hK K)))
    refine Mix.step2n (by first | rfl | simp [Region.wanted, yielded]) fun K hK => ?_
    go_wp2_with fail
    refine (rsame_any _ _ fl fl _ (hs.rd gl) (hs.rd gf)).mono ?_
    rintro en wx ⟨rfl, hsx⟩
    rw [decide_eq_true rfl]
    replace hs := hs.belowStep hsx.below
    clear hsx
    (try clear hCW); (try clear n0 n1); (try clear m0 m1)
    obtain ⟨n0, n1, m0, m1⟩ := FIN.out _ _ hs
    have hCW := (show (fun W : World => W.cell? ⟨w.heap.size, 0, none⟩ = some (.int .i64 n) ∧ W.cell? ⟨w.heap.size, 1, none⟩ = some (.slice a es.length c)) _ from ⟨n0, n1⟩)
    go_wp2_with fail
    refine Mix.post_mk (C := (fun W : World => W.cell? ⟨w.heap.size, 0, none⟩ = some (.int .i64 n) ∧ W.cell? ⟨w.heap.size, 1, none⟩ = some (.slice a es.length c))) (by first | exact hCW | exact HCW.out _) (hK _ _ ?_)
    clear hK K
    iterate 2 (refine Mix.step0 fun K hK => ?_; go_simp; (try (go_bits; try go_simp)); first | ((with_reducible refine hK _ _ ?_); clear hK K) | ((try (simp only [IntWalk.iteOmega]; try go_simp)); (try go_bits); (with_reducible refine hK _ _ ?_); clear hK K))
    refine Mix.step2n (by first | rfl | simp [Region.wanted, yielded]) fun K hK => ?_
    go_wp2_with fail
    refine (works_any _).mono ?_
    rintro en wx ⟨rfl, hb⟩
    replace hs := hs.belowStep hb
    clear hb
    (try clear hCW); (try clear n0 n1); (try clear m0 m1)
    obtain ⟨n0, n1, m0, m1⟩ := FIN.out _ _ hs
    have hCW := (show (fun W : World => W.cell? ⟨w.heap.size, 0, none⟩ = some (.int .i64 n) ∧ W.cell? ⟨w.heap.size, 1, none⟩ = some (.slice a es.length c)) _ from ⟨n0, n1⟩)
    go_wp2_with fail
    refine Mix.post_mk (C := (fun W : World => W.cell? ⟨w.heap.size, 0, none⟩ = some (.int .i64 n) ∧ W.cell? ⟨w.heap.size, 1, none⟩ = some (.slice a es.length c))) (by first | exact hCW | exact HCW.out _) (hK _ _ ?_)
    clear hK K
    iterate 2 (refine Mix.step0 fun K hK => ?_; go_simp; (try (go_bits; try go_simp)); first | ((with_reducible refine hK _ _ ?_); clear hK K) | ((try (simp only [IntWalk.iteOmega]; try go_simp)); (try go_bits); (with_reducible refine hK _ _ ?_); clear hK K))
    refine Mix.done ?_
    have HZ := Lib.hid (HB.out.trans (hs.below.mono HB.out.size))
    clear hs hCW n0 n1 m0 m1
    go_wp2_with fail
    go_ret
    exact ⟨rfl, HZ.out⟩
end Go.Proofs.Ytdjkpnddjiapgaa
