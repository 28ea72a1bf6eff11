/-
  The reference's nets: Copy, walked.
-/
import Derived.Test.YtmfjfhmoljnnkaaNW2
import Derived.Test.YtmfjfhmoljnnkaaSeq
namespace Go.Proofs.Ytmfjfhmoljnnkaa
open Go Go.RowKit Go.Mem Go.NetP

theorem Try.infoEdge : (Try.prog.info? 44).map (fun i => (i.zero, i.size, i.bytes)) = some (some (.agg #[.int .i64 0, .int .i64 0, .int .i64 0, .int .i64 0]), 4, 32) := by kernel_rfl
set_option maxHeartbeats 1000000 in
theorem copy_any (n : Int) (a : Option Addr) (c : Nat) (es : List Ed) (w : World) (h : RdG edR w (.slice a es.length c) es) (hsm : es.length ≤ 1000000) :
    Calls Try.prog 11 #[.agg #[.int .i64 n, .slice a es.length c]] w fun en w' => ∃ a' c', en = .returned (.agg #[.int .i64 n, .slice a' es.length c']) ∧ Sep w w' [recT edR 44 (.slice a' es.length c') es] := by
  obtain ⟨i0, hi0, hz0, hz1, hz2⟩ := info_parts Try.infoEdge
  have hs0 := (Sep.start w).newCells #[.int .i64 n, .slice a es.length c] 24
  have hs1 := hs0.newCells #[.int .i64 0, .slice none 0 0] 24
  have hs2 := (hs1.litRecs edR 44 [] (by simp [maxLen])).drew
  simp only [World.size_alloc, List.length_nil, Rec.flat, List.flatMap_nil] at hs1 hs2
  go_enter Try.func11, Try.ntmps11
  go_wp2_with fail
  have FIN := Lib.hid (fun (W : World) (L : List Thing) (h : Sep w W (L ++ [cellsT w.heap.size #[.int .i64 n, .slice a es.length c] 24])) =>
    (show (fun W : World => W.cell? ⟨w.heap.size, 0, none⟩ = some (.int .i64 n) ∧ W.cell? ⟨w.heap.size, 1, none⟩ = some (.slice a es.length c)) W from by
      have hi : (L ++ [cellsT w.heap.size #[.int .i64 n, .slice a es.length c] 24])[L.length]? = some (cellsT w.heap.size #[.int .i64 n, .slice a es.length c] 24) := by simp
      exact ⟨cell_of (h.cells L.length hi) 0, cell_of (h.cells L.length hi) 1⟩))
  have hCW := FIN.out _ [_] hs1.drew
  refine Mix.region [1, 1, 2, 1, 1, 2, 0, 2] (fun W : World => W.cell? ⟨w.heap.size, 0, none⟩ = some (.int .i64 n) ∧ W.cell? ⟨w.heap.size, 1, none⟩ = some (.slice a es.length c)) (by kernel_rfl) (by kernel_rfl) hCW ?_
  simp only [List.zip_cons_cons, List.zip_nil_right]
  (refine Mix.step1 fun K hK => ?_; go_simp; (try (go_bits; try go_simp)); first | ((with_reducible refine hK _ _ ?_); clear hK K) | ((try (simp only [IntWalk.iteOmega]; try go_simp)); (try go_bits); (with_reducible refine hK _ _ ?_); clear hK K))
  (refine Mix.step1 fun K hK => ?_; go_simp; refine ⟨fun W => ?_, hK _ _ ?_⟩; (intro hW1; (try intro hW2); (try intro hW3); (try intro hW4); (try intro hW5); (try intro hW6); (try intro hW7); (try intro hW8); go_simp); clear hK K)
  refine Mix.step2n (by first | rfl | simp [Region.wanted, yielded]) fun K hK => ?_
  go_wp2_with fail
  have hCW := FIN.out _ [_, _] hs2
  refine Mix.post_mk (C := (fun W : World => W.cell? ⟨w.heap.size, 0, none⟩ = some (.int .i64 n) ∧ W.cell? ⟨w.heap.size, 1, none⟩ = some (.slice a es.length c))) (by first | exact hCW | exact HCW.out _) (hK _ _ ?_)
  clear hK K
  (refine Mix.step1 fun K hK => ?_; go_simp; (try (go_bits; try go_simp)); first | ((with_reducible refine hK _ _ ?_); clear hK K) | ((try (simp only [IntWalk.iteOmega]; try go_simp)); (try go_bits); (with_reducible refine hK _ _ ?_); clear hK K))
  (refine Mix.step1 fun K hK => ?_; go_simp; refine ⟨fun W => ?_, hK _ _ ?_⟩; (intro hW1; (try intro hW2); (try intro hW3); (try intro hW4); (try intro hW5); (try intro hW6); (try intro hW7); (try intro hW8); go_simp); clear hK K)
  refine Mix.step2n (by first | rfl | simp [Region.wanted, yielded]) fun K hK => ?_
  refine wpList_appRdG edR rfl (.tmp 5) (.tmp 7) 22 rfl 44 i0 _ 32 Try.underlying22 hi0 hz0 hz1 hz2 rfl _ [] _ es hs2 0 rfl (hs2.rdG h) rfl rfl (by simp [maxLen]; omega) (by simp; omega) ?_
  intro v' w2 hs3
  (try simp only [List.set_cons_zero, List.nil_append] at hs3)
  obtain ⟨a', c', rfl⟩ := (hs3.rdRecs 0 rfl).shape
  have hCW := FIN.out _ [_, _] hs3
  have q0 := cell_of (hs3.cells 1 rfl) 0
  have q1 := cell_of (hs3.cells 1 rfl) 1
  have qf := fun j => frozen_of (hs3.cells 1 rfl) j
  simp only [List.getElem?_toArray, List.getElem?_cons_zero, List.getElem?_cons_succ] at q0 q1
  clear hs1 hs2
  go_wp2_with fail
  refine Mix.post_mk (C := (fun W : World => W.cell? ⟨w.heap.size, 0, none⟩ = some (.int .i64 n) ∧ W.cell? ⟨w.heap.size, 1, none⟩ = some (.slice a es.length c))) (by first | exact hCW | exact HCW.out _) (hK _ _ ?_)
  clear hK K
  iterate 1 (refine Mix.step0 fun K hK => ?_; go_simp; (try (go_bits; try go_simp)); first | ((with_reducible refine hK _ _ ?_); clear hK K) | ((try (simp only [IntWalk.iteOmega]; try go_simp)); (try go_bits); (with_reducible refine hK _ _ ?_); clear hK K))
  refine Mix.step2n (by first | rfl | simp [Region.wanted, yielded]) fun K hK => ?_
  go_wp2_with fail
  have hs4 := ((hs3.setCells 1 rfl 0 (.int .i64 n) #[.int .i64 n, .slice none 0 0] rfl).setCells 1 rfl 1 (.slice a' es.length c') #[.int .i64 n, .slice a' es.length c'] rfl)
  have hCW := FIN.out _ [_, _] hs4
  refine Mix.post_mk (C := (fun W : World => W.cell? ⟨w.heap.size, 0, none⟩ = some (.int .i64 n) ∧ W.cell? ⟨w.heap.size, 1, none⟩ = some (.slice a es.length c))) (by first | exact hCW | exact HCW.out _) (hK _ _ ?_)
  clear hK K
  refine Mix.done ?_
  have q0 := cell_of (hs4.cells 1 rfl) 0
  have q1 := cell_of (hs4.cells 1 rfl) 1
  simp only [List.getElem?_toArray, List.getElem?_cons_zero, List.getElem?_cons_succ] at q0 q1
  go_wp2_with fail
  exact bodyPost_ret (v := .agg #[.int .i64 n, .slice a' es.length c']) (by simp [results, Try.results11, go_sem, q0, q1]) rfl ⟨_, _, rfl, hs4.takeN 1⟩
end Go.Proofs.Ytmfjfhmoljnnkaa
