/-
  Do: ons.
-/
import Derived.Test.YtpjbafpbgacnkaaDvDo2
set_option linter.unusedVariables false
set_option linter.unusedSimpArgs false
namespace Go.Proofs.Ytpjbafpbgacnkaa
open Go Go.RowKit Go.Mem Go.DevP
attribute [local go_sem] Oper.semAt_some
theorem Try.infoI64d : (Try.prog.info? 3).map (fun i => (i.zero, i.size, i.bytes)) = some (some (.int .i64 0), 1, 8) := by kernel_rfl
section
variable {w0 w : World} {b rb : Nat} {d : Dv} {k n c e : Int} {sh : Bool} {pa : Option Addr} {pn pc : Nat}
set_option maxRecDepth 100000 in
set_option maxHeartbeats 2000000 in
theorem do_on (hs0 : Sep w0 w [devT b d, refT rb d]) (hg : d.Good) (hbig : d.Big 1000000) (ps : List Int) (hp : Rd .i64 w0 (.slice pa pn pc) ps) (hpl : ps.length ≤ 200) :
    Calls Try.prog 11 #[.pointer (some ⟨b, 0, none⟩), .pointer (some ⟨rb, 0, none⟩), stV 6 k n c e sh (.slice pa pn pc)] w fun en w' => DoP w0 w' b rb (d.comesD ps) en := by
  obtain ⟨i0, hi0, hz0, hz1, hz2⟩ := info_parts Try.infoI64d
  have hs := hs0.newCells #[.int .i64 6, .int .i64 k, .int .i64 n, .int .u8 c, .int .u8 e, .bool sh, .slice pa pn pc] 35
  obtain ⟨B1, hB1⟩ : ∃ B1, B1 = w.heap.size := ⟨_, rfl⟩
  rw [← hB1] at hs
  have t0 := cell_of (hs.cells 0 rfl) 0
  have t1 := cell_of (hs.cells 0 rfl) 1
  have t2 := cell_of (hs.cells 0 rfl) 2
  have t3 := cell_of (hs.cells 0 rfl) 3
  have t4 := cell_of (hs.cells 0 rfl) 4
  have t5 := cell_of (hs.cells 0 rfl) 5
  have t6 := cell_of (hs.cells 0 rfl) 6
  simp only [List.getElem?_toArray, List.getElem?_cons_zero, List.getElem?_cons_succ] at t0 t1 t2 t3 t4 t5 t6
  clear hs0
  have HG := Lib.hid hg
  have HBIG := Lib.hid hbig
  have HP := Lib.hid hp
  clear hg hbig hp
  go_enter Try.func11, Try.ntmps11
  go_wp2_with fail
  rw [← hB1]
  clear hB1
  generalize World.alloc w _ = W1 at hs t0 t1 t2 t3 t4 t5 t6 ⊢
  clear t0 t1 t2 t3 t4 t5
  have hCW : (fun W : World => W.cell? ⟨B1, 6, none⟩ = some (.slice pa pn pc)) W1.drew := t6
  refine Mix.region [1, 2, 1, 1, 2, 2, 1, 1, 1, 2, 0, 0] (fun W : World => W.cell? ⟨B1, 6, none⟩ = some (.slice pa pn pc)) (by kernel_rfl) (by kernel_rfl) hCW ?_
  simp only [List.zip_cons_cons, List.zip_nil_right]
  (refine Mix.step1 fun K hK => ?_; go_simp; (try (go_bits; try go_simp)); first | ((with_reducible refine hK _ _ ?_); clear hK K) | ((try (simp only [IntWalk.iteOmega]; try go_simp)); (try go_bits); (with_reducible refine hK _ _ ?_); clear hK K))
  refine Mix.step2n (by first | rfl | simp [Region.wanted, yielded]) fun K hK => ?_
  go_wp2_with fail
  have hsl0 := hs.litInts .i64 3 [] (by decide)
  simp only [List.map_nil, List.length_nil] at hsl0
  have hsl := hsl0.drew
  clear hs hCW hsl0
  have t7 : (W1.alloc (.cells #[] 3)).cell? ⟨B1, 6, none⟩ = some (.slice pa pn pc) := cell_of (hsl.cells 1 rfl) 6
  have hCW : (fun W : World => W.cell? ⟨B1, 6, none⟩ = some (.slice pa pn pc)) (W1.alloc (.cells #[] 3)).drew := cell_of (hsl.cells 1 rfl) 6
  refine Mix.post_mk (C := (fun W : World => W.cell? ⟨B1, 6, none⟩ = some (.slice pa pn pc))) (by first | exact hCW | exact HCW.out _) (hK _ _ ?_)
  clear hK K
  (refine Mix.step1 fun K hK => ?_; go_simp; (try (go_bits; try go_simp)); first | ((with_reducible refine hK _ _ ?_); clear hK K) | ((try (simp only [IntWalk.iteOmega]; try go_simp)); (try go_bits); (with_reducible refine hK _ _ ?_); clear hK K))
  (refine Mix.step1 fun K hK => ?_; go_simp; refine ⟨fun W => ?_, hK _ _ ?_⟩; (intro hW1; (try intro hW2); (try intro hW3); (try intro hW4); (try intro hW5); (try intro hW6); (try intro hW7); (try intro hW8); go_simp); clear hK K)
  refine Mix.step2n (by first | rfl | simp [Region.wanted, yielded]) fun K hK => ?_
  refine wpList_appRd rfl (.tmp 134) (.tmp 136) 33 rfl 3 i0 _ 8 Try.underlying33 hi0 hz0 hz1 hz2 rfl _ [] .i64 _ ps hsl 0 rfl (hsl.rd HP.out) rfl rfl (by simp only [List.length_nil]; unfold maxLen; omega) (by simp only [List.length_nil]; omega) ?_
  intro v' w3 hs
  (try simp only [List.nil_append, List.set_cons_zero] at hs)
  clear hCW hsl t6 t7
  have hCW : (fun W : World => W.cell? ⟨B1, 6, none⟩ = some (.slice pa pn pc)) w3 := cell_of (hs.cells 1 rfl) 6
  obtain ⟨oa, oc, rfl⟩ := (hs.rdInts 0 rfl).shape
  have HW := Lib.hid (comes_any hs (i := 2) rfl HG.out HBIG.out ps oa ps.length oc ((hs.ints 0 rfl).capO _ _ _ rfl) (fun W R' h hm => h.rdMem (hm _ (mem_erase (j := 0) rfl (by decide)))))
  clear hs
  go_wp2_with fail
  refine Mix.post_mk (C := (fun W : World => W.cell? ⟨B1, 6, none⟩ = some (.slice pa pn pc))) (by first | exact hCW | exact HCW.out _) (hK _ _ ?_)
  clear hK K
  refine Mix.step2n (by first | rfl | simp [Region.wanted, yielded]) fun K hK => ?_
  go_wp2_with fail
  refine HW.out.mono ?_
  rintro en w4 ⟨rfl, hs4⟩
  (try simp only [List.set_cons_succ, List.set_cons_zero] at hs4)
  clear hCW
  have hCW : (fun W : World => W.cell? ⟨B1, 6, none⟩ = some (.slice pa pn pc)) w4 := cell_of (hs4.cells 1 rfl) 6
  have HR := Lib.hid (rcomes_any hs4 (i := 3) rfl HG.out HBIG.out ps pa pn pc HP.out)
  clear hs4
  obtain ⟨E, hE⟩ : ∃ E, E = d.comesE := ⟨_, rfl⟩
  rw [← hE] at HR ⊢
  clear hE
  go_wp2_with fail
  refine Mix.post_mk (C := (fun W : World => W.cell? ⟨B1, 6, none⟩ = some (.slice pa pn pc))) (by first | exact hCW | exact HCW.out _) (hK _ _ ?_)
  clear hK K
  (refine Mix.step1 fun K hK => ?_; go_simp; (try (go_bits; try go_simp)); first | ((with_reducible refine hK _ _ ?_); clear hK K) | ((try (simp only [IntWalk.iteOmega]; try go_simp)); (try go_bits); (with_reducible refine hK _ _ ?_); clear hK K))
  (refine Mix.step1 fun K hK => ?_; go_simp; (try (go_bits; try go_simp)); first | ((with_reducible refine hK _ _ ?_); clear hK K) | ((try (simp only [IntWalk.iteOmega]; try go_simp)); (try go_bits); (with_reducible refine hK _ _ ?_); clear hK K))
  (refine Mix.step1 fun K hK => ?_; go_simp; refine ⟨fun W => ?_, hK _ _ ?_⟩; (intro hW1; (try intro hW2); (try intro hW3); (try intro hW4); (try intro hW5); (try intro hW6); (try intro hW7); (try intro hW8); go_simp); clear hK K)
  refine Mix.step2n (by first | rfl | simp [Region.wanted, yielded]) fun K hK => ?_
  go_wp2_with fail
  refine HR.out.mono ?_
  rintro en w5 ⟨rfl, hs5⟩
  (try simp only [List.set_cons_succ, List.set_cons_zero] at hs5)
  clear hCW
  have hCW : (fun W : World => W.cell? ⟨B1, 6, none⟩ = some (.slice pa pn pc)) w5 := cell_of (hs5.cells 1 rfl) 6
  have HS := Lib.hid hs5.tail.tail
  clear hs5
  go_wp2_with fail
  refine Mix.post_mk (C := (fun W : World => W.cell? ⟨B1, 6, none⟩ = some (.slice pa pn pc))) (by first | exact hCW | exact HCW.out _) (hK _ _ ?_)
  clear hK K
  iterate 2 (refine Mix.step0 fun K hK => ?_; go_simp; (try (go_bits; try go_simp)); first | ((with_reducible refine hK _ _ ?_); clear hK K) | ((try (simp only [IntWalk.iteOmega]; try go_simp)); (try go_bits); (with_reducible refine hK _ _ ?_); clear hK K))
  refine Mix.done ?_
  go_wp2_with fail
  go_ret
  exact ⟨rfl, HS.out⟩
end
end Go.Proofs.Ytpjbafpbgacnkaa
