/-
  The document's dues: Add, walked.
-/
import Derived.Test.YthcmkljdhhepgaaUrW2
set_option linter.unusedVariables false
set_option linter.unusedSimpArgs false
namespace Go.Proofs.Ythcmkljdhhepgaa
open Go Go.RowKit Go.Mem Go.MoneyP Go.NetP Go.BuildP Go.DuesP Go.Maps Go.Shelf
attribute [local go_sem] Oper.semAt_some
section
variable {w0 w : World} {L : List Thing} {i b : Nat} {xs : List Du} {nx : Int}
/-- What Add says and leaves, by the document. -/
def RAddD (w0 : World) (L : List Thing) (i b : Nat) (xs : List Du) (nx : Int) (d : Du) (en : Ending) (w' : World) : Prop :=
  en = .returned (.tuple #[.int .u64 (addI xs nx d), .int .i64 (addE xs nx d)]) ∧ Sep w0 w' (L.set i (refD b (addS xs nx d) (addN xs nx d)))
theorem add_yes {d : Du} (h : addE xs nx d = 0) : addI xs nx d = nx ∧ addS xs nx d = xs ++ [d] ∧ addN xs nx d = nx + 1 := by
  unfold addI addS addN; rw [h]; exact ⟨if_pos rfl, if_pos rfl, if_pos rfl⟩
theorem radd_end {A B : Thing} {v : Value} (hi : L[i]? = some A) (h : Sep w0 w (B :: refO b v nx :: recT duR 36 v xs :: L.eraseIdx i)) : Sep w0 w (L.set i (refD b xs nx)) := Sep.refClose hi h.tail
set_option maxRecDepth 100000 in
set_option maxHeartbeats 2000000 in
theorem rAdd_any (hs : Sep w0 w L) (hi : L[i]? = some (refD b xs nx)) (hg : GoodS xs nx) (f t x we u : Int) :
    Calls Try.prog 38 #[.pointer (some ⟨b, 0, none⟩), .int .i64 f, .int .i64 t, .int .i64 x, .int .i64 we, .int .i64 u] w fun en w' => RAddD w0 L i b xs nx ⟨nx, f, t, x, we, u, false⟩ en w' := by
  obtain ⟨v, h⟩ := Sep.refOpen hs hi
  obtain ⟨i0, hi0, hz0, hz1, hz2⟩ := info_parts Try.infoDuz
  obtain ⟨j0, hj0, hy0, hy1, hy2⟩ := info_parts Try.infoI64b
  obtain ⟨av, cv, rfl⟩ := (h.rdRecs 1 rfl).shape
  obtain ⟨n, hn⟩ : ∃ n, n = xs.length := ⟨_, rfl⟩
  have HN := Lib.hid hn
  have hn64 : n ≤ 64 := by rw [hn]; exact hg.len
  rw [← hn] at h
  have c0 := cell_of ((h).cells 0 rfl) 0
  have c1 := cell_of ((h).cells 0 rfl) 1
  simp only [List.getElem?_toArray, List.getElem?_cons_zero, List.getElem?_cons_succ] at c0 c1
  have HI := Lib.hid hi
  have HG := Lib.hid hg
  have hB := h.newCells #[.int .u64 nx, .int .i64 f, .int .i64 t, .int .i64 x, .int .i64 we, .int .i64 u, .bool false] 36
  have e0 := cell_of ((hB).cells 0 rfl) 0
  have e1 := cell_of ((hB).cells 0 rfl) 1
  have e2 := cell_of ((hB).cells 0 rfl) 2
  have e3 := cell_of ((hB).cells 0 rfl) 3
  have e4 := cell_of ((hB).cells 0 rfl) 4
  have e5 := cell_of ((hB).cells 0 rfl) 5
  have e6 := cell_of ((hB).cells 0 rfl) 6
  simp only [List.getElem?_toArray, List.getElem?_cons_zero, List.getElem?_cons_succ] at e0 e1 e2 e3 e4 e5 e6
  obtain ⟨BD, hBD⟩ : ∃ BD, BD = w.heap.size := ⟨_, rfl⟩
  have HB := Lib.hid hB
  clear h hs hi hg hB hn
  go_enter Try.func38, Try.ntmps38
  go_wp2_with fail
  refine (rmayD_any ⟨nx, f, t, x, we, u, false⟩ _).mono ?_
  rintro en W2 ⟨rfl, hbl⟩
  have h2 := HB.out.belowStep hbl
  rw [← hBD] at h2 ⊢
  clear hbl HB hBD e0 e1 e2 e3 e4 e5 e6 c0 c1
  cases hm : mayD ⟨nx, f, t, x, we, u, false⟩
  · have HE := Lib.hid (add_err1 (xs := xs) (nx := nx) hm)
    obtain ⟨z1, z2, z3⟩ := add_err HE.out (by decide)
    have HI1 := Lib.hid z1
    have HS := Lib.hid (show Sep w0 W2 (L.set i (refD b (addS xs nx ⟨nx, f, t, x, we, u, false⟩) (addN xs nx ⟨nx, f, t, x, we, u, false⟩))) by rw [z2, z3]; exact radd_end HI.out h2)
    clear z1 z2 z3 h2
    go_wp2_with fail
    go_ret2
    exact ⟨by rw [HI1.out, HE.out]; rfl, HS.out⟩
  · have HM := Lib.hid hm
    clear hm
    have c0 := cell_of ((h2).cells 1 rfl) 0
    have c1 := cell_of ((h2).cells 1 rfl) 1
    simp only [List.getElem?_toArray, List.getElem?_cons_zero, List.getElem?_cons_succ] at c0 c1
    by_cases h64 : 64 ≤ n
    · have h64I : (64 : Int) ≤ (n : Int) := by omega
      have h64x : 64 ≤ xs.length := by rw [← HN.out]; exact h64
      have HE := Lib.hid (add_err6 (xs := xs) (nx := nx) HM.out (.inl h64x))
      obtain ⟨z1, z2, z3⟩ := add_err HE.out (by decide)
      have HI1 := Lib.hid z1
      have HS := Lib.hid (show Sep w0 W2 (L.set i (refD b (addS xs nx ⟨nx, f, t, x, we, u, false⟩) (addN xs nx ⟨nx, f, t, x, we, u, false⟩))) by rw [z2, z3]; exact radd_end HI.out h2)
      clear z1 z2 z3 h2
      go_wp2_with fail
      go_ret2
      exact ⟨by rw [HI1.out, HE.out]; rfl, HS.out⟩
    · have h64I : ¬ (64 : Int) ≤ (n : Int) := by omega
      have h64b : decide ((64 : Int) ≤ (n : Int)) = false := decide_eq_false h64I
      by_cases hlast : 4611686018427387904 ≤ nx
      · have HE := Lib.hid (add_err6 (xs := xs) (nx := nx) HM.out (.inr hlast))
        obtain ⟨z1, z2, z3⟩ := add_err HE.out (by decide)
        have HI1 := Lib.hid z1
        have HS := Lib.hid (show Sep w0 W2 (L.set i (refD b (addS xs nx ⟨nx, f, t, x, we, u, false⟩) (addN xs nx ⟨nx, f, t, x, we, u, false⟩))) by rw [z2, z3]; exact radd_end HI.out h2)
        clear z1 z2 z3 h2
        go_wp2_with fail
        go_ret2
        exact ⟨by rw [HI1.out, HE.out]; rfl, HS.out⟩
      · have HSE := Lib.hid (add_sum (xs := xs) (nx := nx) (d := ⟨nx, f, t, x, we, u, false⟩) HM.out (by rintro (q | q); (have := HN.out; omega); omega))
        have HAM := Lib.hid (ramounts_any _ xs W2 (h2.rdRecs 2 rfl) (by have := HN.out; omega))
        have H2 := Lib.hid h2
        clear h2
        go_wp2_with fail
        refine HAM.out.mono ?_
        rintro en W3 ⟨ua, rfl, k3⟩
        have h3 := (H2.out.join k3)
        have h3 : Sep w0 W3 (intsT .i64 2 ua (xs.map (·.x)) :: duC BD ⟨nx, f, t, x, we, u, false⟩ :: refO b (.slice av n cv) nx :: recT duR 36 (.slice av n cv) xs :: L.eraseIdx i) := h3
        obtain ⟨aa, ca, rfl⟩ := (h3.rdInts 0 rfl).shape
        obtain ⟨ams, hams⟩ : ∃ ams, ams = xs.map (·.x) := ⟨_, rfl⟩
        have haml : ams.length ≤ 1000 := by rw [hams, List.length_map, ← HN.out]; omega
        obtain ⟨AE, hAE⟩ : ∃ AE, AE = addE xs nx ⟨nx, f, t, x, we, u, false⟩ := ⟨_, rfl⟩
        have HAE := Lib.hid hAE
        have HSM := Lib.hid (show sumE (ams ++ [x]) = AE by rw [hAE, HSE.out, hams])
        rw [← hams] at h3 ⊢
        clear HAM hAE HSE k3 H2 hams c0 c1
        go_wp2_with (at_builtin; refine wpList_appInt rfl (.tmp 48) (.tmp 50) 68 rfl 2 j0 _ 8 Try.underlying68 hj0 hy0 hy1 hy2 rfl _ ams .i64 x h3 0 rfl rfl rfl ?c3 ?c4 ?grow)
        case c3 => unfold maxLen; omega
        case c4 => omega
        case grow =>
          intro v' W5 h5 hsh
          obtain ⟨gg, cap, rfl⟩ := hsh.out
          have h5 : Sep w0 W5 (intsT .i64 2 (.slice (some ⟨gg, 0, none⟩) (ams.length + 1) cap) (ams ++ [x]) :: duC BD ⟨nx, f, t, x, we, u, false⟩ :: refO b (.slice av n cv) nx :: recT duR 36 (.slice av n cv) xs :: L.eraseIdx i) := h5
          clear h3 hsh
          have hrd := h5.rdInts 0 rfl
          have h6 := h5.tail
          clear h5
          go_wp2_with fail
          refine (rsum_any _ (ams ++ [x]) _ hrd).mono ?_
          rintro en W6 ⟨rfl, rfl⟩
          rw [HSM.out]
          clear hrd HSM
          by_cases hz : AE = 0
          · subst hz
            have HA0 := Lib.hid (add_yes HAE.out.symm)
            have hn1 : 1 ≤ nx := HG.out.n1
            have c0 := cell_of ((h6).cells 1 rfl) 0
            have c1 := cell_of ((h6).cells 1 rfl) 1
            simp only [List.getElem?_toArray, List.getElem?_cons_zero, List.getElem?_cons_succ] at c0 c1
            have e0 := cell_of ((h6).cells 0 rfl) 0
            have e1 := cell_of ((h6).cells 0 rfl) 1
            have e2 := cell_of ((h6).cells 0 rfl) 2
            have e3 := cell_of ((h6).cells 0 rfl) 3
            have e4 := cell_of ((h6).cells 0 rfl) 4
            have e5 := cell_of ((h6).cells 0 rfl) 5
            have e6 := cell_of ((h6).cells 0 rfl) 6
            simp only [List.getElem?_toArray, List.getElem?_cons_zero, List.getElem?_cons_succ] at e0 e1 e2 e3 e4 e5 e6
            have hsa := (h6.alloc (.cells #[.int .u64 nx, .int .i64 f, .int .i64 t, .int .i64 x, .int .i64 we, .int .i64 u, .bool false] 36)).drew
            have hBB : (W5.alloc (.cells #[.int .u64 nx, .int .i64 f, .int .i64 t, .int .i64 x, .int .i64 we, .int .i64 u, .bool false] 36)).drew.heap[W5.heap.size]? = some (.cells #[.int .u64 nx, .int .i64 f, .int .i64 t, .int .i64 x, .int .i64 we, .int .i64 u, .bool false] 36 (0, 0)) := heap_alloc_new W5 _
            have hCW : (fun W : World => W.cell? ⟨b, 0, none⟩ = some (.slice av n cv)) W5.drew := c0
            have HSA := Lib.hid hsa
            clear hsa h6
            go_wp2_with fail
            refine Mix.region2 10 [1, 1, 1, 1, 1, 0, 2, 2, 0, 0, 2] (fun W : World => W.cell? ⟨b, 0, none⟩ = some (.slice av n cv)) (by kernel_rfl) (by kernel_rfl) hCW ?_
            simp only [List.zip_cons_cons, List.zip_nil_right, List.take_succ_cons, List.take_zero, List.drop_succ_cons, List.drop_zero]
            (refine Mix.step1 fun K hK => ?_; go_simp; (try (go_bits; try go_simp)); first | ((with_reducible refine hK _ _ ?_); clear hK K) | ((try (simp only [IntWalk.iteOmega]; try go_simp)); (try go_bits); (with_reducible refine hK _ _ ?_); clear hK K))
            (refine Mix.step1 fun K hK => ?_; go_simp; (try (go_bits; try go_simp)); first | ((with_reducible refine hK _ _ ?_); clear hK K) | ((try (simp only [IntWalk.iteOmega]; try go_simp)); (try go_bits); (with_reducible refine hK _ _ ?_); clear hK K))
            (refine Mix.step1 fun K hK => ?_; go_simp; (try (go_bits; try go_simp)); first | ((with_reducible refine hK _ _ ?_); clear hK K) | ((try (simp only [IntWalk.iteOmega]; try go_simp)); (try go_bits); (with_reducible refine hK _ _ ?_); clear hK K))
            (refine Mix.step1 fun K hK => ?_; go_simp; (try (go_bits; try go_simp)); first | ((with_reducible refine hK _ _ ?_); clear hK K) | ((try (simp only [IntWalk.iteOmega]; try go_simp)); (try go_bits); (with_reducible refine hK _ _ ?_); clear hK K))
            (refine Mix.step1 fun K hK => ?_; go_simp; refine ⟨fun W => ?_, hK _ _ ?_⟩; (intro hW1; (try intro hW2); (try intro hW3); (try intro hW4); (try intro hW5); (try intro hW6); (try intro hW7); (try intro hW8); go_simp); clear hK K)
            iterate 1 (refine Mix.step0 fun K hK => ?_; go_simp; (try (go_bits; try go_simp)); first | ((with_reducible refine hK _ _ ?_); clear hK K) | ((try (simp only [IntWalk.iteOmega]; try go_simp)); (try go_bits); (with_reducible refine hK _ _ ?_); clear hK K))
            refine Mix.step2n (by first | rfl | simp [Region.wanted, yielded]) fun K hK => ?_
            go_wp2_with fail
            have hsa := HSA.out
            have hCW := cell_of (hsa.cells 1 rfl) 0
            refine Mix.post_mk (C := (fun W : World => W.cell? ⟨b, 0, none⟩ = some (.slice av n cv))) (by first | exact hCW | exact HCW.out _) (hK _ _ ?_)
            clear hK K
            refine Mix.step2n (by first | rfl | simp [Region.wanted, yielded]) fun K hK => ?_
            refine wpList_appRecB duR rfl (.tmp 62) (.tmp 64) 41 rfl 36 i0 _ 56 Try.underlying41 hi0 hz0 hz1 hz2 rfl _ xs ⟨nx, f, t, x, we, u, false⟩ hsa 2 rfl W5.heap.size _ rfl hBB rfl rfl (by have := HN.out; unfold maxLen; omega) (by have := HN.out; omega) ?_
            intro v2 W7 h7 hsh
            obtain ⟨g2, cap2, rfl⟩ := hsh.out
            have h7 : Sep w0 W7 (duC BD ⟨nx, f, t, x, we, u, false⟩ :: refO b (.slice av n cv) nx :: recT duR 36 (.slice (some ⟨g2, 0, none⟩) (xs.length + 1) cap2) (xs ++ [⟨nx, f, t, x, we, u, false⟩]) :: L.eraseIdx i) := h7
            clear hsa hsh hBB HSA c0 c1 e0 e1 e2 e3 e4 e5 e6
            have hCW := cell_of (h7.cells 1 rfl) 0
            have qf := fun j => frozen_of (h7.cells 1 rfl) j
            have hCW' := hCW
            simp only [List.getElem?_toArray, List.getElem?_cons_zero, List.getElem?_cons_succ] at hCW'
            have h8 := h7.setCells 1 rfl 0 (.slice (some ⟨g2, 0, none⟩) (xs.length + 1) cap2) _ rfl
            have H8 := Lib.hid h8
            clear h7 h8
            go_wp2_with fail
            refine Mix.post_mk (C := (fun W : World => W.cell? ⟨b, 0, none⟩ = some (.slice av n cv))) (by first | exact hCW | exact HCW.out _) (hK _ _ ?_)
            clear hK K
            iterate 2 (refine Mix.step0 fun K hK => ?_; go_simp; (try (go_bits; try go_simp)); first | ((with_reducible refine hK _ _ ?_); clear hK K) | ((try (simp only [IntWalk.iteOmega]; try go_simp)); (try go_bits); (with_reducible refine hK _ _ ?_); clear hK K))
            refine Mix.done ?_
            refine Mix.step2n (by first | rfl | simp [Region.wanted, yielded]) fun K hK => ?_
            go_wp2_with fail
            refine Mix.post_mk (C := (fun _ => True)) trivial (hK _ _ ?_)
            clear hK K
            refine Mix.done ?_
            have h8 := H8.out
            generalize World.setCell W7 _ _ = W8 at h8 ⊢
            have h8 : Sep w0 W8 (duC BD ⟨nx, f, t, x, we, u, false⟩ :: refO b (.slice (some ⟨g2, 0, none⟩) (xs.length + 1) cap2) nx :: recT duR 36 (.slice (some ⟨g2, 0, none⟩) (xs.length + 1) cap2) (xs ++ [⟨nx, f, t, x, we, u, false⟩]) :: L.eraseIdx i) := h8
            clear H8 qf hCW hCW'
            have c0 := cell_of ((h8).cells 1 rfl) 0
            have c1 := cell_of ((h8).cells 1 rfl) 1
            simp only [List.getElem?_toArray, List.getElem?_cons_zero, List.getElem?_cons_succ] at c0 c1
            have f1 := frozen_of (h8.cells 1 rfl) 1
            have h9 := h8.setCells 1 rfl 1 (.int .u64 (nx + 1)) _ rfl
            have e0 := cell_of ((h9).cells 0 rfl) 0
            have e1 := cell_of ((h9).cells 0 rfl) 1
            have e2 := cell_of ((h9).cells 0 rfl) 2
            have e3 := cell_of ((h9).cells 0 rfl) 3
            have e4 := cell_of ((h9).cells 0 rfl) 4
            have e5 := cell_of ((h9).cells 0 rfl) 5
            have e6 := cell_of ((h9).cells 0 rfl) 6
            simp only [List.getElem?_toArray, List.getElem?_cons_zero, List.getElem?_cons_succ] at e0 e1 e2 e3 e4 e5 e6
            have HS := Lib.hid (show Sep w0 _ (L.set i (refD b (addS xs nx ⟨nx, f, t, x, we, u, false⟩) (addN xs nx ⟨nx, f, t, x, we, u, false⟩))) by
              rw [HA0.out.2.1, HA0.out.2.2]; exact radd_end HI.out h9)
            clear h8 h9
            go_wp2_with fail
            go_ret2
            exact ⟨by rw [HA0.out.1, ← HAE.out]; rfl, HS.out⟩
          · obtain ⟨z1, z2, z3⟩ := add_err HAE.out.symm hz
            have HI1 := Lib.hid z1
            have HS := Lib.hid (show Sep w0 W5 (L.set i (refD b (addS xs nx ⟨nx, f, t, x, we, u, false⟩) (addN xs nx ⟨nx, f, t, x, we, u, false⟩))) by rw [z2, z3]; exact radd_end HI.out h6)
            clear z1 z2 z3 h6
            go_wp2_with fail
            go_ret2
            exact ⟨by rw [HI1.out, ← HAE.out]; rfl, HS.out⟩
end
end Go.Proofs.Ythcmkljdhhepgaa
