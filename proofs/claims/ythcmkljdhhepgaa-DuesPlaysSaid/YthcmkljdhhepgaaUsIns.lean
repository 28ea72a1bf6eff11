/-
  insertionSortOrdered at uint64, walked.
-/
import Derived.Test.YthcmkljdhhepgaaUsT
set_option linter.unusedVariables false
set_option linter.unusedSimpArgs false
namespace Go.Proofs.Ythcmkljdhhepgaa
open Go Go.RowKit Go.Mem Go.Sort
attribute [local go_sem] Oper.semAt_some
theorem insInner_size (a : Nat) : ∀ (j : Nat) (d : Array Int), (insInner ltInt a j d).size = d.size
  | 0, d => rfl
  | j + 1, d => by
    unfold insInner
    split
    · rw [insInner_size a j, size_swp]
    · rfl
section
variable {w0 w : World} {L : List Thing} {q g n c : Nat} {d : Array Int}
set_option maxRecDepth 100000 in
set_option maxHeartbeats 4000000 in
theorem insertion_u (hs : Sep w0 w L) (hi : L[q]? = some (uT g n c d)) (a b : Nat) (hab : a ≤ b) (hb : b ≤ d.size) (hsz : d.size ≤ 1000000) :
    Calls Try.prog 59 #[.slice (some ⟨g, 0, none⟩) n c, .int .i64 a, .int .i64 b] w fun en w' => en = .returned (.tuple #[]) ∧ Sep w0 w' (L.set q (uT g n c (insertionSort ltInt d a b))) := by
  have hn := (uT_len hs hi).1
  have HQ := Lib.hid (List.getElem?_eq_some_iff.1 hi).1
  obtain ⟨N, hN⟩ : ∃ N, N = d.size := ⟨_, rfl⟩
  have HN := Lib.hid hN
  rw [← hN] at hn hb hsz
  subst hn
  obtain ⟨T, hT⟩ : ∃ T, T = insertionSort ltInt d a b := ⟨_, rfl⟩
  have HT := Lib.hid (show insOuter ltInt a b (a + 1) d = T from hT.symm)
  rw [← hT]
  have hs1 : Sep w0 w (L.set q (uT g n c d)) := by rw [set_same hi]; exact hs
  clear hs hT hN
  go_enter Try.func59, Try.ntmps59
  go_wp2_with fail
  refine wp_loopM [none, none, none, none, none, none, some 6, some 7, none, none, some 10, some 11, some 12, some 13, some 14, some 15, some 16, some 17, some 18, some 19, some 20, some 21, some 22, some 23, some 24, some 25, some 26, some 27, some 28, some 29, some 30, some 31, some 32, some 33, some 34, some 35, some 36, some 37, some 38, some 39, some 40, some 41, some 42, some 43, some 44, some 45, some 46, some 47, some 48] (fun (r : Nat) (f : Nat → Value) (wr : World) => (fun (v : Value) => ∃ (i : Nat) (e : Array Int), v = .int .i64 i ∧ a + 1 ≤ i ∧ r = b - i ∧ Hid (e.size = n ∧ insOuter ltInt a b i e = T) ∧ Sep w0 wr (L.set q (uT g n c e))) (f 6)) ((b - (a + 1))) (by kernel_rfl) ?atStart1 ?round1
  case' atStart1 => (try dsimp only [nthV])
  case' round1 =>
    intro gk f wr l hl hrel J1 K1 hJ1 hK1
    (try simp only [mask] at hl)
    generalize f 6 = u6 at hl hrel
    subst hl
    (try dsimp only at hrel)
  case atStart1 => exact ⟨a + 1, d, by go_num, Nat.le_refl _, by omega, Lib.hid ⟨HN.out.symm, HT.out⟩, hs1⟩
  case round1 =>
    clear hs1
    obtain ⟨i, e, rfl, hai, rfl, HE, hs⟩ := hrel
    by_cases hib : i < b
    · have HE2 := Lib.hid (show insOuter ltInt a b (i + 1) (insInner ltInt a i e) = T by
        have := HE.out.2
        unfold insOuter at this
        rwa [if_pos hib] at this)
      obtain ⟨U, hU⟩ : ∃ U, U = insInner ltInt a i e := ⟨_, rfl⟩
      have HU := Lib.hid hU.symm
      have HUS := Lib.hid (show U.size = n by rw [hU, insInner_size]; exact HE.out.1)
      rw [← hU] at HE2
      clear hU
      go_wp2_with fail
      refine wp_loopM [none, none, none, none, none, none, none, some 7, none, none, none, none, none, none, none, none, some 16, some 17, some 18, some 19, some 20, some 21, some 22, some 23, some 24, some 25, some 26, some 27, some 28, some 29, some 30, some 31, some 32, some 33, some 34, some 35, some 36, some 37, some 38, some 39, some 40, some 41, some 42, some 43, some 44, some 45, some 46, some 47, some 48] (fun (r : Nat) (f : Nat → Value) (wr : World) => (fun (v : Value) => ∃ (j : Nat) (e : Array Int), v = .int .i64 j ∧ j ≤ i ∧ a ≤ j ∧ r = j ∧ Hid (e.size = n ∧ insInner ltInt a j e = U) ∧ Sep w0 wr (L.set q (uT g n c e))) (f 7)) (i) (by kernel_rfl) ?atStart2 ?round2
      case' atStart2 => (try dsimp only [nthV])
      case' round2 =>
        intro gk f wr l hl hrel J2 K2 hJ2 hK2
        (try simp only [mask] at hl)
        generalize f 7 = u7 at hl hrel
        subst hl
        (try dsimp only at hrel)
      case atStart2 => exact ⟨i, e, rfl, Nat.le_refl _, by omega, rfl, Lib.hid ⟨HE.out.1, HU.out⟩, hs⟩
      case round2 =>
        clear hs
        obtain ⟨j, f, rfl, hji, haj, hr, HF, hs⟩ := hrel
        have HR := Lib.hid hr
        clear hr
        have hq : (L.set q (uT g n c f))[q]? = some (uT g n c f) := List.getElem?_set_self HQ.out
        by_cases hgt : a < j
        · have hj1 : 1 ≤ j := by omega
          have x0 := uT_cell hs hq (k := j) (by rw [HF.out.1]; omega)
          have x1 := uT_cell hs hq (k := j - 1) (by rw [HF.out.1]; omega)
          have qf := uT_frozen hs hq (by rw [HF.out.1]; omega)
          have HF2 := Lib.hid (show (if ltInt f[j]! f[j - 1]! = true then insInner ltInt a (j - 1) (swp f j (j - 1)) else f) = U by
            have := HF.out.2
            obtain ⟨k, rfl⟩ : ∃ k, j = k + 1 := ⟨j - 1, by omega⟩
            unfold insInner at this
            simpa [hgt] using this)
          have HSW := Lib.hid (Sep.uSwp hs hq j (j - 1))
          have HSZ := Lib.hid (show (swp f j (j - 1)).size = n by rw [size_swp]; exact HF.out.1)
          have HFS := Lib.hid HF.out.1
          obtain ⟨xa, hxa⟩ : ∃ x, x = f[j]! := ⟨_, rfl⟩
          obtain ⟨xb, hxb⟩ : ∃ x, x = f[j - 1]! := ⟨_, rfl⟩
          rw [← hxa, ← hxb] at HF2 HSW
          rw [← hxa] at x0
          rw [← hxb] at x1
          clear hxa hxb HF
          obtain ⟨lt, hlt⟩ : ∃ lt, lt = ltInt xa xb := ⟨_, rfl⟩
          have HLT := Lib.hid hlt
          clear hlt
          have HS := Lib.hid hs
          clear hs hq
          go_wp2_with fail
          refine Mix.region [0, 0, 0, 0, 0, 0, 0, 0, 0, 0, 0, 0, 0, 2, 0] (fun _ => True) (by kernel_rfl) (by kernel_rfl) trivial ?_
          simp only [List.zip_cons_cons, List.zip_nil_right]
          iterate 4 (refine Mix.step0 fun K hK => ?_; go_simp; (try (go_bits; try go_simp)); first | ((with_reducible refine hK _ _ ?_); clear hK K) | ((try (simp only [IntWalk.iteOmega]; try go_simp)); (try go_bits); (with_reducible refine hK _ _ ?_); clear hK K))
          iterate 9 (first | (refine Mix.stepS rfl fun K hK => ?_; go_simp; (with_reducible refine hK _ _ ?_); clear hK K) | (refine Mix.step0 fun K hK => ?_; go_simp; (try (go_bits; try go_simp)); first | ((with_reducible refine hK _ _ ?_); clear hK K) | ((try (simp only [IntWalk.iteOmega]; try go_simp)); (try go_bits); (with_reducible refine hK _ _ ?_); clear hK K)))
          refine Mix.step2n (by first | rfl | simp [Region.wanted, yielded]) fun K hK => ?_
          go_wp2_with fail
          refine (less_u xa xb _).mono ?_
          rintro en w2 ⟨rfl, rfl⟩
          rw [← HLT.out]
          go_wp2_with fail
          refine Mix.post_mk (C := (fun _ => True)) trivial (hK _ _ ?_)
          clear hK K
          iterate 1 (refine Mix.step0 fun K hK => ?_; go_simp; (try (go_bits; try go_simp)); first | ((with_reducible refine hK _ _ ?_); clear hK K) | ((try (simp only [IntWalk.iteOmega]; try go_simp)); (try go_bits); (with_reducible refine hK _ _ ?_); clear hK K))
          refine Mix.done ?_
          cases lt
          · have HFU := Lib.hid (show f = U by
              have := HF2.out
              rwa [← HLT.out, if_neg (by decide)] at this)
            go_wp2_with fail
            refine Round.intro (b - (i + 1)) ?measure3 (by kernel_rfl) (hJ1 _ _ _ ?rel3)
            case' rel3 => (try dsimp only [nthV])
            case measure3 => omega
            case rel3 => exact ⟨i + 1, U, by go_num, by omega, rfl, Lib.hid ⟨HUS.out, HE2.out⟩, by rw [← HFU.out]; exact HS.out.drew⟩
          · have HFU := Lib.hid (show insInner ltInt a (j - 1) (swp f j (j - 1)) = U by
              have := HF2.out
              rwa [← HLT.out, if_pos rfl] at this)
            go_wp2_with fail
            refine Mix.region [0, 0, 1, 1, 1, 0, 0, 0, 0, 0, 0, 0, 0, 0, 0, 2, 0, 2] (fun _ => True) (by kernel_rfl) (by kernel_rfl) trivial ?_
            simp only [List.zip_cons_cons, List.zip_nil_right]
            iterate 2 (refine Mix.step0 fun K hK => ?_; go_simp; (try (go_bits; try go_simp)); first | ((with_reducible refine hK _ _ ?_); clear hK K) | ((try (simp only [IntWalk.iteOmega]; try go_simp)); (try go_bits); (with_reducible refine hK _ _ ?_); clear hK K))
            iterate 3 (refine Mix.step1 fun K hK => ?_; go_simp; (try (go_bits; try go_simp)); first | ((with_reducible refine hK _ _ ?_); clear hK K) | ((try (simp only [IntWalk.iteOmega]; try go_simp)); (try go_bits); (with_reducible refine hK _ _ ?_); clear hK K))
            iterate 10 (refine Mix.step0 fun K hK => ?_; go_simp; (try (go_bits; try go_simp)); first | ((with_reducible refine hK _ _ ?_); clear hK K) | ((try (simp only [IntWalk.iteOmega]; try go_simp)); (try go_bits); (with_reducible refine hK _ _ ?_); clear hK K))
            refine Mix.step2n (by first | rfl | simp [Region.wanted, yielded]) fun K hK => ?_
            go_wp2_with fail
            refine Mix.post_mk (C := (fun _ => True)) trivial (hK _ _ ?_)
            clear hK K
            iterate 1 (refine Mix.step0 fun K hK => ?_; go_simp; (try (go_bits; try go_simp)); first | ((with_reducible refine hK _ _ ?_); clear hK K) | ((try (simp only [IntWalk.iteOmega]; try go_simp)); (try go_bits); (with_reducible refine hK _ _ ?_); clear hK K))
            refine Mix.step2n (by first | rfl | simp [Region.wanted, yielded]) fun K hK => ?_
            go_wp2_with fail
            refine Mix.post_mk (C := (fun _ => True)) trivial (hK _ _ ?_)
            clear hK K
            refine Mix.done ?_
            go_wp2_with fail
            refine Round.intro (j - 1) ?measure4 (by kernel_rfl) (hJ2 _ _ _ ?rel4)
            case' rel4 => (try dsimp only [nthV])
            case measure4 => have := HR.out; omega
            case rel4 => exact ⟨j - 1, _, by congr 1; omega, by omega, by omega, rfl, Lib.hid ⟨HSZ.out, HFU.out⟩, by have := HSW.out.drew.drew; rwa [List.set_set] at this⟩
        · have HFU := Lib.hid (show f = U by
            have := HF.out.2
            cases j with
            | zero => exact this
            | succ k =>
              unfold insInner at this
              rwa [if_neg (by simp [hgt])] at this)
          clear HF
          go_wp2_with fail
          refine Mix.region [0, 0, 0, 0, 0, 0, 0, 0, 0, 0, 0, 0, 0, 2, 0] (fun _ => True) (by kernel_rfl) (by kernel_rfl) trivial ?_
          simp only [List.zip_cons_cons, List.zip_nil_right]
          iterate 4 (refine Mix.step0 fun K hK => ?_; go_simp; (try (go_bits; try go_simp)); first | ((with_reducible refine hK _ _ ?_); clear hK K) | ((try (simp only [IntWalk.iteOmega]; try go_simp)); (try go_bits); (with_reducible refine hK _ _ ?_); clear hK K))
          iterate 9 (first | (refine Mix.stepS rfl fun K hK => ?_; go_simp; (with_reducible refine hK _ _ ?_); clear hK K) | (refine Mix.step0 fun K hK => ?_; go_simp; (try (go_bits; try go_simp)); first | ((with_reducible refine hK _ _ ?_); clear hK K) | ((try (simp only [IntWalk.iteOmega]; try go_simp)); (try go_bits); (with_reducible refine hK _ _ ?_); clear hK K)))
          refine Mix.step2s (by first | rfl | simp [Region.wanted, yielded]) ?_
          iterate 1 (refine Mix.step0 fun K hK => ?_; go_simp; (try (go_bits; try go_simp)); first | ((with_reducible refine hK _ _ ?_); clear hK K) | ((try (simp only [IntWalk.iteOmega]; try go_simp)); (try go_bits); (with_reducible refine hK _ _ ?_); clear hK K))
          refine Mix.done ?_
          go_wp2_with fail
          refine Round.intro (b - (i + 1)) ?measure5 (by kernel_rfl) (hJ1 _ _ _ ?rel5)
          case' rel5 => (try dsimp only [nthV])
          case measure5 => omega
          case rel5 => exact ⟨i + 1, U, by go_num, by omega, rfl, Lib.hid ⟨HUS.out, HE2.out⟩, by rw [← HFU.out]; exact hs.drew⟩
    · have HTE := Lib.hid (show e = T by
        have := HE.out.2
        unfold insOuter at this
        rwa [if_neg hib] at this)
      clear HE
      go_wp2_with fail
      go_end0
      exact ⟨rfl, by rw [← HTE.out]; exact hs⟩
end
end Go.Proofs.Ythcmkljdhhepgaa
