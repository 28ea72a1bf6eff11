/-
  heapSortOrdered at uint64, walked.
-/
import Derived.Test.YthcmkljdhhepgaaUsHeap
set_option linter.unusedVariables false
set_option linter.unusedSimpArgs false
namespace Go.Proofs.Ythcmkljdhhepgaa
open Go Go.RowKit Go.Mem Go.Sort
attribute [local go_sem] Oper.semAt_some
theorem uT_put {w0 w : World} {L : List Thing} {q g n c : Nat} {d : Array Int} (hs : Sep w0 w L) (hq : L[q]? = some (uT g n c d)) (j k : Nat) (hk : k < d.size) (x : Int) : ∃ u, (w.setCell ⟨g, j, none⟩ (.int .u64 x)).cell? ⟨g, k, none⟩ = some u := by
  have h1 := hs.setInts (k := .u64) (j := j) q hq x
  have h2 : Sep w0 (w.setCell ⟨g, j, none⟩ (.int .u64 x)) (L.set q (uT g n c (d.setIfInBounds j x))) := by unfold uT; rw [Array.toList_setIfInBounds]; exact h1
  exact ⟨_, uT_cell (n := n) (c := c) (d := d.setIfInBounds j x) h2 (List.getElem?_set_self (List.getElem?_eq_some_iff.1 hq).1) (by rw [Array.size_setIfInBounds]; exact hk)⟩
theorem siftDown_size (hi first : Nat) : ∀ (m root : Nat) (d : Array Int), hi - root ≤ m → (siftDown ltInt hi first root d).size = d.size := by
  intro m
  induction m with
  | zero => intro root d h; unfold siftDown; rw [dif_pos (by omega)]
  | succ m ih =>
    intro root d h
    unfold siftDown
    split
    · rfl
    · split
      · split
        · rfl
        · split
          · rw [ih _ _ (by omega), size_swp]
          · rfl
      · split
        · rfl
        · rw [ih _ _ (by omega), size_swp]
theorem sift_size (hi first root : Nat) (d : Array Int) : (siftDown ltInt hi first root d).size = d.size := siftDown_size hi first _ root d (Nat.le_refl _)
theorem heapBuild_size (hi first : Nat) : ∀ (k : Nat) (d : Array Int), (heapBuild ltInt hi first k d).size = d.size
  | 0, d => rfl
  | k + 1, d => by unfold heapBuild; rw [heapBuild_size hi first k, sift_size]
section
variable {w0 w : World} {L : List Thing} {q g n c : Nat} {d : Array Int}
set_option maxRecDepth 100000 in
set_option maxHeartbeats 4000000 in
theorem heap_u (hs : Sep w0 w L) (hq0 : L[q]? = some (uT g n c d)) (a b : Nat) (hab : a < b) (hb : b ≤ d.size) (hsz : d.size ≤ 1000000) :
    Calls Try.prog 60 #[.slice (some ⟨g, 0, none⟩) n c, .int .i64 a, .int .i64 b] w fun en w' => en = .returned (.tuple #[]) ∧ Sep w0 w' (L.set q (uT g n c (heapSort ltInt d a b))) := by
  have hn := (uT_len hs hq0).1
  have HQ := Lib.hid (List.getElem?_eq_some_iff.1 hq0).1
  obtain ⟨N, hN⟩ : ∃ N, N = d.size := ⟨_, rfl⟩
  have HN := Lib.hid hN
  rw [← hN] at hn hb hsz
  subst hn
  obtain ⟨h, hh⟩ : ∃ h, h = b - a := ⟨_, rfl⟩
  obtain ⟨M, hM⟩ : ∃ M, M = heapBuild ltInt h a ((h - 1) / 2 + 1) d := ⟨_, rfl⟩
  have HM := Lib.hid hM.symm
  have HMS := Lib.hid (show M.size = n by rw [hM, heapBuild_size]; exact HN.out.symm)
  obtain ⟨T, hT⟩ : ∃ T, T = heapPop ltInt a h M := ⟨_, rfl⟩
  have HT := Lib.hid hT.symm
  rw [show heapSort ltInt d a b = T by unfold heapSort; rw [← hh, ← hM, hT]]
  have hs1 : Sep w0 w (L.set q (uT g n c d)) := by rw [set_same hq0]; exact hs
  have hbh : (b : Int) - (a : Int) = (h : Int) := by omega
  have hah : a + h ≤ n := by omega
  have hh0 : 0 < h := by omega
  have hh1 : h ≤ 1000000 := by omega
  clear hs hT hN hq0 hM hh
  go_enter Try.func60, Try.ntmps60
  go_wp2_with fail
  refine wp_loopM [none, none, none, none, none, none, none, none, none, some 9, none, none, none, none, none, none, none, none, some 18, some 19, some 20, some 21, some 22, some 23, some 24, some 25, some 26, none, none, none, none, none, none, none, none, none, none, none, none, none, none, none, none, none, none, none, none, none, none, none, none, none, none, none, none, none] (fun (r : Nat) (f : Nat → Value) (wr : World) => (fun (v : Value) => ∃ (k : Nat) (z : Int) (e : Array Int), v = .int .i64 z ∧ z + 1 = k ∧ k ≤ h ∧ r = k ∧ Hid (e.size = n ∧ heapBuild ltInt h a k e = M) ∧ Sep w0 wr (L.set q (uT g n c e))) (f 9)) (((h - 1) / 2 + 1)) (by kernel_rfl) ?atStart1 ?round1
  case' atStart1 => (try dsimp only [nthV])
  case' round1 =>
    intro gk f wr l hl hrel J1 K1 hJ1 hK1
    (try simp only [mask] at hl)
    generalize f 9 = u9 at hl hrel
    subst hl
    (try dsimp only at hrel)
  case atStart1 => exact ⟨(h - 1) / 2 + 1, _, d, rfl, by omega, by omega, rfl, Lib.hid ⟨HN.out.symm, HM.out⟩, hs1⟩
  case round1 =>
    clear hs1
    obtain ⟨k, z, e, rfl, hz, hk, hr, HE, hs⟩ := hrel
    have HR := Lib.hid hr
    clear hr
    have hq : (L.set q (uT g n c e))[q]? = some (uT g n c e) := List.getElem?_set_self HQ.out
    cases k with
    | succ p =>
      obtain rfl : z = (p : Int) := by omega
      clear hz
      have hz0 : (0 : Int) ≤ (p : Int) := by omega
      have HNX := Lib.hid (show heapBuild ltInt h a p (siftDown ltInt h a p e) = M from HE.out.2)
      have HSI := Lib.hid (sift_u hs hq p h a (by rw [HE.out.1]; omega) (by rw [HE.out.1]; omega) (by omega))
      clear hs hq
      go_wp2_with fail
      refine HSI.out.mono ?_
      rintro en w2 ⟨rfl, hs2⟩
      rw [List.set_set] at hs2
      go_wp2_with fail
      refine Round.intro (p) ?measure2 (by kernel_rfl) (hJ1 _ _ _ ?rel2)
      case' rel2 => (try dsimp only [nthV])
      case measure2 => have := HR.out; omega
      case rel2 => exact ⟨p, (p : Int) - 1, _, by go_num, by omega, by omega, rfl, Lib.hid ⟨by rw [sift_size]; exact HE.out.1, HNX.out⟩, hs2⟩
    | zero =>
      obtain rfl : z = -1 := by omega
      have HEM := Lib.hid (show e = M from HE.out.2)
      clear hz
      go_wp2_with fail
      refine wp_loopM [none, none, none, none, none, none, none, none, none, none, some 10, none, none, none, none, none, none, none, none, none, none, none, none, none, none, none, none, none, none, some 29, some 30, some 31, some 32, some 33, some 34, some 35, some 36, some 37, some 38, some 39, some 40, some 41, some 42, some 43, some 44, some 45, some 46, some 47, some 48, some 49, some 50, some 51, some 52, some 53, some 54, some 55] (fun (r : Nat) (f : Nat → Value) (wr : World) => (fun (v : Value) => ∃ (k : Nat) (z : Int) (e : Array Int), v = .int .i64 z ∧ z + 1 = k ∧ k ≤ h ∧ r = k ∧ Hid (e.size = n ∧ heapPop ltInt a k e = T) ∧ Sep w0 wr (L.set q (uT g n c e))) (f 10)) (h) (by kernel_rfl) ?atStart3 ?round3
      case' atStart3 => (try dsimp only [nthV])
      case' round3 =>
        intro gk f wr l hl hrel J2 K2 hJ2 hK2
        (try simp only [mask] at hl)
        generalize f 10 = u10 at hl hrel
        subst hl
        (try dsimp only at hrel)
      case atStart3 => exact ⟨h, _, e, rfl, by omega, Nat.le_refl _, rfl, Lib.hid ⟨HE.out.1, by rw [HEM.out]; exact HT.out⟩, hs⟩
      case round3 =>
        clear hs hq
        obtain ⟨k, z, f, rfl, hz, hk, hr, HF, hs⟩ := hrel
        have HR := Lib.hid hr
        clear hr
        have hq : (L.set q (uT g n c f))[q]? = some (uT g n c f) := List.getElem?_set_self HQ.out
        cases k with
        | succ p =>
          obtain rfl : z = (p : Int) := by omega
          clear hz
          have hz0 : (0 : Int) ≤ (p : Int) := by omega
          have y0 := uT_cell hs hq (k := a) (by rw [HF.out.1]; omega)
          have y1 := uT_cell hs hq (k := a + p) (by rw [HF.out.1]; omega)
          have qf := uT_frozen hs hq (by rw [HF.out.1]; omega)
          have HSW := Lib.hid (Sep.uSwp hs hq a (a + p))
          have HSZ := Lib.hid (show (swp f a (a + p)).size = n by rw [size_swp]; exact HF.out.1)
          have HNX := Lib.hid (show heapPop ltInt a p (siftDown ltInt p a 0 (swp f a (a + p))) = T from HF.out.2)
          obtain ⟨xa, hxa⟩ : ∃ x, x = f[a]! := ⟨_, rfl⟩
          obtain ⟨xb, hxb⟩ : ∃ x, x = f[a + p]! := ⟨_, rfl⟩
          rw [← hxa, ← hxb] at HSW
          rw [← hxa] at y0
          rw [← hxb] at y1
          obtain ⟨u, y2⟩ := uT_put hs hq a (a + p) (by rw [HF.out.1]; omega) xb
          clear hxa hxb hs hq
          go_wp2_with fail
          refine Mix.region [0, 0, 1, 1, 1, 1, 0, 0, 0, 0, 0, 0, 0, 0, 0, 0, 0, 2, 0, 2] (fun _ => True) (by kernel_rfl) (by kernel_rfl) trivial ?_
          simp only [List.zip_cons_cons, List.zip_nil_right]
          iterate 2 (refine Mix.step0 fun K hK => ?_; go_simp; (try (go_bits; try go_simp)); first | ((with_reducible refine hK _ _ ?_); clear hK K) | ((try (simp only [IntWalk.iteOmega]; try go_simp)); (try go_bits); (with_reducible refine hK _ _ ?_); clear hK K))
          iterate 4 (refine Mix.step1 fun K hK => ?_; go_simp; (try (go_bits; try go_simp)); first | ((with_reducible refine hK _ _ ?_); clear hK K) | ((try (simp only [IntWalk.iteOmega]; try go_simp)); (try go_bits); (with_reducible refine hK _ _ ?_); clear hK K))
          iterate 11 (refine Mix.step0 fun K hK => ?_; go_simp; (try (go_bits; try go_simp)); first | ((with_reducible refine hK _ _ ?_); clear hK K) | ((try (simp only [IntWalk.iteOmega]; try go_simp)); (try go_bits); (with_reducible refine hK _ _ ?_); clear hK K))
          refine Mix.step2n (by first | rfl | simp [Region.wanted, yielded]) fun K hK => ?_
          go_wp2_with fail
          refine Mix.post_mk (C := (fun _ => True)) trivial (hK _ _ ?_)
          clear hK K
          iterate 1 (refine Mix.step0 fun K hK => ?_; go_simp; (try (go_bits; try go_simp)); first | ((with_reducible refine hK _ _ ?_); clear hK K) | ((try (simp only [IntWalk.iteOmega]; try go_simp)); (try go_bits); (with_reducible refine hK _ _ ?_); clear hK K))
          refine Mix.step2n (by first | rfl | simp [Region.wanted, yielded]) fun K hK => ?_
          go_wp2_with fail
          refine Mix.post_mk (C := (fun _ => True)) trivial (hK _ _ ?_)
          clear hK K
          refine Mix.done ?_
          go_wp2_with fail
          have hs4 := HSW.out.drew
          rw [List.set_set] at hs4
          refine (sift_u hs4 (List.getElem?_set_self HQ.out) 0 p a (by rw [HSZ.out]; omega) (by rw [HSZ.out]; omega) (by omega)).mono ?_
          rintro en w2 ⟨rfl, hs2⟩
          rw [List.set_set] at hs2
          clear hs4
          go_wp2_with fail
          refine Round.intro (p) ?measure4 (by kernel_rfl) (hJ2 _ _ _ ?rel4)
          case' rel4 => (try dsimp only [nthV])
          case measure4 => have := HR.out; omega
          case rel4 => exact ⟨p, (p : Int) - 1, _, by go_num, by omega, by omega, rfl, Lib.hid ⟨by rw [sift_size]; exact HSZ.out, HNX.out⟩, hs2⟩
        | zero =>
          obtain rfl : z = -1 := by omega
          have HFT := Lib.hid (show f = T from HF.out.2)
          clear hz
          go_wp2_with fail
          (try simp only [Exit.inBlock, Exit.then])
          first | (refine bodyPost_ret (results_none rfl _ _ _) rfl ?_) | (refine bodyPost_end (results_none rfl _ _ _) rfl ?_)
          exact ⟨rfl, by rw [← HFT.out]; exact hs⟩
end
end Go.Proofs.Ythcmkljdhhepgaa
