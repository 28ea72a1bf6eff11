/-
  siftDownOrdered at uint64, walked.
-/
import Derived.Test.YthcmkljdhhepgaaUsIns
set_option linter.unusedVariables false
set_option linter.unusedSimpArgs false
namespace Go.Proofs.Ythcmkljdhhepgaa
open Go Go.RowKit Go.Mem Go.Sort
attribute [local go_sem] Oper.semAt_some
section
variable {w0 w : World} {L : List Thing} {q g n c : Nat} {d : Array Int}
set_option maxRecDepth 100000 in
set_option maxHeartbeats 4000000 in
theorem sift_u (hs : Sep w0 w L) (hq0 : L[q]? = some (uT g n c d)) (lo hi first : Nat) (hb : first + hi ≤ d.size) (hsz : d.size ≤ 1000000) (hlo : lo ≤ 1000000) :
    Calls Try.prog 70 #[.slice (some ⟨g, 0, none⟩) n c, .int .i64 lo, .int .i64 hi, .int .i64 first] w fun en w' => en = .returned (.tuple #[]) ∧ Sep w0 w' (L.set q (uT g n c (siftDown ltInt hi first lo d))) := by
  have hn := (uT_len hs hq0).1
  have HQ := Lib.hid (List.getElem?_eq_some_iff.1 hq0).1
  obtain ⟨N, hN⟩ : ∃ N, N = d.size := ⟨_, rfl⟩
  have HN := Lib.hid hN
  rw [← hN] at hn hb hsz
  subst hn
  obtain ⟨T, hT⟩ : ∃ T, T = siftDown ltInt hi first lo d := ⟨_, rfl⟩
  have HT := Lib.hid hT.symm
  rw [← hT]
  have hs1 : Sep w0 w (L.set q (uT g n c d)) := by rw [set_same hq0]; exact hs
  clear hs hT hN hq0
  go_enter Try.func70, Try.ntmps70
  go_wp2_with fail
  refine wp_loopM [none, none, none, none, none, none, none, none, some 8, some 9, none, some 11, some 12, some 13, some 14, some 15, some 16, some 17, some 18, some 19, some 20, some 21, some 22, some 23, some 24, some 25, some 26, some 27, some 28, some 29, some 30, some 31, some 32, some 33, some 34, some 35, some 36, some 37, some 38, some 39, some 40, some 41, some 42, some 43, some 44, some 45, some 46, some 47, some 48, some 49, some 50, some 51, some 52, some 53, some 54, some 55, some 56, some 57, some 58, some 59, some 60, some 61, some 62, some 63, some 64, some 65, some 66, some 67, some 68, some 69, some 70, some 71, some 72, some 73, some 74, some 75] (fun (r : Nat) (f : Nat → Value) (wr : World) => (fun (v : Value) => ∃ (r0 : Nat) (e : Array Int), v = .int .i64 r0 ∧ r0 ≤ 1000000 ∧ r = hi - r0 ∧ Hid (e.size = n ∧ siftDown ltInt hi first r0 e = T) ∧ Sep w0 wr (L.set q (uT g n c e))) (f 8)) ((hi - lo)) (by kernel_rfl) ?atStart1 ?round1
  case' atStart1 => (try dsimp only [nthV])
  case' round1 =>
    intro gk f wr l hl hrel J1 K1 hJ1 hK1
    (try simp only [mask] at hl)
    generalize f 8 = u8 at hl hrel
    subst hl
    (try dsimp only at hrel)
  case atStart1 => exact ⟨lo, d, rfl, hlo, rfl, Lib.hid ⟨HN.out.symm, HT.out⟩, hs1⟩
  case round1 =>
    clear hs1
    obtain ⟨r0, e, rfl, hr0, rfl, HE, hs⟩ := hrel
    have hq : (L.set q (uT g n c e))[q]? = some (uT g n c e) := List.getElem?_set_self HQ.out
    by_cases h1 : hi ≤ 2 * r0 + 1
    · have HFU := Lib.hid (show e = T by
        have := HE.out.2
        unfold siftDown at this
        rwa [dif_pos h1] at this)
      clear HE
      go_wp2_with fail
      (try simp only [Exit.inBlock, Exit.then])
      first | (refine bodyPost_ret (results_none rfl _ _ _) rfl ?_) | (refine bodyPost_end (results_none rfl _ _ _) rfl ?_)
      exact ⟨rfl, by rw [← HFU.out]; first | exact hs | exact hs.drew | exact hs.drew.drew⟩
    · have qf := uT_frozen hs hq (by rw [HE.out.1]; omega)
      by_cases h2 : 2 * r0 + 1 + 1 < hi
      · have x0 := uT_cell hs hq (k := first + (2 * r0 + 1)) (by rw [HE.out.1]; omega)
        have x1 := uT_cell hs hq (k := first + (2 * r0 + 1) + 1) (by rw [HE.out.1]; omega)
        have HF0 := Lib.hid (show (if ltInt e[first + (2 * r0 + 1)]! e[first + (2 * r0 + 1) + 1]! = true then (if (!ltInt e[first + r0]! e[first + (2 * r0 + 1 + 1)]!) = true then e else siftDown ltInt hi first (2 * r0 + 1 + 1) (swp e (first + r0) (first + (2 * r0 + 1 + 1)))) else (if (!ltInt e[first + r0]! e[first + (2 * r0 + 1)]!) = true then e else siftDown ltInt hi first (2 * r0 + 1) (swp e (first + r0) (first + (2 * r0 + 1))))) = T by
          have := HE.out.2
          unfold siftDown at this
          rw [dif_neg h1] at this
          simp only [h2, decide_true, Bool.true_and] at this
          (try rw [dif_pos (show 2 * r0 + 2 < hi by omega)] at this)
          exact this)
        obtain ⟨xa, hxa⟩ : ∃ x, x = e[first + (2 * r0 + 1)]! := ⟨_, rfl⟩
        obtain ⟨xb, hxb⟩ : ∃ x, x = e[first + (2 * r0 + 1) + 1]! := ⟨_, rfl⟩
        rw [← hxa] at x0
        rw [← hxb] at x1
        obtain ⟨l1, hl1⟩ : ∃ l, l = ltInt xa xb := ⟨_, rfl⟩
        have HL1 := Lib.hid hl1
        have HXA := Lib.hid hxa
        have HF1 := Lib.hid (show (if l1 = true then _ else _) = T by have := HF0.out; rw [← hxa, ← hxb, ← hl1] at this; exact this)
        clear hl1 hxa hxb HF0
        have h2I : decide (2 * (r0 : Int) + 1 + 1 < hi) = true := decide_eq_true (by omega)
        go_wp2_with fail
        refine Mix.region [0, 0, 0, 0, 0, 0, 0, 0, 0, 0, 0, 0, 0, 0, 0, 0, 0, 0, 2, 0] (fun _ => True) (by kernel_rfl) (by kernel_rfl) trivial ?_
        simp only [List.zip_cons_cons, List.zip_nil_right]
        iterate 5 (refine Mix.step0 fun K hK => ?_; go_simp; (try (go_bits; try go_simp)); first | ((with_reducible refine hK _ _ ?_); clear hK K) | ((try (simp only [IntWalk.iteOmega]; try go_simp)); (try go_bits); (with_reducible refine hK _ _ ?_); clear hK K))
        iterate 13 (first | (refine Mix.stepS rfl fun K hK => ?_; go_simp; (with_reducible refine hK _ _ ?_); clear hK K) | (refine Mix.step0 fun K hK => ?_; go_simp; (try (go_bits; try go_simp)); first | ((with_reducible refine hK _ _ ?_); clear hK K) | ((try (simp only [IntWalk.iteOmega]; try go_simp)); (try go_bits); (with_reducible refine hK _ _ ?_); clear hK K)))
        refine Mix.step2n (by first | rfl | simp [Region.wanted, yielded]) fun K hK => ?_
        go_wp2_with fail
        refine (less_u xa xb _).mono ?_
        rintro en w2 ⟨rfl, rfl⟩
        rw [← HL1.out]
        go_wp2_with fail
        refine Mix.post_mk (C := (fun _ => True)) trivial (hK _ _ ?_)
        clear hK K
        iterate 1 (refine Mix.step0 fun K hK => ?_; go_simp; (try (go_bits; try go_simp)); first | ((with_reducible refine hK _ _ ?_); clear hK K) | ((try (simp only [IntWalk.iteOmega]; try go_simp)); (try go_bits); (with_reducible refine hK _ _ ?_); clear hK K))
        refine Mix.done ?_
        clear x0 x1
        cases l1
        · have HF := Lib.hid (show (if (!ltInt e[first + r0]! e[first + (2 * r0 + 1)]!) = true then e else siftDown ltInt hi first (2 * r0 + 1) (swp e (first + r0) (first + (2 * r0 + 1)))) = T by
            have := HF1.out
            rw [if_neg (by decide)] at this
            first | exact this | (rw [HXA.out] at this; exact this))
          clear HF1
          have y0 := uT_cell hs hq (k := first + r0) (by rw [HE.out.1]; omega)
          have y1 := uT_cell hs hq (k := first + (2 * r0 + 1)) (by rw [HE.out.1]; omega)
          have HSW := Lib.hid (Sep.uSwp hs hq (first + r0) (first + (2 * r0 + 1)))
          have HSZ := Lib.hid (show (swp e (first + r0) (first + (2 * r0 + 1))).size = n by rw [size_swp]; exact HE.out.1)
          obtain ⟨xc, hxc⟩ : ∃ x, x = e[first + r0]! := ⟨_, rfl⟩
          obtain ⟨xd, hxd⟩ : ∃ x, x = e[first + (2 * r0 + 1)]! := ⟨_, rfl⟩
          rw [← hxc, ← hxd] at HF HSW
          rw [← hxc] at y0
          rw [← hxd] at y1
          clear hxc hxd
          obtain ⟨l2, hl2⟩ : ∃ l, l = ltInt xc xd := ⟨_, rfl⟩
          have HL2 := Lib.hid hl2
          clear hl2
          go_wp2_with fail
          refine Mix.region [0, 0, 0, 0, 0, 0, 0, 0, 0, 0, 0, 0, 2, 0] (fun _ => True) (by kernel_rfl) (by kernel_rfl) trivial ?_
          simp only [List.zip_cons_cons, List.zip_nil_right]
          iterate 12 (refine Mix.step0 fun K hK => ?_; go_simp; (try (go_bits; try go_simp)); first | ((with_reducible refine hK _ _ ?_); clear hK K) | ((try (simp only [IntWalk.iteOmega]; try go_simp)); (try go_bits); (with_reducible refine hK _ _ ?_); clear hK K))
          refine Mix.step2n (by first | rfl | simp [Region.wanted, yielded]) fun K hK => ?_
          go_wp2_with fail
          refine (less_u xc xd _).mono ?_
          rintro en w2 ⟨rfl, rfl⟩
          rw [← HL2.out]
          go_wp2_with fail
          refine Mix.post_mk (C := (fun _ => True)) trivial (hK _ _ ?_)
          clear hK K
          iterate 1 (refine Mix.step0 fun K hK => ?_; go_simp; (try (go_bits; try go_simp)); first | ((with_reducible refine hK _ _ ?_); clear hK K) | ((try (simp only [IntWalk.iteOmega]; try go_simp)); (try go_bits); (with_reducible refine hK _ _ ?_); clear hK K))
          refine Mix.done ?_
          cases l2
          · have HFU := Lib.hid (show e = T by
              have := HF.out
              rwa [← HL2.out, if_pos (by decide)] at this)
            go_wp2_with fail
            (try simp only [Exit.inBlock, Exit.then])
            first | (refine bodyPost_ret (results_none rfl _ _ _) rfl ?_) | (refine bodyPost_end (results_none rfl _ _ _) rfl ?_)
            exact ⟨rfl, by rw [← HFU.out]; first | exact hs | exact hs.drew | exact hs.drew.drew⟩
          · have HFU := Lib.hid (show siftDown ltInt hi first (2 * r0 + 1) (swp e (first + r0) (first + (2 * r0 + 1))) = T by
              have := HF.out
              rwa [← HL2.out, if_neg (by decide)] at this)
            go_wp2_with fail
            refine Mix.region [0, 0, 0, 0, 1, 1, 1, 1, 0, 0, 0, 0, 0, 0, 0, 0, 0, 0, 0, 0, 0, 2, 0, 2] (fun _ => True) (by kernel_rfl) (by kernel_rfl) trivial ?_
            simp only [List.zip_cons_cons, List.zip_nil_right]
            iterate 4 (refine Mix.step0 fun K hK => ?_; go_simp; (try (go_bits; try go_simp)); first | ((with_reducible refine hK _ _ ?_); clear hK K) | ((try (simp only [IntWalk.iteOmega]; try go_simp)); (try go_bits); (with_reducible refine hK _ _ ?_); clear hK K))
            iterate 4 (refine Mix.step1 fun K hK => ?_; go_simp; (try (go_bits; try go_simp)); first | ((with_reducible refine hK _ _ ?_); clear hK K) | ((try (simp only [IntWalk.iteOmega]; try go_simp)); (try go_bits); (with_reducible refine hK _ _ ?_); clear hK K))
            iterate 13 (refine Mix.step0 fun K hK => ?_; go_simp; (try (go_bits; try go_simp)); first | ((with_reducible refine hK _ _ ?_); clear hK K) | ((try (simp only [IntWalk.iteOmega]; try go_simp)); (try go_bits); (with_reducible refine hK _ _ ?_); clear hK K))
            refine Mix.step2n (by first | rfl | simp [Region.wanted, yielded]) fun K hK => ?_
            go_wp2_with fail
            refine Mix.post_mk (C := (fun _ => True)) trivial (hK _ _ ?_)
            clear hK K
            iterate 1 (refine Mix.step0 fun K hK => ?_; go_simp; (try (go_bits; try go_simp)); first | ((with_reducible refine hK _ _ ?_); clear hK K) | ((try (simp only [IntWalk.iteOmega]; try go_simp)); (try go_bits); (with_reducible refine hK _ _ ?_); clear hK K))
            refine Mix.step2n (by first | rfl | simp [Region.wanted, yielded]) fun K hK => ?_
            go_wp2_with fail
            refine Mix.post_mk (C := (fun _ => True)) trivial (hK _ _ ?_)
            clear hK K
            refine Mix.done ?_
            go_wp2_with fail
            refine Round.intro (hi - (2 * r0 + 1)) ?measure2 (by kernel_rfl) (hJ1 _ _ _ ?rel2)
            case' rel2 => (try dsimp only [nthV])
            case measure2 => omega
            case rel2 => exact ⟨2 * r0 + 1, _, by go_num, by omega, rfl, Lib.hid ⟨HSZ.out, HFU.out⟩, by have := HSW.out.drew.drew.drew; rwa [List.set_set] at this⟩
        · have HF := Lib.hid (show (if (!ltInt e[first + r0]! e[first + (2 * r0 + 1 + 1)]!) = true then e else siftDown ltInt hi first (2 * r0 + 1 + 1) (swp e (first + r0) (first + (2 * r0 + 1 + 1)))) = T by
            have := HF1.out
            rwa [if_pos rfl] at this)
          clear HF1
          have y0 := uT_cell hs hq (k := first + r0) (by rw [HE.out.1]; omega)
          have y1 := uT_cell hs hq (k := first + (2 * r0 + 1 + 1)) (by rw [HE.out.1]; omega)
          have HSW := Lib.hid (Sep.uSwp hs hq (first + r0) (first + (2 * r0 + 1 + 1)))
          have HSZ := Lib.hid (show (swp e (first + r0) (first + (2 * r0 + 1 + 1))).size = n by rw [size_swp]; exact HE.out.1)
          obtain ⟨xc, hxc⟩ : ∃ x, x = e[first + r0]! := ⟨_, rfl⟩
          obtain ⟨xd, hxd⟩ : ∃ x, x = e[first + (2 * r0 + 1 + 1)]! := ⟨_, rfl⟩
          rw [← hxc, ← hxd] at HF HSW
          rw [← hxc] at y0
          rw [← hxd] at y1
          clear hxc hxd
          obtain ⟨l2, hl2⟩ : ∃ l, l = ltInt xc xd := ⟨_, rfl⟩
          have HL2 := Lib.hid hl2
          clear hl2
          go_wp2_with fail
          refine Mix.region [0, 0, 0, 0, 0, 0, 0, 0, 0, 0, 0, 0, 2, 0] (fun _ => True) (by kernel_rfl) (by kernel_rfl) trivial ?_
          simp only [List.zip_cons_cons, List.zip_nil_right]
          iterate 12 (refine Mix.step0 fun K hK => ?_; go_simp; (try (go_bits; try go_simp)); first | ((with_reducible refine hK _ _ ?_); clear hK K) | ((try (simp only [IntWalk.iteOmega]; try go_simp)); (try go_bits); (with_reducible refine hK _ _ ?_); clear hK K))
          refine Mix.step2n (by first | rfl | simp [Region.wanted, yielded]) fun K hK => ?_
          go_wp2_with fail
          refine (less_u xc xd _).mono ?_
          rintro en w2 ⟨rfl, rfl⟩
          rw [← HL2.out]
          go_wp2_with fail
          refine Mix.post_mk (C := (fun _ => True)) trivial (hK _ _ ?_)
          clear hK K
          iterate 1 (refine Mix.step0 fun K hK => ?_; go_simp; (try (go_bits; try go_simp)); first | ((with_reducible refine hK _ _ ?_); clear hK K) | ((try (simp only [IntWalk.iteOmega]; try go_simp)); (try go_bits); (with_reducible refine hK _ _ ?_); clear hK K))
          refine Mix.done ?_
          cases l2
          · have HFU := Lib.hid (show e = T by
              have := HF.out
              rwa [← HL2.out, if_pos (by decide)] at this)
            go_wp2_with fail
            (try simp only [Exit.inBlock, Exit.then])
            first | (refine bodyPost_ret (results_none rfl _ _ _) rfl ?_) | (refine bodyPost_end (results_none rfl _ _ _) rfl ?_)
            exact ⟨rfl, by rw [← HFU.out]; first | exact hs | exact hs.drew | exact hs.drew.drew⟩
          · have HFU := Lib.hid (show siftDown ltInt hi first (2 * r0 + 1 + 1) (swp e (first + r0) (first + (2 * r0 + 1 + 1))) = T by
              have := HF.out
              rwa [← HL2.out, if_neg (by decide)] at this)
            go_wp2_with fail
            refine Mix.region [0, 0, 0, 0, 1, 1, 1, 1, 0, 0, 0, 0, 0, 0, 0, 0, 0, 0, 0, 0, 0, 2, 0, 2] (fun _ => True) (by kernel_rfl) (by kernel_rfl) trivial ?_
            simp only [List.zip_cons_cons, List.zip_nil_right]
            iterate 4 (refine Mix.step0 fun K hK => ?_; go_simp; (try (go_bits; try go_simp)); first | ((with_reducible refine hK _ _ ?_); clear hK K) | ((try (simp only [IntWalk.iteOmega]; try go_simp)); (try go_bits); (with_reducible refine hK _ _ ?_); clear hK K))
            iterate 4 (refine Mix.step1 fun K hK => ?_; go_simp; (try (go_bits; try go_simp)); first | ((with_reducible refine hK _ _ ?_); clear hK K) | ((try (simp only [IntWalk.iteOmega]; try go_simp)); (try go_bits); (with_reducible refine hK _ _ ?_); clear hK K))
            iterate 13 (refine Mix.step0 fun K hK => ?_; go_simp; (try (go_bits; try go_simp)); first | ((with_reducible refine hK _ _ ?_); clear hK K) | ((try (simp only [IntWalk.iteOmega]; try go_simp)); (try go_bits); (with_reducible refine hK _ _ ?_); clear hK K))
            refine Mix.step2n (by first | rfl | simp [Region.wanted, yielded]) fun K hK => ?_
            go_wp2_with fail
            refine Mix.post_mk (C := (fun _ => True)) trivial (hK _ _ ?_)
            clear hK K
            iterate 1 (refine Mix.step0 fun K hK => ?_; go_simp; (try (go_bits; try go_simp)); first | ((with_reducible refine hK _ _ ?_); clear hK K) | ((try (simp only [IntWalk.iteOmega]; try go_simp)); (try go_bits); (with_reducible refine hK _ _ ?_); clear hK K))
            refine Mix.step2n (by first | rfl | simp [Region.wanted, yielded]) fun K hK => ?_
            go_wp2_with fail
            refine Mix.post_mk (C := (fun _ => True)) trivial (hK _ _ ?_)
            clear hK K
            refine Mix.done ?_
            go_wp2_with fail
            refine Round.intro (hi - (2 * r0 + 1 + 1)) ?measure3 (by kernel_rfl) (hJ1 _ _ _ ?rel3)
            case' rel3 => (try dsimp only [nthV])
            case measure3 => omega
            case rel3 => exact ⟨2 * r0 + 1 + 1, _, by go_num, by omega, rfl, Lib.hid ⟨HSZ.out, HFU.out⟩, by have := HSW.out.drew.drew.drew; rwa [List.set_set] at this⟩
      · have HF := Lib.hid (show (if (!ltInt e[first + r0]! e[first + (2 * r0 + 1)]!) = true then e else siftDown ltInt hi first (2 * r0 + 1) (swp e (first + r0) (first + (2 * r0 + 1)))) = T by
          have := HE.out.2
          unfold siftDown at this
          rwa [dif_neg h1, if_neg (by simp [h2])] at this)
        have h2I : decide (2 * (r0 : Int) + 1 + 1 < hi) = false := decide_eq_false (by omega)
        go_wp2_with fail
        refine Mix.region [0, 0, 0, 0, 0, 0, 0, 0, 0, 0, 0, 0, 0, 0, 0, 0, 0, 0, 2, 0] (fun _ => True) (by kernel_rfl) (by kernel_rfl) trivial ?_
        simp only [List.zip_cons_cons, List.zip_nil_right]
        iterate 5 (refine Mix.step0 fun K hK => ?_; go_simp; (try (go_bits; try go_simp)); first | ((with_reducible refine hK _ _ ?_); clear hK K) | ((try (simp only [IntWalk.iteOmega]; try go_simp)); (try go_bits); (with_reducible refine hK _ _ ?_); clear hK K))
        iterate 13 (first | (refine Mix.stepS rfl fun K hK => ?_; go_simp; (with_reducible refine hK _ _ ?_); clear hK K) | (refine Mix.step0 fun K hK => ?_; go_simp; (try (go_bits; try go_simp)); first | ((with_reducible refine hK _ _ ?_); clear hK K) | ((try (simp only [IntWalk.iteOmega]; try go_simp)); (try go_bits); (with_reducible refine hK _ _ ?_); clear hK K)))
        refine Mix.step2s (by first | rfl | simp [Region.wanted, yielded]) ?_
        iterate 1 (refine Mix.step0 fun K hK => ?_; go_simp; (try (go_bits; try go_simp)); first | ((with_reducible refine hK _ _ ?_); clear hK K) | ((try (simp only [IntWalk.iteOmega]; try go_simp)); (try go_bits); (with_reducible refine hK _ _ ?_); clear hK K))
        refine Mix.done ?_
        have y0 := uT_cell hs hq (k := first + r0) (by rw [HE.out.1]; omega)
        have y1 := uT_cell hs hq (k := first + (2 * r0 + 1)) (by rw [HE.out.1]; omega)
        have HSW := Lib.hid (Sep.uSwp hs hq (first + r0) (first + (2 * r0 + 1)))
        have HSZ := Lib.hid (show (swp e (first + r0) (first + (2 * r0 + 1))).size = n by rw [size_swp]; exact HE.out.1)
        obtain ⟨xc, hxc⟩ : ∃ x, x = e[first + r0]! := ⟨_, rfl⟩
        obtain ⟨xd, hxd⟩ : ∃ x, x = e[first + (2 * r0 + 1)]! := ⟨_, rfl⟩
        rw [← hxc, ← hxd] at HF HSW
        rw [← hxc] at y0
        rw [← hxd] at y1
        clear hxc hxd
        obtain ⟨l2, hl2⟩ : ∃ l, l = ltInt xc xd := ⟨_, rfl⟩
        have HL2 := Lib.hid hl2
        clear hl2
        go_wp2_with fail
        refine Mix.region [0, 0, 0, 0, 0, 0, 0, 0, 0, 0, 0, 0, 2, 0] (fun _ => True) (by kernel_rfl) (by kernel_rfl) trivial ?_
        simp only [List.zip_cons_cons, List.zip_nil_right]
        iterate 12 (refine Mix.step0 fun K hK => ?_; go_simp; (try (go_bits; try go_simp)); first | ((with_reducible refine hK _ _ ?_); clear hK K) | ((try (simp only [IntWalk.iteOmega]; try go_simp)); (try go_bits); (with_reducible refine hK _ _ ?_); clear hK K))
        refine Mix.step2n (by first | rfl | simp [Region.wanted, yielded]) fun K hK => ?_
        go_wp2_with fail
        refine (less_u xc xd _).mono ?_
        rintro en w2 ⟨rfl, rfl⟩
        rw [← HL2.out]
        go_wp2_with fail
        refine Mix.post_mk (C := (fun _ => True)) trivial (hK _ _ ?_)
        clear hK K
        iterate 1 (refine Mix.step0 fun K hK => ?_; go_simp; (try (go_bits; try go_simp)); first | ((with_reducible refine hK _ _ ?_); clear hK K) | ((try (simp only [IntWalk.iteOmega]; try go_simp)); (try go_bits); (with_reducible refine hK _ _ ?_); clear hK K))
        refine Mix.done ?_
        cases l2
        · have HFU := Lib.hid (show e = T by
            have := HF.out
            rwa [← HL2.out, if_pos (by decide)] at this)
          go_wp2_with fail
          (try simp only [Exit.inBlock, Exit.then])
          first | (refine bodyPost_ret (results_none rfl _ _ _) rfl ?_) | (refine bodyPost_end (results_none rfl _ _ _) rfl ?_)
          exact ⟨rfl, by rw [← HFU.out]; first | exact hs | exact hs.drew | exact hs.drew.drew⟩
        · have HFU := Lib.hid (show siftDown ltInt hi first (2 * r0 + 1) (swp e (first + r0) (first + (2 * r0 + 1))) = T by
            have := HF.out
            rwa [← HL2.out, if_neg (by decide)] at this)
          go_wp2_with fail
          refine Mix.region [0, 0, 0, 0, 1, 1, 1, 1, 0, 0, 0, 0, 0, 0, 0, 0, 0, 0, 0, 0, 0, 2, 0, 2] (fun _ => True) (by kernel_rfl) (by kernel_rfl) trivial ?_
          simp only [List.zip_cons_cons, List.zip_nil_right]
          iterate 4 (refine Mix.step0 fun K hK => ?_; go_simp; (try (go_bits; try go_simp)); first | ((with_reducible refine hK _ _ ?_); clear hK K) | ((try (simp only [IntWalk.iteOmega]; try go_simp)); (try go_bits); (with_reducible refine hK _ _ ?_); clear hK K))
          iterate 4 (refine Mix.step1 fun K hK => ?_; go_simp; (try (go_bits; try go_simp)); first | ((with_reducible refine hK _ _ ?_); clear hK K) | ((try (simp only [IntWalk.iteOmega]; try go_simp)); (try go_bits); (with_reducible refine hK _ _ ?_); clear hK K))
          iterate 13 (refine Mix.step0 fun K hK => ?_; go_simp; (try (go_bits; try go_simp)); first | ((with_reducible refine hK _ _ ?_); clear hK K) | ((try (simp only [IntWalk.iteOmega]; try go_simp)); (try go_bits); (with_reducible refine hK _ _ ?_); clear hK K))
          refine Mix.step2n (by first | rfl | simp [Region.wanted, yielded]) fun K hK => ?_
          go_wp2_with fail
          refine Mix.post_mk (C := (fun _ => True)) trivial (hK _ _ ?_)
          clear hK K
          iterate 1 (refine Mix.step0 fun K hK => ?_; go_simp; (try (go_bits; try go_simp)); first | ((with_reducible refine hK _ _ ?_); clear hK K) | ((try (simp only [IntWalk.iteOmega]; try go_simp)); (try go_bits); (with_reducible refine hK _ _ ?_); clear hK K))
          refine Mix.step2n (by first | rfl | simp [Region.wanted, yielded]) fun K hK => ?_
          go_wp2_with fail
          refine Mix.post_mk (C := (fun _ => True)) trivial (hK _ _ ?_)
          clear hK K
          refine Mix.done ?_
          go_wp2_with fail
          refine Round.intro (hi - (2 * r0 + 1)) ?measure4 (by kernel_rfl) (hJ1 _ _ _ ?rel4)
          case' rel4 => (try dsimp only [nthV])
          case measure4 => omega
          case rel4 => exact ⟨2 * r0 + 1, _, by go_num, by omega, rfl, Lib.hid ⟨HSZ.out, HFU.out⟩, by have := HSW.out.drew.drew.drew; rwa [List.set_set] at this⟩
end
end Go.Proofs.Ythcmkljdhhepgaa
