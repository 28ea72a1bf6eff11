/-
  ArchiveCounts, walked.
-/
import Derived.Test.YtfnkmkfkomhhnaaVC
import Derived.Test.YtfnkmkfkomhhnaaWin
namespace Go.ArchP
open Go Go.RowKit Go.Mem Go.NetP Go.CertP Go.Proofs.Ytfnkmkfkomhhnaa
/-- What Add does, whether the round may be or not. -/
def AddP (m : Bool) (x : Co) (A : Thing) (b : Nat) (ks : List Ro) (n N : Nat) (w0 w' : World) (vn ve : Value) : Prop :=
  (m = false ∧ vn = .int .u64 0 ∧ ve = .int .i64 1 ∧ Sep w0 w' [A, arcT b ks n N]) ∨
  (m = true ∧ vn = .int .u64 (N + 1) ∧ ve = .int .i64 0 ∧ ∃ r', r'.co = { x with no := (N : Int) + 1 } ∧ Sep w0 w' [A, arcT b (ks.set ((N + 1) % 4) r') (cap4 n) (N + 1 : Nat)])
end Go.ArchP
namespace Go.Proofs.Ytfnkmkfkomhhnaa
open Go Go.RowKit Go.Mem Go.NetP Go.CertP Go.ArchP
theorem add_both {w0 w : World} {A : Thing} {b : Nat} {ks : List Ro} {n N : Nat} (hs : Sep w0 w [A, arcT b ks n N]) (h4 : ks.length = 4) (hn : n ≤ 4) (x : Ro) (h : x.Ok w) (hN : N < 4611686018427387904) :
    Calls Try.prog 10 #[.pointer (some ⟨b, 0, none⟩), x.val] w fun en w' => ∃ vn ve, en = .returned (.tuple #[vn, ve]) ∧ AddP (mayC x.co) x.co A b ks n N w0 w' vn ve := by
  cases hm : mayC x.co
  · exact (add_no hs b x h hm).mono fun en w' ⟨e, k⟩ => ⟨_, _, e, .inl ⟨rfl, rfl, rfl, k⟩⟩
  · exact (add_yes hs 1 b ks n N rfl h4 (by omega) x h hm hN).mono fun en w' ⟨e, r', hr, k⟩ => ⟨_, _, e, .inr ⟨rfl, rfl, rfl, r', hr, k⟩⟩

set_option maxHeartbeats 4000000 in
set_option maxRecDepth 100000 in
theorem archiveCounts_any (l : List Ro) (v : Value) (w : World) (h : RdG roR w v l) (hok : ∀ r ∈ l, r.Ok w ∧ (Lit.int .u64 r.no).wf = true) :
    Calls Try.prog 5 #[v] w fun en w' => en = .returned (.bool true) ∧ Below w.heap.size w w' := by
  obtain ⟨i0, hi0, hz0, hz1, hz2⟩ := info_parts Try.infoRov
  obtain ⟨a, c, rfl⟩ := h.shape
  have hle := h.le'
  have HOK := Lib.hid hok
  clear hok
  by_cases h60 : l.length ≤ 60
  rotate_left
  · have d60 : decide ((60 : Int) < (l.length : Int)) = true := decide_eq_true (by omega)
    go_enter Try.func5, Try.ntmps5
    go_wp2_with fail
    refine (works_any _).mono ?_
    rintro en w2 ⟨rfl, hb⟩
    go_wp2_with fail
    go_ret
    exact ⟨rfl, hb⟩
  have d60 : decide ((60 : Int) < (l.length : Int)) = false := decide_eq_false (by omega)
  go_enter Try.func5, Try.ntmps5
  go_wp2_with fail
  refine (new_any _).mono ?_
  rintro en w2 ⟨b, rfl, hs⟩
  go_wp2_with fail
  refine wp_loopM [none, none, some 2, none, some 4, some 5, some 6, some 7, some 8, some 9, some 10, some 11, some 12, some 13, some 14, some 15, some 16, some 17, some 18, none, none, none, none, none, some 24, some 25, some 26, some 27, some 28, some 29, some 30, some 31, some 32, some 33, some 34, some 35, some 36, some 37, some 38, some 39, some 40, some 41, some 42, some 43, some 44, some 45, some 46, some 47, some 48, some 49, some 50, some 51, some 52, some 53, some 54, some 55, some 56, some 57, some 58, some 59, some 60, some 61, some 62, some 63, some 64, some 65, some 66, some 67, some 68, some 69, some 70, some 71, some 72, some 73, some 74, some 75, some 76, some 77, some 78, some 79, some 80, some 81, some 82, some 83, some 84, some 85, some 86, some 87, some 88, some 89, some 90, some 91, some 92, some 93, some 94, some 95, some 96, some 97, some 98, some 99, some 100, some 101, some 102, some 103, some 104, some 105, some 106, some 107, some 108, some 109, some 110, some 111, some 112, some 113, some 114, some 115, some 116, some 117, some 118, some 119, some 120, some 121, some 122, some 123, some 124, some 125, some 126, some 127, some 128, some 129, some 130, some 131, some 132, some 133, some 134, some 135, some 136, some 137, some 138, some 139, some 140, some 141, some 142, some 143, some 144, some 145, some 146, some 147, some 148, some 149, some 150, some 151, some 152, some 153, some 154, some 155, some 156, some 157, some 158, some 159, some 160, some 161, some 162, some 163, some 164, some 165, none] (fun (r : Nat) (f : Nat → Value) (wr : World) => (fun (vno vo v : Value) => ∃ (i D N : Nat) (ys ks : List Ro), v = .int .i64 i ∧ i ≤ l.length ∧ r = l.length - i ∧ vno = .int .u64 N ∧ N ≤ i ∧ Hid (N = D + ys.length ∧ GoodW ks ys D ∧ ∀ y ∈ ys, y.Ok w) ∧ Sep w wr [winT roR vo ys, arcT b ks ys.length N]) (f 4) (f 5) (f 6)) (l.length) (by kernel_rfl) ?atStart1 ?round1
  case' atStart1 => (try dsimp only [nthV])
  case' round1 =>
    intro gk f wr l hl hrel J1 K1 hJ1 hK1
    (try simp only [mask] at hl)
    generalize f 4 = u4 at hl hrel
    generalize f 5 = u5 at hl hrel
    generalize f 6 = u6 at hl hrel
    subst hl
    (try dsimp only at hrel)
  case atStart1 => exact ⟨0, 0, 0, [], _, rfl, Nat.zero_le _, rfl, rfl, Nat.zero_le _, Lib.hid ⟨rfl, goodW_start, fun x hx => by simp at hx⟩, hs.nilWin roR⟩
  case round1 =>
    clear hs
    obtain ⟨i, D, N, ys, ks, rfl, hi, rfl, rfl, hNi, HG, hs⟩ := hrel
    obtain ⟨al, cl, rfl⟩ := (hs.rdWin 0 rfl).shape
    by_cases hlt : i < l.length
    · obtain ⟨b1, o1, e1, hb1, hc1⟩ := h.at i hlt
      subst e1
      have hx1 := (HOK.out _ (List.getElem_mem hlt)).1
      generalize l[i] = x at hc1 hx1
      obtain ⟨no, day, comp, ai, ci, ids, n, ae, ce, es, af, cf, fl, ap, cp, pot⟩ := x
      obtain ⟨X, hX⟩ : ∃ X : Ro, X = ⟨no, day, comp, ai, ci, ids, n, ae, ce, es, af, cf, fl, ap, cp, pot⟩ := ⟨_, rfl⟩
      have HX := Lib.hid hX
      have HXO := Lib.hid hx1
      have FSc := Lib.hid (fun (W : World) (L : List Thing) (hs : Sep w W L) => (fun j hj => (hs.cell hb1).trans (hc1 j hj) : ∀ j, j < 8 → W.cell? ⟨b1, o1 + i * 8 + j, none⟩ = (roR.cells ⟨no, day, comp, ai, ci, ids, n, ae, ce, es, af, cf, fl, ap, cp, pot⟩)[j]?))
      obtain ⟨m, hm⟩ : ∃ m, m = mayC X.co := ⟨_, rfl⟩
      have HM := Lib.hid hm
      clear hc1 hX hx1 hm
      go_upto_region 9 with fail
      refine wp_cutM [none, none, none, none, none, none, none, some 7, none, none, none, none, none, none, none, none, none, none, none, none, none, none, none, none, none, none, none, none, none, none, some 30, some 31, some 32, some 33, some 34, some 35, some 36, some 37, some 38, some 39, some 40, some 41, some 42, some 43, some 44, some 45, some 46, some 47, some 48, some 49, some 50, some 51, some 52, some 53, some 54, some 55, some 56, some 57, none, none, none, none, none, none, none, none, none, none, none, none, none, none, none, none, none, none, none, none, none, none, none, none, none, none, none, none, none, none, none, none, none, none, none, none, none, none, none, none, none, none, none, none, none, none, none, none, none, none, none, none, none, none, none, none, none, none, none, none, none, none, none, none, none, none, none, none, none, none, none, none, none, none, none, none, none, none, none, none, none, none, none, none, none, none, none, none, none, none, none, none, none, none, none, none, none, none, none, none, none, none, none, none, none, none, none, none, none] (fun (f : Nat → Value) (wq : World) => (fun (vm : Value) => vm = .bool m ∧ Sep w wq [winT roR (.slice al ys.length cl) ys, arcT b ks ys.length N]) (f 7)) ?first2 ?rest2
      case' first2 => intro JC KC hJC hKC
      case' rest2 =>
        intro f wr l hl hrel
        (try simp only [mask] at hl)
        generalize f 7 = u7 at hl hrel
        subst hl
        (try dsimp only at hrel)
      case first2 =>
        have x8 := FSc.out _ _ hs.drew
        have x0 := x8 0 (by decide)
        have x1 := x8 1 (by decide)
        have x2 := x8 2 (by decide)
        have x3 := x8 3 (by decide)
        have x4 := x8 4 (by decide)
        have x5 := x8 5 (by decide)
        have x6 := x8 6 (by decide)
        have x7 := x8 7 (by decide)
        simp only [roR, Nat.add_zero, List.getElem?_cons_zero, List.getElem?_cons_succ] at x0 x1 x2 x3 x4 x5 x6 x7
        clear x8
        have hidl := (HXO.out).1.le'
        have CH := Lib.hid (rcheck_any n ae ce es _ fl _ pot _ ((HXO.out).2.1.below hs.drew.below) ((HXO.out).2.2.1.below hs.drew.below) ((HXO.out).2.2.2.below hs.drew.below))
        dsimp only at hidl
        cases hc : checkB n es fl pot
        · have HC := Lib.hid hc
          have HM2 := Lib.hid (show m = false by rw [HM.out, HX.out]; simp [mayC, Ro.co, hc])
          clear hc
          refine Mix.region [0, 0, 0, 0, 0, 0, 0, 0, 0, 0, 2, 0, 0, 0, 0, 0, 0, 0, 0, 0, 0, 0, 0, 0, 0, 0, 0, 0, 0] (fun _ => True) (by kernel_rfl) (by kernel_rfl) trivial ?_
          simp only [List.zip_cons_cons, List.zip_nil_right]
          iterate 10 (refine Mix.step0 fun K hK => ?_; go_simp; (try (go_bits; try go_simp)); first | ((with_reducible refine hK _ _ ?_); clear hK K) | ((try (simp only [IntWalk.iteOmega]; try go_simp)); (try go_bits); (with_reducible refine hK _ _ ?_); clear hK K))
          refine Mix.step2n (by first | rfl | simp [Region.wanted, yielded]) fun K hK => ?_
          go_wp2_with fail
          refine (CH.out).mono ?_
          rintro en w3 ⟨rfl, hb⟩
          rw [HC.out]
          replace hs := (hs.drew).belowStep hb
          clear hb CH
          have x8 := FSc.out _ _ hs
          have y0 := x8 0 (by decide)
          have y1 := x8 1 (by decide)
          have y2 := x8 2 (by decide)
          have y3 := x8 3 (by decide)
          have y4 := x8 4 (by decide)
          have y5 := x8 5 (by decide)
          have y6 := x8 6 (by decide)
          have y7 := x8 7 (by decide)
          simp only [roR, Nat.add_zero, List.getElem?_cons_zero, List.getElem?_cons_succ] at y0 y1 y2 y3 y4 y5 y6 y7
          clear x8
          go_wp2_with fail
          refine Mix.post_mk (C := (fun _ => True)) trivial (hK _ _ ?_)
          clear hK K
          iterate 1 (refine Mix.step0 fun K hK => ?_; go_simp; (try (go_bits; try go_simp)); first | ((with_reducible refine hK _ _ ?_); clear hK K) | ((try (simp only [IntWalk.iteOmega]; try go_simp)); (try go_bits); (with_reducible refine hK _ _ ?_); clear hK K))
          iterate 7 (first | (refine Mix.stepS rfl fun K hK => ?_; go_simp; (with_reducible refine hK _ _ ?_); clear hK K) | (refine Mix.step0 fun K hK => ?_; go_simp; (try (go_bits; try go_simp)); first | ((with_reducible refine hK _ _ ?_); clear hK K) | ((try (simp only [IntWalk.iteOmega]; try go_simp)); (try go_bits); (with_reducible refine hK _ _ ?_); clear hK K)))
          iterate 2 (refine Mix.step0 fun K hK => ?_; go_simp; (try (go_bits; try go_simp)); first | ((with_reducible refine hK _ _ ?_); clear hK K) | ((try (simp only [IntWalk.iteOmega]; try go_simp)); (try go_bits); (with_reducible refine hK _ _ ?_); clear hK K))
          iterate 6 (first | (refine Mix.stepS rfl fun K hK => ?_; go_simp; (with_reducible refine hK _ _ ?_); clear hK K) | (refine Mix.step0 fun K hK => ?_; go_simp; (try (go_bits; try go_simp)); first | ((with_reducible refine hK _ _ ?_); clear hK K) | ((try (simp only [IntWalk.iteOmega]; try go_simp)); (try go_bits); (with_reducible refine hK _ _ ?_); clear hK K)))
          iterate 2 (refine Mix.step0 fun K hK => ?_; go_simp; (try (go_bits; try go_simp)); first | ((with_reducible refine hK _ _ ?_); clear hK K) | ((try (simp only [IntWalk.iteOmega]; try go_simp)); (try go_bits); (with_reducible refine hK _ _ ?_); clear hK K))
          refine Mix.done ?_
          go_wp2_with fail
          refine Meet.intro (by kernel_rfl) (hJC _ _ ?rel3)
          case' rel3 => (try dsimp only [nthV])
          exact ⟨by rw [HM2.out], hs⟩
        · have HC := Lib.hid hc
          by_cases hl : ids.length ≤ 64
          · have e1 : decide ((ids.length : Int) ≤ 64) = true := decide_eq_true (by omega)
            have HM2 := Lib.hid (show m = decide (0 ≤ day) by rw [HM.out, HX.out]; exact Bool.eq_iff_iff.2 (Iff.trans (show mayC (Ro.co ⟨no, day, comp, ai, ci, ids, n, ae, ce, es, af, cf, fl, ap, cp, pot⟩) = true ↔ 0 ≤ day by simp [mayC, Ro.co, hc, hl]; exact ⟨fun h => of_decide_eq_true h, fun h => decide_eq_true h⟩) ⟨fun h => decide_eq_true h, fun h => of_decide_eq_true h⟩))
            clear hc
            refine Mix.region [0, 0, 0, 0, 0, 0, 0, 0, 0, 0, 2, 0, 0, 0, 0, 0, 0, 0, 0, 0, 0, 0, 0, 0, 0, 0, 0, 0, 0] (fun _ => True) (by kernel_rfl) (by kernel_rfl) trivial ?_
            simp only [List.zip_cons_cons, List.zip_nil_right]
            iterate 10 (refine Mix.step0 fun K hK => ?_; go_simp; (try (go_bits; try go_simp)); first | ((with_reducible refine hK _ _ ?_); clear hK K) | ((try (simp only [IntWalk.iteOmega]; try go_simp)); (try go_bits); (with_reducible refine hK _ _ ?_); clear hK K))
            refine Mix.step2n (by first | rfl | simp [Region.wanted, yielded]) fun K hK => ?_
            go_wp2_with fail
            refine (CH.out).mono ?_
            rintro en w3 ⟨rfl, hb⟩
            rw [HC.out]
            replace hs := (hs.drew).belowStep hb
            clear hb CH
            have x8 := FSc.out _ _ hs
            have y0 := x8 0 (by decide)
            have y1 := x8 1 (by decide)
            have y2 := x8 2 (by decide)
            have y3 := x8 3 (by decide)
            have y4 := x8 4 (by decide)
            have y5 := x8 5 (by decide)
            have y6 := x8 6 (by decide)
            have y7 := x8 7 (by decide)
            simp only [roR, Nat.add_zero, List.getElem?_cons_zero, List.getElem?_cons_succ] at y0 y1 y2 y3 y4 y5 y6 y7
            clear x8
            go_wp2_with fail
            refine Mix.post_mk (C := (fun _ => True)) trivial (hK _ _ ?_)
            clear hK K
            iterate 1 (refine Mix.step0 fun K hK => ?_; go_simp; (try (go_bits; try go_simp)); first | ((with_reducible refine hK _ _ ?_); clear hK K) | ((try (simp only [IntWalk.iteOmega]; try go_simp)); (try go_bits); (with_reducible refine hK _ _ ?_); clear hK K))
            iterate 7 (first | (refine Mix.stepS rfl fun K hK => ?_; go_simp; (with_reducible refine hK _ _ ?_); clear hK K) | (refine Mix.step0 fun K hK => ?_; go_simp; (try (go_bits; try go_simp)); first | ((with_reducible refine hK _ _ ?_); clear hK K) | ((try (simp only [IntWalk.iteOmega]; try go_simp)); (try go_bits); (with_reducible refine hK _ _ ?_); clear hK K)))
            iterate 2 (refine Mix.step0 fun K hK => ?_; go_simp; (try (go_bits; try go_simp)); first | ((with_reducible refine hK _ _ ?_); clear hK K) | ((try (simp only [IntWalk.iteOmega]; try go_simp)); (try go_bits); (with_reducible refine hK _ _ ?_); clear hK K))
            iterate 6 (first | (refine Mix.stepS rfl fun K hK => ?_; go_simp; (with_reducible refine hK _ _ ?_); clear hK K) | (refine Mix.step0 fun K hK => ?_; go_simp; (try (go_bits; try go_simp)); first | ((with_reducible refine hK _ _ ?_); clear hK K) | ((try (simp only [IntWalk.iteOmega]; try go_simp)); (try go_bits); (with_reducible refine hK _ _ ?_); clear hK K)))
            iterate 2 (refine Mix.step0 fun K hK => ?_; go_simp; (try (go_bits; try go_simp)); first | ((with_reducible refine hK _ _ ?_); clear hK K) | ((try (simp only [IntWalk.iteOmega]; try go_simp)); (try go_bits); (with_reducible refine hK _ _ ?_); clear hK K))
            refine Mix.done ?_
            go_wp2_with fail
            refine Meet.intro (by kernel_rfl) (hJC _ _ ?rel4)
            case' rel4 => (try dsimp only [nthV])
            exact ⟨by rw [HM2.out], hs⟩
          · have e1 : decide ((ids.length : Int) ≤ 64) = false := decide_eq_false (by omega)
            have HM2 := Lib.hid (show m = false by rw [HM.out, HX.out]; simp [mayC, Ro.co, hc, hl])
            clear hc
            refine Mix.region [0, 0, 0, 0, 0, 0, 0, 0, 0, 0, 2, 0, 0, 0, 0, 0, 0, 0, 0, 0, 0, 0, 0, 0, 0, 0, 0, 0, 0] (fun _ => True) (by kernel_rfl) (by kernel_rfl) trivial ?_
            simp only [List.zip_cons_cons, List.zip_nil_right]
            iterate 10 (refine Mix.step0 fun K hK => ?_; go_simp; (try (go_bits; try go_simp)); first | ((with_reducible refine hK _ _ ?_); clear hK K) | ((try (simp only [IntWalk.iteOmega]; try go_simp)); (try go_bits); (with_reducible refine hK _ _ ?_); clear hK K))
            refine Mix.step2n (by first | rfl | simp [Region.wanted, yielded]) fun K hK => ?_
            go_wp2_with fail
            refine (CH.out).mono ?_
            rintro en w3 ⟨rfl, hb⟩
            rw [HC.out]
            replace hs := (hs.drew).belowStep hb
            clear hb CH
            have x8 := FSc.out _ _ hs
            have y0 := x8 0 (by decide)
            have y1 := x8 1 (by decide)
            have y2 := x8 2 (by decide)
            have y3 := x8 3 (by decide)
            have y4 := x8 4 (by decide)
            have y5 := x8 5 (by decide)
            have y6 := x8 6 (by decide)
            have y7 := x8 7 (by decide)
            simp only [roR, Nat.add_zero, List.getElem?_cons_zero, List.getElem?_cons_succ] at y0 y1 y2 y3 y4 y5 y6 y7
            clear x8
            go_wp2_with fail
            refine Mix.post_mk (C := (fun _ => True)) trivial (hK _ _ ?_)
            clear hK K
            iterate 1 (refine Mix.step0 fun K hK => ?_; go_simp; (try (go_bits; try go_simp)); first | ((with_reducible refine hK _ _ ?_); clear hK K) | ((try (simp only [IntWalk.iteOmega]; try go_simp)); (try go_bits); (with_reducible refine hK _ _ ?_); clear hK K))
            iterate 7 (first | (refine Mix.stepS rfl fun K hK => ?_; go_simp; (with_reducible refine hK _ _ ?_); clear hK K) | (refine Mix.step0 fun K hK => ?_; go_simp; (try (go_bits; try go_simp)); first | ((with_reducible refine hK _ _ ?_); clear hK K) | ((try (simp only [IntWalk.iteOmega]; try go_simp)); (try go_bits); (with_reducible refine hK _ _ ?_); clear hK K)))
            iterate 2 (refine Mix.step0 fun K hK => ?_; go_simp; (try (go_bits; try go_simp)); first | ((with_reducible refine hK _ _ ?_); clear hK K) | ((try (simp only [IntWalk.iteOmega]; try go_simp)); (try go_bits); (with_reducible refine hK _ _ ?_); clear hK K))
            iterate 6 (first | (refine Mix.stepS rfl fun K hK => ?_; go_simp; (with_reducible refine hK _ _ ?_); clear hK K) | (refine Mix.step0 fun K hK => ?_; go_simp; (try (go_bits; try go_simp)); first | ((with_reducible refine hK _ _ ?_); clear hK K) | ((try (simp only [IntWalk.iteOmega]; try go_simp)); (try go_bits); (with_reducible refine hK _ _ ?_); clear hK K)))
            iterate 2 (refine Mix.step0 fun K hK => ?_; go_simp; (try (go_bits; try go_simp)); first | ((with_reducible refine hK _ _ ?_); clear hK K) | ((try (simp only [IntWalk.iteOmega]; try go_simp)); (try go_bits); (with_reducible refine hK _ _ ?_); clear hK K))
            refine Mix.done ?_
            go_wp2_with fail
            refine Meet.intro (by kernel_rfl) (hJC _ _ ?rel5)
            case' rel5 => (try dsimp only [nthV])
            exact ⟨by rw [HM2.out], hs⟩
      case rest2 =>
        clear hs
        obtain ⟨rfl, hs⟩ := hrel
        have x8 := FSc.out _ _ hs
        have x0 := x8 0 (by decide)
        have x1 := x8 1 (by decide)
        have x2 := x8 2 (by decide)
        have x3 := x8 3 (by decide)
        have x4 := x8 4 (by decide)
        have x5 := x8 5 (by decide)
        have x6 := x8 6 (by decide)
        have x7 := x8 7 (by decide)
        simp only [roR, Nat.add_zero, List.getElem?_cons_zero, List.getElem?_cons_succ] at x0 x1 x2 x3 x4 x5 x6 x7
        clear x8
        obtain ⟨hND, hgw, hgx⟩ := HG.out
        have ADD := add_both hs hgw.l4 hgw.le X ((by rw [HX.out]; exact HXO.out : X.Ok w).sep hs) (by omega)
        rw [← HM.out, show X.val = .agg #[.int .u64 no, .int .i64 day, .bool comp, .slice ai ids.length ci, .int .i64 n, .slice ae es.length ce, .slice af fl.length cf, .slice ap pot.length cp] by rw [HX.out]; rfl] at ADD
        have ADDH := Lib.hid ADD
        have HND := Lib.hid hND
        have HGX := Lib.hid hgx
        have HGW := Lib.hid hgw
        clear ADD hND hgx hgw
        go_wp2_with fail
        refine (ADDH.out).mono ?_
        rintro en w3 ⟨vn, ve, rfl, hadd⟩
        have HADD := Lib.hid hadd
        clear hadd ADDH x0 x1 x2 x3 x4 x5 x6 x7 hs
        go_upto_region 11 with fail
        refine wp_cutM [none, none, none, none, none, none, none, none, none, none, none, none, none, none, none, none, none, none, none, none, none, none, none, none, none, none, none, none, none, none, none, none, none, none, none, none, none, none, none, none, none, none, none, none, none, none, none, none, none, none, none, none, none, none, none, none, none, none, none, none, none, none, none, none, none, none, none, some 67, some 68, some 69, some 70, some 71, some 72, some 73, some 74, some 75, some 76, some 77, some 78, some 79, some 80, some 81, some 82, none, none, none, none, none, none, none, none, none, none, none, none, none, none, none, none, none, none, none, none, none, none, none, none, none, none, none, none, none, none, none, none, none, none, none, none, none, none, none, none, none, none, none, none, none, none, none, none, none, none, none, none, none, none, none, none, none, none, none, none, none, none, none, none, none, none, none, none, none, none, none, none, none, none, none, none, none, none, none, none, none, none, none, none] (fun (f : Nat → Value) (wq : World) => (fun (vt : Value) => vt = .bool false ∧ wq = w3) (f 82)) ?first6 ?rest6
        case' first6 => intro JC KC hJC hKC
        case' rest6 =>
          intro f wr l hl hrel
          (try simp only [mask] at hl)
          generalize f 82 = u82 at hl hrel
          subst hl
          (try dsimp only at hrel)
        case first6 =>
          rcases HADD.out with ⟨rfl, rfl, rfl, _⟩ | ⟨rfl, rfl, rfl, _⟩
          · go_wp2_with fail
            refine Meet.intro (by kernel_rfl) (hJC _ _ ?rel7)
            case' rel7 => (try dsimp only [nthV])
            exact ⟨rfl, rfl⟩
          · go_wp2_with fail
            refine Meet.intro (by kernel_rfl) (hJC _ _ ?rel8)
            case' rel8 => (try dsimp only [nthV])
            exact ⟨rfl, rfl⟩
        case rest6 =>
          obtain ⟨rfl, rfl⟩ := hrel
          go_upto_if 83 with fail
          refine wp_cutM [none, none, some 2, none, some 4, some 5, none, none, none, none, some 10, none, none, none, none, none, none, none, none, none, none, none, none, none, none, none, none, none, none, none, none, none, none, none, none, none, none, none, none, none, none, none, none, none, none, none, none, none, none, none, none, none, none, none, none, none, none, none, none, none, none, none, none, none, none, none, none, none, none, none, none, none, none, none, none, none, none, none, none, none, none, none, none, some 83, some 84, some 85, some 86, some 87, some 88, some 89, some 90, some 91, some 92, some 93, some 94, some 95, some 96, some 97, some 98, none, none, none, none, none, none, none, none, none, none, none, none, none, none, none, none, none, none, none, none, none, none, none, none, none, none, none, none, none, none, none, none, none, none, none, none, none, none, none, none, none, none, none, none, none, none, none, none, none, none, none, none, none, none, none, none, none, none, none, none, none, none, none, none, none, none, none, none] (fun (f : Nat → Value) (wq : World) => (fun (vno vo : Value) => ∃ (zs ks2 : List Ro) (N2 : Nat), vno = .int .u64 N2 ∧ N2 ≤ i + 1 ∧ Hid (N2 = D + zs.length ∧ Good5 ks2 zs D ∧ ∀ z ∈ zs, z.Ok w) ∧ Sep w wq [winT roR vo zs, arcT b ks2 (min4 zs.length) N2]) (f 4) (f 5)) ?first9 ?rest9
          case' first9 => intro JC KC hJC hKC
          case' rest9 =>
            intro f wr l hl hrel
            (try simp only [mask] at hl)
            generalize f 4 = u4 at hl hrel
            generalize f 5 = u5 at hl hrel
            subst hl
            (try dsimp only at hrel)
          case first9 =>
            rcases HADD.out with ⟨rfl, rfl, rfl, hs⟩ | ⟨rfl, rfl, rfl, r1, hr1, hs⟩
            · clear HADD
              go_wp2_with fail
              refine Meet.intro (by kernel_rfl) (hJC _ _ ?rel10)
              case' rel10 => (try dsimp only [nthV])
              have hm4 : min4 ys.length = ys.length := by have := HGW.out.le; unfold min4; rw [if_pos (by omega)]
              exact ⟨ys, ks, N, rfl, by omega, Lib.hid ⟨HND.out, good5_of HGW.out, HGX.out⟩, by rw [hm4]; exact hs⟩
            · clear HADD
              have x8 := FSc.out _ _ hs
              have x0 := x8 0 (by decide)
              have x1 := x8 1 (by decide)
              have x2 := x8 2 (by decide)
              have x3 := x8 3 (by decide)
              have x4 := x8 4 (by decide)
              have x5 := x8 5 (by decide)
              have x6 := x8 6 (by decide)
              have x7 := x8 7 (by decide)
              simp only [roR, Nat.add_zero, List.getElem?_cons_zero, List.getElem?_cons_succ] at x0 x1 x2 x3 x4 x5 x6 x7
              clear x8
              have hs4 := hs.alloc (.cells #[.int .u64 (N + 1), .int .i64 day, .bool comp, .slice ai ids.length ci, .int .i64 n, .slice ae es.length ce, .slice af fl.length cf, .slice ap pot.length cp] 39)
              have hs5 := hs4.alloc (.cells #[.int .u64 (N + 1), .int .i64 day, .bool comp, .slice ai ids.length ci, .int .i64 n, .slice ae es.length ce, .slice af fl.length cf, .slice ap pot.length cp] 39)
              obtain ⟨Y, hY⟩ : ∃ Y : Ro, Y = ⟨N + 1, day, comp, ai, ci, ids, n, ae, ce, es, af, cf, fl, ap, cp, pot⟩ := ⟨_, rfl⟩
              have HY := Lib.hid hY
              have HYo := Lib.hid (show Y.Ok w by rw [hY]; exact HXO.out)
              have HYs := Lib.hid (show Y.small by rw [hY]; have := may_small HM.out.symm; rw [HX.out] at this; exact this)
              have HG5 := Lib.hid (good5_add HGW.out (x := Y) (r := r1) (by rw [hr1, hY, HX.out]; rfl) HYs.out (by rw [hY, HND.out]; push_cast; rfl))
              rw [show D + ys.length = N from HND.out.symm] at HG5
              have hL : (ys ++ [Y]).length = ys.length + 1 := by simp
              have HL := Lib.hid hL
              have hys4 := HGW.out.le
              have e1 : (((N : Int) + 1) != ((N : Int) + 1)) = false := by simp
              have HC4 := Lib.hid (show cap4 (ys.length : Nat) = (min4 (ys.length + 1) : Nat) by unfold cap4 min4; split <;> split <;> omega)
              clear hY hr1 hL hs hs4
              go_wp2_with (at_builtin; go_loud (refine wpList_appWin roR rfl (.tmp 92) (.tmp 94) 22 rfl 39 i0 _ 128 Try.underlying22 hi0 hz0 hz1 hz2 rfl _ ys Y hs5 0 rfl _ _ (by rw [HY.out]; rfl) (heap_alloc_new _ _) rfl (by rw [World.size_alloc]; rfl) ?c3 ?c4 ?grow))
              case c3 => unfold maxLen; omega
              case c4 => omega
              case grow =>
                intro v' w5 hs6 hsh
                obtain ⟨g, off, cap, rfl, hcap⟩ := hsh.out
                (try simp only [List.set_cons_succ, List.set_cons_zero] at hs6)
                rw [HC4.out] at hs6
                clear hs5 hsh x0 x1 x2 x3 x4 x5 x6 x7
                go_wp2_with fail
                refine Meet.intro (by kernel_rfl) (hJC _ _ ?rel11)
                case' rel11 => (try dsimp only [nthV])
                refine ⟨ys ++ [Y], _, N + 1, by go_num, by omega, Lib.hid ⟨by rw [HL.out, HND.out]; omega, HG5.out, fun q hq => ?_⟩, by rw [HL.out]; exact hs6⟩
                rcases List.mem_append.1 hq with hq | hq
                · exact HGX.out q hq
                · rw [List.mem_singleton.1 hq]; exact HYo.out
          case rest9 =>
            obtain ⟨zs, ks2, N2, rfl, hN2, HG2, hs⟩ := hrel
            clear HADD FSc HX HXO HM HND HGX HGW HG
            obtain ⟨al2, cl2, rfl⟩ := (hs.rdWin 0 rfl).shape
            go_upto_if 101 with fail
            refine wp_cutM [none, none, none, none, none, some 5, none, none, none, none, none, none, none, none, none, none, none, none, none, none, none, none, none, none, none, none, none, none, none, none, none, none, none, none, none, none, none, none, none, none, none, none, none, none, none, none, none, none, none, none, none, none, none, none, none, none, none, none, none, none, none, none, none, none, none, none, none, none, none, none, none, none, none, none, none, none, none, none, none, none, none, none, none, none, none, none, none, none, none, none, none, none, none, none, none, none, none, none, none, some 99, some 100, some 101, some 102, some 103, none, none, none, none, none, none, none, none, none, none, none, none, none, none, none, none, none, none, none, none, none, none, none, none, none, none, none, none, none, none, none, none, none, none, none, none, none, none, none, none, none, none, none, none, none, none, none, none, none, none, none, none, none, none, none, none, none, none, none, none, none, none, none] (fun (f : Nat → Value) (wq : World) => (fun (vo : Value) => Sep w wq [winT roR vo (zs.drop (zs.length - 4)), arcT b ks2 (min4 zs.length) N2]) (f 5)) ?first12 ?rest12
            case' first12 => intro JC KC hJC hKC
            case' rest12 =>
              intro f wr l hl hrel
              (try simp only [mask] at hl)
              generalize f 5 = u5 at hl hrel
              subst hl
              (try dsimp only at hrel)
            case first12 =>
              rcases hs.win 0 rfl with ⟨hv, hz⟩ | ⟨g, off, cap, hv, hcap, _⟩
              · subst hz
                injection hv with e1 e2 e3
                subst e1; subst e3
                go_wp2_with fail
                refine Meet.intro (by kernel_rfl) (hJC _ _ ?rel13)
                case' rel13 => (try dsimp only [nthV])
                exact hs
              · injection hv with e1 e2 e3
                subst e1; subst e3
                by_cases h4 : 4 < zs.length
                · have hz5 := HG2.out.2.1.1
                  have hz : zs.length = 5 := by omega
                  have hd := hs.winDrop 0 rfl 1 (by omega)
                  rw [show zs.length - 1 = 4 by omega] at hd
                  have hcl : ¬ cl2 = 1 := by omega
                  have HZ := Lib.hid (show zs.length - 4 = 1 by omega)
                  rw [hz]
                  clear hs
                  go_wp2_with fail
                  refine Meet.intro (by kernel_rfl) (hJC _ _ ?rel14)
                  case' rel14 => (try dsimp only [nthV])
                  rw [HZ.out]
                  exact hd
                · have HZ := Lib.hid (show zs.length - 4 = 0 by omega)
                  have d4 : decide ((4 : Int) < (zs.length : Int)) = false := decide_eq_false (by omega)
                  go_wp2_with fail
                  refine Meet.intro (by kernel_rfl) (hJC _ _ ?rel15)
                  case' rel15 => (try dsimp only [nthV])
                  rw [HZ.out]
                  exact hs
            case rest12 =>
              clear hs
              obtain ⟨ys2, hys2⟩ : ∃ ys2, ys2 = zs.drop (zs.length - 4) := ⟨_, rfl⟩
              obtain ⟨D2, hD2⟩ : ∃ D2, D2 = D + (zs.length - 4) := ⟨_, rfl⟩
              have hyl : ys2.length = min4 zs.length := by have := HG2.out.2.1.1; rw [hys2, List.length_drop]; unfold min4; split <;> omega
              have HW := Lib.hid (show N2 = D2 + ys2.length ∧ GoodW ks2 ys2 D2 ∧ ∀ y ∈ ys2, y.Ok w by
                obtain ⟨g1, g2, g3⟩ := HG2.out
                refine ⟨by rw [hyl, hD2, g1]; unfold min4; have := g2.1; split <;> omega, by rw [hys2, hD2]; exact g2.2, fun y hy => g3 y (by rw [hys2] at hy; exact List.mem_of_mem_drop hy)⟩)
              rw [← hys2, ← hyl] at hrel
              clear hys2 hD2 hyl HG2
              have hs := hrel
              clear hrel
              obtain ⟨hNN, hgw, hgo⟩ := HW.out
              have hln : ys2.length ≤ N2 := by omega
              have HNN := Lib.hid hNN
              have HGW := Lib.hid hgw
              have HGO := Lib.hid hgo
              clear hNN hgw hgo
              obtain ⟨al3, cl3, rfl⟩ := (hs.rdWin 0 rfl).shape
              have LI := Lib.hid (list_any b ks2 ys2.length D2 _ (by rw [← HNN.out]; exact (Sep.arch (i := 1) hs rfl).1) HGW.out.l4 HGW.out.le (by have := HNN.out; omega) (Sep.arch (i := 1) hs rfl).2 HGW.out.small)
              go_wp2_with fail
              refine (LI.out).mono ?_
              rintro en w4 ⟨vl, rs, rfl, hrs, k1⟩
              rw [goodW_list HGW.out] at hrs
              have HRS := Lib.hid hrs
              have hs3 := hs.join k1
              simp only [List.cons_append, List.nil_append] at hs3
              obtain ⟨al4, cl4, rfl⟩ := (hs3.rdRecs 0 rfl).shape
              have ano := (arch_n HGW.out.l4 (Sep.arch (i := 3) hs3 rfl).1).2
              clear LI hrs hs k1
              go_wp2_with fail
              refine (no_any b _ _ ano).mono ?_
              rintro en w5 ⟨rfl, rfl⟩
              clear ano
              go_wp2_with fail
              refine (sameL_same rs ys2 HRS.out _ _ _ (hs3.rdRecs 0 rfl) (hs3.rdWin 2 rfl) (Sep.bag (i := 1) hs3 rfl) (fun q hq => (HGO.out q hq).sep hs3)).mono ?_
              rintro en w6 ⟨rfl, hb⟩
              replace hs3 := (hs3.belowStep hb).tail.tail
              clear hb HRS
              go_wp2_with fail
              refine wp_loopM [none, none, some 2, none, none, none, none, none, none, none, none, none, some 12, some 13, some 14, none, none, none, none, none, none, none, none, none, none, none, none, none, none, none, none, none, none, none, none, none, none, none, none, none, none, none, none, none, none, none, none, none, none, none, none, none, none, none, none, none, none, none, none, none, none, none, none, none, none, none, none, none, none, none, none, none, none, none, none, none, none, none, none, none, none, none, none, none, none, none, none, none, none, none, none, none, none, none, none, none, none, none, none, none, none, none, none, none, none, none, none, none, none, none, none, none, none, none, none, none, some 116, some 117, some 118, some 119, some 120, some 121, some 122, some 123, some 124, some 125, some 126, some 127, some 128, some 129, some 130, some 131, some 132, some 133, some 134, some 135, some 136, some 137, some 138, some 139, some 140, some 141, some 142, some 143, some 144, none, none, none, none, none, none, none, none, none, none, none, none, none, none, none, none, none, none, none, none, none, none] (fun (r2 : Nat) (f : Nat → Value) (wq : World) => (fun (v : Value) => ∃ k : Nat, v = .int .i64 k ∧ k ≤ ys2.length ∧ r2 = ys2.length - k ∧ Sep w wq [winT roR (.slice al3 ys2.length cl3) ys2, arcT b ks2 ys2.length N2]) (f 12)) (ys2.length) (by kernel_rfl) ?atStart16 ?round16
              case' atStart16 => (try dsimp only [nthV])
              case' round16 =>
                intro gk f wr l hl hrel J2 K2 hJ2 hK2
                (try simp only [mask] at hl)
                generalize f 12 = u12 at hl hrel
                subst hl
                (try dsimp only at hrel)
              case atStart16 => exact ⟨0, rfl, Nat.zero_le _, rfl, hs3⟩
              case round16 =>
                clear hs3
                obtain ⟨k, rfl, hk, rfl, hs⟩ := hrel
                have hA := (Sep.arch (i := 1) hs rfl)
                by_cases hkt : k < ys2.length
                · obtain ⟨kk, hk1, hk2, hk3⟩ := HGW.out.at_ k hkt
                  have hcap : ys2.length ≤ cl3 := by
                    rcases hs.win 0 rfl with ⟨_, hz⟩ | ⟨g, off, cap, e, hcap, _⟩
                    · rw [hz] at hkt; simp at hkt
                    · injection e with _ _ e3; omega
                  have hck : ¬ cl3 = k := by omega
                  have hkm := List.mem_of_getElem? hk1
                  obtain ⟨bw, ow, ew, hbw, hcw⟩ := (hs.rdWin 0 rfl).at k hkt
                  subst ew
                  have G1 := get_yes b ks2 ys2.length N2 (D2 + k + 1) _ hA.1 HGW.out.l4 (by have := HNN.out; omega) (by omega) (by have := HNN.out; omega) kk hk1 (hA.2 kk hkm) (HGW.out.small kk hkm)
                  have y0 := hcw 0 (by decide)
                  simp only [roR, Nat.add_zero, List.getElem?_cons_zero, List.getElem?_cons_succ] at y0
                  rw [hk3] at y0
                  have HK2 := Lib.hid hk2
                  have HG1 := Lib.hid G1
                  clear G1 hk1 hk2 hk3 hcw hA
                  generalize D2 + k + 1 = q at y0 HG1
                  go_wp2_with fail
                  refine (HG1.out).mono ?_
                  rintro en w7 ⟨r1, hco, rfl, k1⟩
                  have HCO := Lib.hid (show [r1].map Ro.co = ((ys2.drop k).take 1).map Ro.co by
                    rw [List.drop_eq_getElem_cons hkt, List.map_cons, List.map_nil, List.take_succ_cons, List.take_zero, List.map_cons, List.map_nil, hco, HK2.out])
                  replace hs := hs.join k1
                  simp only [List.cons_append, List.nil_append] at hs
                  clear HG1 hco k1 y0
                  obtain ⟨xno, xday, xcomp, a1, c1, xids, xn, a2, c2, xes, a3, c3, xfl, a4, c4, xpot⟩ := r1
                  dsimp only [Ro.val]
                  go_wp2_with fail
                  have hs4 := ((hs.alloc (.cells #[.int .u64 xno, .int .i64 xday, .bool xcomp, .slice a1 xids.length c1, .int .i64 xn, .slice a2 xes.length c2, .slice a3 xfl.length c3, .slice a4 xpot.length c4] 39)).alloc (.cells #[.int .u64 xno, .int .i64 xday, .bool xcomp, .slice a1 xids.length c1, .int .i64 xn, .slice a2 xes.length c2, .slice a3 xfl.length c3, .slice a4 xpot.length c4] 39)).drew
                  have HSUB := Lib.hid ((hs4.rdWin 1 rfl).sub k 1 (cl3 - k) (by omega))
                  have hnew := heap_alloc_new (w7.alloc (.cells #[.int .u64 xno, .int .i64 xday, .bool xcomp, .slice a1 xids.length c1, .int .i64 xn, .slice a2 xes.length c2, .slice a3 xfl.length c3, .slice a4 xpot.length c4] 39)) (.cells #[.int .u64 xno, .int .i64 xday, .bool xcomp, .slice a1 xids.length c1, .int .i64 xn, .slice a2 xes.length c2, .slice a3 xfl.length c3, .slice a4 xpot.length c4] 39)
                  rw [World.size_alloc] at hnew
                  have HX := Lib.hid (show RdG roR (World.drew ((w7.alloc (.cells #[.int .u64 xno, .int .i64 xday, .bool xcomp, .slice a1 xids.length c1, .int .i64 xn, .slice a2 xes.length c2, .slice a3 xfl.length c3, .slice a4 xpot.length c4] 39)).alloc (.cells #[.int .u64 xno, .int .i64 xday, .bool xcomp, .slice a1 xids.length c1, .int .i64 xn, .slice a2 xes.length c2, .slice a3 xfl.length c3, .slice a4 xpot.length c4] 39))) (.slice (some ⟨w7.heap.size + 1, 0, none⟩) 1 1) [(⟨xno, xday, xcomp, a1, c1, xids, xn, a2, c2, xes, a3, c3, xfl, a4, c4, xpot⟩ : Ro)] from RdG.ofCells [(⟨xno, xday, xcomp, a1, c1, xids, xn, a2, c2, xes, a3, c3, xfl, a4, c4, xpot⟩ : Ro)] hnew 1 (by simp [maxLen]))
                  clear hnew
                  refine Mix.region [0, 0, 0, 0, 2, 1, 1, 1, 1, 1, 2, 0, 0] (fun _ => True) (by kernel_rfl) (by kernel_rfl) trivial ?_
                  simp only [List.zip_cons_cons, List.zip_nil_right]
                  iterate 3 (refine Mix.step0 fun K hK => ?_; go_simp; (try (go_bits; try go_simp)); first | ((with_reducible refine hK _ _ ?_); clear hK K) | ((try (simp only [IntWalk.iteOmega]; try go_simp)); (try go_bits); (with_reducible refine hK _ _ ?_); clear hK K))
                  iterate 1 (first | (refine Mix.stepS rfl fun K hK => ?_; go_simp; (with_reducible refine hK _ _ ?_); clear hK K) | (refine Mix.step0 fun K hK => ?_; go_simp; (try (go_bits; try go_simp)); first | ((with_reducible refine hK _ _ ?_); clear hK K) | ((try (simp only [IntWalk.iteOmega]; try go_simp)); (try go_bits); (with_reducible refine hK _ _ ?_); clear hK K)))
                  refine Mix.step2n (by first | rfl | simp [Region.wanted, yielded]) fun K hK => ?_
                  go_wp2_with fail
                  refine Mix.post_mk (C := (fun _ => True)) trivial (hK _ _ ?_)
                  clear hK K
                  iterate 5 (first | (refine Mix.stepS rfl fun K hK => ?_; go_simp; (with_reducible refine hK _ _ ?_); clear hK K) | (refine Mix.step1 fun K hK => ?_; go_simp; (try (go_bits; try go_simp)); first | ((with_reducible refine hK _ _ ?_); clear hK K) | ((try (simp only [IntWalk.iteOmega]; try go_simp)); (try go_bits); (with_reducible refine hK _ _ ?_); clear hK K)))
                  refine Mix.step2n (by first | rfl | simp [Region.wanted, yielded]) fun K hK => ?_
                  go_wp2_with fail
                  refine (sameL_same _ _ HCO.out _ _ _ HX.out HSUB.out (fun q hq => by rw [List.mem_singleton.1 hq]; exact Sep.ro (i := 0) hs4 rfl) (fun q hq => (HGO.out q (List.mem_of_mem_drop (List.mem_of_mem_take hq))).sep hs4)).mono ?_
                  rintro en w8 ⟨rfl, hb⟩
                  replace hs4 := (hs4.belowStep hb).tail
                  clear hb
                  go_wp2_with fail
                  refine Mix.post_mk (C := (fun _ => True)) trivial (hK _ _ ?_)
                  clear hK K
                  iterate 1 (first | (refine Mix.stepS rfl fun K hK => ?_; go_simp; (with_reducible refine hK _ _ ?_); clear hK K) | (refine Mix.step0 fun K hK => ?_; go_simp; (try (go_bits; try go_simp)); first | ((with_reducible refine hK _ _ ?_); clear hK K) | ((try (simp only [IntWalk.iteOmega]; try go_simp)); (try go_bits); (with_reducible refine hK _ _ ?_); clear hK K)))
                  iterate 1 (refine Mix.step0 fun K hK => ?_; go_simp; (try (go_bits; try go_simp)); first | ((with_reducible refine hK _ _ ?_); clear hK K) | ((try (simp only [IntWalk.iteOmega]; try go_simp)); (try go_bits); (with_reducible refine hK _ _ ?_); clear hK K))
                  refine Mix.done ?_
                  go_wp2_with fail
                  refine Round.intro (ys2.length - (k + 1)) ?measure17 (by kernel_rfl) (hJ2 _ _ _ ?rel17)
                  case' rel17 => (try dsimp only [nthV])
                  case measure17 => omega
                  case rel17 => exact ⟨k + 1, by go_num, hkt, rfl, hs4⟩
                · have hkb := lt_of hA.1
                  obtain ⟨an, ano⟩ := arch_n HGW.out.l4 hA.1
                  have e1 : ((N2 - ys2.length : Nat) : Int) = (N2 : Int) - ys2.length := by omega
                  have e2 : ((N2 + 1 : Nat) : Int) = (N2 : Int) + 1 := by omega
                  have G1 := get_old b ys2.length N2 (N2 - ys2.length) _ hkb an ano (by omega) (by omega) (by omega)
                  rw [e1] at G1
                  have HG1 := Lib.hid G1
                  have HE2 := Lib.hid e2
                  clear an ano e1 e2 G1 hA hkb
                  go_wp2_with fail
                  refine (HG1.out).mono ?_
                  rintro en w7 ⟨rfl, hb⟩
                  replace hs := hs.belowStep hb
                  clear HG1 hb
                  dsimp only [zeroV]
                  have hs4 := hs.alloc (.cells #[.int .u64 0, .int .i64 0, .bool false, .slice none 0 0, .int .i64 0, .slice none 0 0, .slice none 0 0, .slice none 0 0] 39)
                  have hA := (Sep.arch (i := 1) hs4 rfl)
                  obtain ⟨an, ano⟩ := arch_n HGW.out.l4 hA.1
                  have G2 := get_over b ys2.length N2 (N2 + 1) _ (lt_of hA.1) an ano (by omega)
                  rw [HE2.out] at G2
                  have HG2 := Lib.hid G2
                  clear an ano hA G2 hs
                  go_wp2_with fail
                  refine (HG2.out).mono ?_
                  rintro en w8 ⟨rfl, hb⟩
                  replace hs4 := (hs4.belowStep hb).alloc (.cells #[.int .u64 0, .int .i64 0, .bool false, .slice none 0 0, .int .i64 0, .slice none 0 0, .slice none 0 0, .slice none 0 0] 39)
                  clear HG2 hb
                  dsimp only [zeroV]
                  go_wp2_with fail
                  refine Round.intro (l.length - (i + 1)) ?measure18 (by kernel_rfl) (hJ1 _ _ _ ?rel18)
                  case' rel18 => (try dsimp only [nthV])
                  case measure18 => omega
                  case rel18 => exact ⟨i + 1, D2, N2, ys2, ks2, by go_num, hlt, rfl, rfl, hN2, HW, hs4⟩
    · go_wp2_with fail
      refine (works_any _).mono ?_
      rintro en w3 ⟨rfl, hb⟩
      replace hs := hs.belowStep hb
      go_wp2_with fail
      go_ret
      exact ⟨rfl, hs.below⟩
end Go.Proofs.Ytfnkmkfkomhhnaa
