/-
  DeviceKeeps, walked.
-/
import Derived.Test.YtpjbafpbgacnkaaDvKeep
set_option linter.unusedVariables false
set_option linter.unusedSimpArgs false
namespace Go.Proofs.Ytpjbafpbgacnkaa
open Go Go.RowKit Go.Mem Go.DevP
attribute [local go_sem] Oper.semAt_some
/-- A pair of bytes. -/
def prR : Rec (Int × Int) where
  m := 2
  cells p := [.int .u8 p.1, .int .u8 p.2]
  len _ := rfl
  one p u hu := by
    simp only [List.mem_cons, List.not_mem_nil, or_false] at hu
    rcases hu with rfl | rfl <;> rfl
  pos := by decide
set_option maxRecDepth 100000 in
set_option maxHeartbeats 8000000 in
theorem deviceKeeps_any (W : World) {v0 : Value} {zs : List Int} (hz : Rd .u8 W v0 zs) (hzb : ∀ z ∈ zs, 0 ≤ z ∧ z ≤ 255) {v1 : Value} {ys : List (Int × Int)} (hy : RdG prR W v1 ys) (hyb : ∀ y ∈ ys, (0 ≤ y.1 ∧ y.1 ≤ 255) ∧ 0 ≤ y.2 ∧ y.2 ≤ 255)
    (v2 : Value) (ps : List Int) (hp : Rd .i64 W v2 ps) (a2 : Option Addr) (n2 c2 : Nat) (e2 : v2 = .slice a2 n2 c2) (hc2 : n2 ≤ c2) :
    Calls Try.prog 4 #[v0, v1, v2] W fun e w' => e = .returned (.bool true) ∧ Below W.heap.size W w' := by
  obtain ⟨a0, c0, rfl⟩ := hz.shape
  obtain ⟨a1, c1, rfl⟩ := hy.shape
  subst e2
  have hn2 : n2 = ps.length := hp.len
  have hle0 := hz.le'
  have hle1 := hy.le'
  have hle2 := hp.le'
  rw [← hn2] at hle2
  have HZB := Lib.hid hzb
  have HYB := Lib.hid hyb
  have HP := Lib.hid hp
  have HN2 := Lib.hid hn2
  clear hzb hyb hp hn2
  by_cases b1 : zs.length = 0
  · have f0 : ((zs.length : Int) == 0) = true := by simpa using b1
    clear hz hy
    go_enter Try.func4, Try.ntmps4
    go_wp2_with fail
    refine (works_any _).mono ?_
    rintro en w1 ⟨rfl, hw⟩
    go_wp2_with fail
    go_ret
    exact ⟨rfl, hw⟩
  have f0 : ((zs.length : Int) == 0) = false := by simpa using b1
  by_cases b2 : 30 < zs.length
  · have f1 : decide ((30 : Int) < zs.length) = true := decide_eq_true (by omega)
    clear hz hy
    go_enter Try.func4, Try.ntmps4
    go_wp2_with fail
    refine (works_any _).mono ?_
    rintro en w1 ⟨rfl, hw⟩
    go_wp2_with fail
    go_ret
    exact ⟨rfl, hw⟩
  have f1 : decide ((30 : Int) < zs.length) = false := decide_eq_false (by omega)
  by_cases b3 : 100 < ys.length
  · have f2 : decide ((100 : Int) < ys.length) = true := decide_eq_true (by omega)
    clear hz hy
    go_enter Try.func4, Try.ntmps4
    go_wp2_with fail
    refine (works_any _).mono ?_
    rintro en w1 ⟨rfl, hw⟩
    go_wp2_with fail
    go_ret
    exact ⟨rfl, hw⟩
  have f2 : decide ((100 : Int) < ys.length) = false := decide_eq_false (by omega)
  by_cases b4 : 100 < n2
  · have f3 : decide ((100 : Int) < n2) = true := decide_eq_true (by omega)
    clear hz hy
    go_enter Try.func4, Try.ntmps4
    go_wp2_with fail
    refine (works_any _).mono ?_
    rintro en w1 ⟨rfl, hw⟩
    go_wp2_with fail
    go_ret
    exact ⟨rfl, hw⟩
  have f3 : decide ((100 : Int) < n2) = false := decide_eq_false (by omega)
  replace b2 : zs.length ≤ 30 := by omega
  replace b3 : ys.length ≤ 100 := by omega
  replace b4 : n2 ≤ 100 := by omega
  have b1I : ¬ (zs.length : Int) = 0 := by omega
  have b1J : (0 : Int) < zs.length := by omega
  go_enter Try.func4, Try.ntmps4
  go_wp2_with fail
  refine wp_loopM [none, none, none, none, none, none, some 6, some 7, some 8, some 9, some 10, some 11, some 12, some 13, some 14, none, none, none, none, none, none, none, none, none, none, none, none, none, none, none, none, none, none, none, some 34, some 35, some 36, some 37, some 38, some 39, some 40, some 41, some 42, some 43, some 44, some 45, some 46, some 47, some 48, some 49, some 50, some 51, some 52, some 53, some 54, some 55, some 56, some 57, some 58, some 59, some 60, some 61, some 62, some 63, some 64, some 65, some 66, some 67, some 68, some 69, some 70, some 71, some 72, some 73, some 74, some 75, some 76, some 77, some 78, some 79, some 80, some 81, some 82, some 83, some 84, some 85, some 86, some 87, some 88, some 89, some 90, some 91, some 92, some 93, some 94, some 95, some 96, some 97, some 98, some 99, some 100, some 101, some 102, some 103, some 104, some 105, some 106, some 107, some 108, some 109, some 110, some 111, some 112, some 113, some 114, some 115, some 116, some 117, some 118, some 119, some 120, some 121, some 122, some 123, some 124, some 125, some 126, some 127, some 128, some 129, some 130, some 131, some 132, some 133, some 134, some 135, some 136, some 137, some 138, some 139, some 140, some 141, some 142, some 143, some 144, some 145, some 146, some 147, some 148, some 149, some 150, some 151, some 152, some 153, some 154, some 155, some 156, some 157, some 158, some 159, some 160, some 161, some 162, none] (fun (r : Nat) (f : Nat → Value) (wr : World) => (fun (v : Value) => ∃ i : Nat, v = .int .i64 i ∧ i ≤ 2 ∧ r = 2 - i ∧ Sep W wr []) (f 7)) (2) (by kernel_rfl) ?atStart1 ?round1
  case' atStart1 => (try dsimp only [nthV])
  case' round1 =>
    intro gk f wr l hl hrel J1 K1 hJ1 hK1
    (try simp only [mask] at hl)
    generalize f 7 = u7 at hl hrel
    subst hl
    (try dsimp only at hrel)
  case atStart1 => exact ⟨0, rfl, by omega, rfl, Sep.start W⟩
  case round1 =>
    obtain ⟨way, rfl, hway, rfl, hs⟩ := hrel
    by_cases hw2 : way < 2
    rotate_left
    · go_wp2_with fail
      refine (works_any _).mono ?_
      rintro en w1 ⟨rfl, hw⟩
      replace hs := hs.belowStep hw
      clear hw
      go_wp2_with fail
      go_ret
      exact ⟨rfl, hs.below⟩
    go_wp2_with fail
    refine (new_any zs.length _).mono ?_
    rintro en w1 (⟨h, -⟩ | ⟨M, b, hM, h1, h2, rfl, hs1⟩)
    · omega
    obtain rfl : zs.length = M := by omega
    replace hs := hs.join hs1
    simp only [List.cons_append, List.nil_append] at hs
    clear hM h1 h2 hs1
    go_wp2_with fail
    have HK0 := Lib.hid (KeA.start b1 b2)
    generalize Dv.new zs.length = d0 at hs HK0
    refine wp_loopM [none, none, none, none, none, none, some 6, none, none, none, some 10, none, none, none, none, none, none, none, none, none, none, none, none, none, none, none, none, none, none, none, none, none, none, none, none, none, none, none, none, none, none, none, none, none, none, none, none, none, none, none, some 50, some 51, some 52, some 53, some 54, some 55, some 56, some 57, some 58, some 59, some 60, some 61, some 62, some 63, some 64, none, none, none, none, none, none, none, none, none, none, none, none, none, none, none, none, none, none, none, none, none, none, none, none, none, none, none, none, none, none, none, none, none, none, none, none, none, none, none, none, none, none, none, none, none, none, none, none, none, none, none, none, none, none, none, none, none, none, none, none, none, none, none, none, none, none, none, none, none, none, none, none, none, none, none, none, none, none, none, none, none, none, none, none, none, none, none, none, none, none, none, none, none, none, none, none, none, none, none] (fun (r : Nat) (f : Nat → Value) (wr : World) => (fun (v : Value) => ∃ (i : Nat) (d : Dv), v = .int .i64 i ∧ i ≤ zs.length ∧ r = zs.length - i ∧ KeA zs i d ∧ Sep W wr [devT b d]) (f 10)) (zs.length) (by kernel_rfl) ?atStart2 ?round2
    case' atStart2 => (try dsimp only [nthV])
    case' round2 =>
      intro gk f wr l hl hrel J2 K2 hJ2 hK2
      (try simp only [mask] at hl)
      generalize f 10 = u10 at hl hrel
      subst hl
      (try dsimp only at hrel)
    case atStart2 => exact ⟨0, d0, rfl, Nat.zero_le _, rfl, HK0.out, hs⟩
    case round2 =>
      clear hs HK0
      obtain ⟨i, d, rfl, hi, rfl, hI, hs⟩ := hrel
      have HI := Lib.hid hI
      clear hI
      by_cases hlt : i < zs.length
      · obtain ⟨q1, o1, e1, hb1, hc1⟩ := hz.at i hlt
        subst e1
        obtain ⟨x, hx⟩ : ∃ x, x = zs.getD i 0 := ⟨_, rfl⟩
        rw [← hx] at hc1
        have HX := Lib.hid hx
        clear hx
        have cx1 := (hs.cell hb1).trans hc1
        go_wp2_with fail
        refine (full_any x _).mono ?_
        rintro en1 w1 ⟨fa, fn, rfl, hf⟩
        replace hs := hs.join hf
        simp only [List.cons_append, List.nil_append] at hs
        clear hf
        go_wp2_with fail
        refine (write_any hs (i := 1) rfl (HI.out).free.good i (j := 0) (by decide) rfl (by rw [filled_len]; omega) ((HI.out).big.le (by omega))).mono ?_
        rintro en2 w2 ⟨rfl, hs2⟩
        have HNX := Lib.hid ((HI.out).step hlt)
        rw [← HX.out] at HNX
        rw [(HNX.out).1]
        clear hs HI
        have hs := hs2.tail
        clear hs2
        (try simp only [List.set_cons_succ, List.set_cons_zero, List.tail_cons] at hs)
        go_wp2_with fail
        refine Round.intro (zs.length - (i + 1)) ?measure3 (by kernel_rfl) (hJ2 _ _ _ ?rel3)
        case' rel3 => (try dsimp only [nthV])
        case measure3 => omega
        case rel3 => exact ⟨i + 1, _, by go_num, hlt, rfl, (HNX.out).2, hs⟩
      obtain rfl : zs.length = i := by omega
      go_wp2_with fail
      refine (flush_any hs (i := 0) rfl (HI.out).free.good).mono ?_
      rintro en2 w2 ⟨rfl, hs2⟩
      rw [((HI.out).flush (ys := ys)).1]
      have HJ0 := Lib.hid ((HI.out).flush (ys := ys)).2
      clear hs HI
      have hs := hs2
      clear hs2
      simp only [List.set_cons_zero] at hs
      generalize d.flushD = d1 at hs HJ0
      clear hlt hi
      go_wp2_with fail
      refine wp_loopM [none, none, none, none, none, none, some 6, none, none, none, none, some 11, none, none, none, none, none, none, none, none, none, none, none, none, none, none, none, none, none, none, none, none, none, none, none, none, none, none, none, none, none, none, none, none, none, none, none, none, none, none, none, none, none, none, none, none, none, none, none, none, none, none, none, none, none, none, none, none, some 68, some 69, some 70, some 71, some 72, some 73, some 74, some 75, some 76, some 77, some 78, some 79, some 80, some 81, some 82, some 83, some 84, some 85, some 86, some 87, some 88, some 89, some 90, some 91, none, none, none, none, none, none, none, none, none, none, none, none, none, none, none, none, none, none, none, none, none, none, none, none, none, none, none, none, none, none, none, none, none, none, none, none, none, none, none, none, none, none, none, none, none, none, none, none, none, none, none, none, none, none, none, none, none, none, none, none, none, none, none, none, none, none, none, none, none, none, none, none] (fun (r : Nat) (f : Nat → Value) (wr : World) => (fun (v : Value) => ∃ (j : Nat) (d : Dv), v = .int .i64 j ∧ j ≤ ys.length ∧ r = ys.length - j ∧ KeB zs ys j d ∧ Sep W wr [devT b d]) (f 11)) (ys.length) (by kernel_rfl) ?atStart4 ?round4
      case' atStart4 => (try dsimp only [nthV])
      case' round4 =>
        intro gk f wr l hl hrel J3 K3 hJ3 hK3
        (try simp only [mask] at hl)
        generalize f 11 = u11 at hl hrel
        subst hl
        (try dsimp only at hrel)
      case atStart4 => exact ⟨0, d1, rfl, Nat.zero_le _, rfl, HJ0.out, hs⟩
      case round4 =>
        clear hs HJ0
        obtain ⟨j, d2, rfl, hj, rfl, hI, hs⟩ := hrel
        have HI := Lib.hid hI
        clear hI
        by_cases hlt : j < ys.length
        · obtain ⟨q1, o1, e1, hb1, hc1⟩ := hy.at j hlt
          subst e1
          have HYJ := Lib.hid (HYB.out _ (List.getElem_mem hlt))
          obtain ⟨⟨y1, y2⟩, hyy⟩ : ∃ y, y = ys[j] := ⟨_, rfl⟩
          have HYY := Lib.hid hyy
          rw [← hyy] at hc1 HYJ
          have x0 := hc1 0 (by decide)
          have x1 := hc1 1 (by decide)
          simp only [prR, Nat.add_zero, List.getElem?_cons_zero, List.getElem?_cons_succ] at x0 x1
          clear hc1 hyy
          obtain ⟨⟨hy0, hy1⟩, hy2, hy3⟩ := HYJ.out
          dsimp only at hy0 hy1 hy2 hy3
          clear HYJ
          have hm0 : 0 ≤ y1 % (zs.length : Int) := Int.emod_nonneg _ b1I
          have hm1 : y1 % (zs.length : Int) < zs.length := Int.emod_lt_of_pos _ (by omega)
          obtain ⟨kk, hkk⟩ : ∃ kk : Nat, y1 % (zs.length : Int) = kk := ⟨(y1 % (zs.length : Int)).toNat, by omega⟩
          have HKK := Lib.hid hkk
          have hkn : kk < zs.length := by omega
          clear hkk
          go_wp2_with fail
          replace hs := hs.drew
          have hCW : (fun W : World => W.cell? ⟨q1, o1 + j * 2, none⟩ = some (.int .u8 y1) ∧ W.cell? ⟨q1, o1 + j * 2 + 1, none⟩ = some (.int .u8 y2)) wr.drew := ⟨(hs.cell hb1).trans x0, (hs.cell hb1).trans x1⟩
          refine Mix.region [1, 1, 1, 1, 1, 1, 1, 1, 1, 1, 0, 0, 0, 0, 0, 2, 2, 0] (fun W : World => W.cell? ⟨q1, o1 + j * 2, none⟩ = some (.int .u8 y1) ∧ W.cell? ⟨q1, o1 + j * 2 + 1, none⟩ = some (.int .u8 y2)) (by kernel_rfl) (by kernel_rfl) hCW ?_
          simp only [List.zip_cons_cons, List.zip_nil_right]
          (refine Mix.step1 fun K hK => ?_; go_simp; (try (go_bits; try go_simp)); first | ((with_reducible refine hK _ _ ?_); clear hK K) | ((try (simp only [IntWalk.iteOmega]; try go_simp)); (try go_bits); (with_reducible refine hK _ _ ?_); clear hK K))
          (refine Mix.step1 fun K hK => ?_; go_simp; (try (go_bits; try go_simp)); first | ((with_reducible refine hK _ _ ?_); clear hK K) | ((try (simp only [IntWalk.iteOmega]; try go_simp)); (try go_bits); (with_reducible refine hK _ _ ?_); clear hK K))
          (refine Mix.step1 fun K hK => ?_; go_simp; (try (go_bits; try go_simp)); first | ((with_reducible refine hK _ _ ?_); clear hK K) | ((try (simp only [IntWalk.iteOmega]; try go_simp)); (try go_bits); (with_reducible refine hK _ _ ?_); clear hK K))
          (refine Mix.step1 fun K hK => ?_; go_simp; (try (go_bits; try go_simp)); first | ((with_reducible refine hK _ _ ?_); clear hK K) | ((try (simp only [IntWalk.iteOmega]; try go_simp)); (try go_bits); (with_reducible refine hK _ _ ?_); clear hK K))
          (refine Mix.step1 fun K hK => ?_; go_simp; (try (go_bits; try go_simp)); first | ((with_reducible refine hK _ _ ?_); clear hK K) | ((try (simp only [IntWalk.iteOmega]; try go_simp)); (try go_bits); (with_reducible refine hK _ _ ?_); clear hK K))
          (refine Mix.step1 fun K hK => ?_; go_simp; refine ⟨fun W => ?_, hK _ _ ?_⟩; (intro hW1; (try intro hW2); (try intro hW3); (try intro hW4); (try intro hW5); (try intro hW6); (try intro hW7); (try intro hW8); go_simp); clear hK K)
          (refine Mix.step1 fun K hK => ?_; go_simp; (try (go_bits; try go_simp)); first | ((with_reducible refine hK _ _ ?_); clear hK K) | ((try (simp only [IntWalk.iteOmega]; try go_simp)); (try go_bits); (with_reducible refine hK _ _ ?_); clear hK K))
          (refine Mix.step1 fun K hK => ?_; go_simp; (try (go_bits; try go_simp)); first | ((with_reducible refine hK _ _ ?_); clear hK K) | ((try (simp only [IntWalk.iteOmega]; try go_simp)); (try go_bits); (with_reducible refine hK _ _ ?_); clear hK K))
          (refine Mix.step1 fun K hK => ?_; go_simp; (try (go_bits; try go_simp)); first | ((with_reducible refine hK _ _ ?_); clear hK K) | ((try (simp only [IntWalk.iteOmega]; try go_simp)); (try go_bits); (with_reducible refine hK _ _ ?_); clear hK K))
          (refine Mix.step1 fun K hK => ?_; go_simp; (try (go_bits; try go_simp)); first | ((with_reducible refine hK _ _ ?_); clear hK K) | ((try (simp only [IntWalk.iteOmega]; try go_simp)); (try go_bits); (with_reducible refine hK _ _ ?_); clear hK K))
          iterate 5 (refine Mix.step0 fun K hK => ?_; go_simp; (try (go_bits; try go_simp)); first | ((with_reducible refine hK _ _ ?_); clear hK K) | ((try (simp only [IntWalk.iteOmega]; try go_simp)); (try go_bits); (with_reducible refine hK _ _ ?_); clear hK K))
          refine Mix.step2n (by first | rfl | simp [Region.wanted, yielded]) fun K hK => ?_
          go_wp2_with fail
          refine (full_any y2 _).mono ?_
          rintro en1 w1 ⟨fa, fn, rfl, hf⟩
          replace hs := hs.join hf
          simp only [List.cons_append, List.nil_append] at hs
          clear hf
          have hCW : (fun W : World => W.cell? ⟨q1, o1 + j * 2, none⟩ = some (.int .u8 y1) ∧ W.cell? ⟨q1, o1 + j * 2 + 1, none⟩ = some (.int .u8 y2)) w1 := ⟨(hs.cell hb1).trans x0, (hs.cell hb1).trans x1⟩
          go_wp2_with fail
          refine Mix.post_mk (C := (fun W : World => W.cell? ⟨q1, o1 + j * 2, none⟩ = some (.int .u8 y1) ∧ W.cell? ⟨q1, o1 + j * 2 + 1, none⟩ = some (.int .u8 y2))) (by first | exact hCW | exact HCW.out _) (hK _ _ ?_)
          clear hK K
          refine Mix.step2n (by first | rfl | simp [Region.wanted, yielded]) fun K hK => ?_
          go_wp2_with fail
          refine (write_any hs (i := 1) rfl (HI.out).free.good (y1 % zs.length) (j := 0) (by decide) rfl (by rw [filled_len]; omega) ((HI.out).big.le (by omega))).mono ?_
          rintro en2 w2 ⟨rfl, hs2⟩
          have HNX := Lib.hid ((HI.out).step hlt (k := kk) (by rw [← HYY.out]; exact HKK.out) hkn)
          rw [← HYY.out] at HNX
          rw [HKK.out] at hs2 ⊢
          rw [(HNX.out).1]
          clear hs HI
          have hs := hs2.tail
          clear hs2
          (try simp only [List.set_cons_succ, List.set_cons_zero, List.tail_cons] at hs)
          have hCW : (fun W : World => W.cell? ⟨q1, o1 + j * 2, none⟩ = some (.int .u8 y1) ∧ W.cell? ⟨q1, o1 + j * 2 + 1, none⟩ = some (.int .u8 y2)) w2 := ⟨(hs.cell hb1).trans x0, (hs.cell hb1).trans x1⟩
          go_wp2_with fail
          refine Mix.post_mk (C := (fun W : World => W.cell? ⟨q1, o1 + j * 2, none⟩ = some (.int .u8 y1) ∧ W.cell? ⟨q1, o1 + j * 2 + 1, none⟩ = some (.int .u8 y2))) (by first | exact hCW | exact HCW.out _) (hK _ _ ?_)
          clear hK K
          iterate 1 (refine Mix.step0 fun K hK => ?_; go_simp; (try (go_bits; try go_simp)); first | ((with_reducible refine hK _ _ ?_); clear hK K) | ((try (simp only [IntWalk.iteOmega]; try go_simp)); (try go_bits); (with_reducible refine hK _ _ ?_); clear hK K))
          refine Mix.done ?_
          go_wp2_with fail
          refine Round.intro (ys.length - (j + 1)) ?measure5 (by kernel_rfl) (hJ3 _ _ _ ?rel5)
          case' rel5 => (try dsimp only [nthV])
          case measure5 => omega
          case rel5 => exact ⟨j + 1, _, by go_num, hlt, rfl, (HNX.out).2, hs⟩
        obtain rfl : ys.length = j := by omega
        go_wp2_with fail
        refine (off_any hs (i := 0) rfl).mono ?_
        rintro en2 w2 ⟨rfl, hs2⟩
        rw [((HI.out).comes [] false (fun _ => rfl)).1]
        clear hs
        have hs := hs2
        clear hs2
        simp only [List.set_cons_zero] at hs
        clear hj hlt
        by_cases hw0 : way = 0
        · subst hw0
          go_wp2_with fail
          have HKC := Lib.hid ((HI.out).comes (ps) true (by intro h; cases h))
          refine (comes_any hs (i := 0) rfl (HI.out).free.good.offD ((HI.out).big.offD.le (by omega)) (ps) a2 n2 c2 hc2 (fun W' R' h _ => h.rd HP.out)).mono ?_
          rintro en2 w2 ⟨rfl, hs2⟩
          rw [(HKC.out).2.1]
          have HKD := Lib.hid (HKC.out).2.2
          clear hs HI HKC
          have hs := hs2
          clear hs2
          simp only [List.set_cons_zero] at hs
          generalize Dv.comesD _ _ = d3 at hs HKD
          go_wp2_with fail
          refine wp_loopM [none, none, none, none, none, none, some 6, none, none, none, none, none, some 12, some 13, some 14, none, none, none, none, none, none, none, none, none, none, none, none, none, none, none, none, none, none, none, none, none, none, none, none, none, none, none, none, none, none, none, none, none, none, none, none, none, none, none, none, none, none, none, none, none, none, none, none, none, none, none, none, none, none, none, none, none, none, none, none, none, none, none, none, none, none, none, none, none, none, none, none, none, none, none, none, none, none, none, none, none, none, none, none, none, none, none, none, none, none, none, none, none, none, none, none, none, some 112, some 113, some 114, some 115, some 116, some 117, some 118, some 119, some 120, some 121, some 122, some 123, some 124, some 125, some 126, some 127, some 128, some 129, some 130, some 131, some 132, some 133, some 134, some 135, some 136, some 137, some 138, some 139, some 140, some 141, some 142, some 143, some 144, some 145, some 146, some 147, some 148, some 149, some 150, some 151, some 152, some 153, some 154, some 155, some 156, some 157, some 158, some 159, some 160, some 161, some 162, none] (fun (r : Nat) (f : Nat → Value) (wr : World) => (fun (v : Value) => ∃ k : Nat, v = .int .i64 k ∧ k ≤ zs.length ∧ r = zs.length - k ∧ Sep W wr [devT b d3]) (f 12)) (zs.length) (by kernel_rfl) ?atStart6 ?round6
          case' atStart6 => (try dsimp only [nthV])
          case' round6 =>
            intro gk f wr l hl hrel J4 K4 hJ4 hK4
            (try simp only [mask] at hl)
            generalize f 12 = u12 at hl hrel
            subst hl
            (try dsimp only at hrel)
          case atStart6 => exact ⟨0, rfl, Nat.zero_le _, rfl, hs⟩
          case round6 =>
            clear hs
            obtain ⟨k, rfl, hk, rfl, hs⟩ := hrel
            by_cases hlt : k < zs.length
            · obtain ⟨q1, o1, e1, hb1, hc1⟩ := hz.at k hlt
              obtain ⟨x, hx⟩ : ∃ x, x = zs.getD k 0 := ⟨_, rfl⟩
              rw [← hx] at hc1
              have HX := Lib.hid hx
              clear hx
              subst e1
              have cx1 := (hs.cell hb1).trans hc1
              go_wp2_with fail
              refine (full_any x _).mono ?_
              rintro en1 w1 ⟨fa, fn, rfl, hf⟩
              replace hs := hs.join hf
              simp only [List.cons_append, List.nil_append] at hs
              clear hf
              go_wp2_with fail
              refine (stands_any hs (i := 1) rfl (HKD.out).free.good k (j := 0) rfl (by rw [filled_len]; omega)).mono ?_
              rintro en2 w2 ⟨rfl, hs2⟩
              clear hs cx1
              have hs := hs2.tail
              clear hs2
              (try simp only [List.tail_cons] at hs)
              have HV0 := Lib.hid (isV_zero (d := d3) (k := k) (n := zs.length) (z := x) (ys := ys))
              have HYES := Lib.hid ((HKD.out).yes hlt)
              rw [← HX.out] at HYES
              go_wp2_with fail
              generalize hvv : d3.standsB k (filled x x) = vv
              rw [show d3.standsB (k : Int) (filled x x) = isV d3 k zs.length x ys 0 from HV0.out.symm] at hvv
              have HVV := Lib.hid hvv.symm
              clear hvv
              refine wp_loopM [none, none, none, none, none, none, none, none, none, none, none, none, none, some 13, some 14, none, none, none, none, none, none, none, none, none, none, none, none, none, none, none, none, none, none, none, none, none, none, none, none, none, none, none, none, none, none, none, none, none, none, none, none, none, none, none, none, none, none, none, none, none, none, none, none, none, none, none, none, none, none, none, none, none, none, none, none, none, none, none, none, none, none, none, none, none, none, none, none, none, none, none, none, none, none, none, none, none, none, none, none, none, none, none, none, none, none, none, none, none, none, none, none, none, none, none, none, none, none, none, none, none, none, none, none, none, none, none, some 126, some 127, some 128, some 129, some 130, some 131, some 132, some 133, some 134, some 135, some 136, some 137, some 138, some 139, some 140, some 141, some 142, some 143, some 144, some 145, some 146, some 147, some 148, some 149, some 150, some 151, some 152, some 153, some 154, some 155, some 156, some 157, some 158, some 159, some 160, none, none, none] (fun (r : Nat) (f : Nat → Value) (wr : World) => (fun (vb v : Value) => ∃ j : Nat, v = .int .i64 j ∧ j ≤ ys.length ∧ r = ys.length - j ∧ vb = .bool (isV d3 k zs.length x ys j) ∧ Sep W wr [devT b d3]) (f 13) (f 14)) (ys.length) (by kernel_rfl) ?atStart7 ?round7
              case' atStart7 => (try dsimp only [nthV])
              case' round7 =>
                intro gk f wr l hl hrel J5 K5 hJ5 hK5
                (try simp only [mask] at hl)
                generalize f 13 = u13 at hl hrel
                generalize f 14 = u14 at hl hrel
                subst hl
                (try dsimp only at hrel)
              case atStart7 => exact ⟨0, rfl, Nat.zero_le _, rfl, by rw [HVV.out], hs⟩
              case round7 =>
                clear hs HVV
                obtain ⟨j, rfl, hj, rfl, rfl, hs⟩ := hrel
                by_cases hjl : j < ys.length
                · obtain ⟨q1, o1, e1, hb1, hc1⟩ := hy.at j hjl
                  subst e1
                  have HYJ := Lib.hid (HYB.out _ (List.getElem_mem hjl))
                  obtain ⟨⟨y1, y2⟩, hyy⟩ : ∃ y, y = ys[j] := ⟨_, rfl⟩
                  have HYY := Lib.hid hyy
                  rw [← hyy] at hc1 HYJ
                  have x0 := hc1 0 (by decide)
                  have x1 := hc1 1 (by decide)
                  simp only [prR, Nat.add_zero, List.getElem?_cons_zero, List.getElem?_cons_succ] at x0 x1
                  clear hc1 hyy
                  obtain ⟨⟨hy0, hy1⟩, hy2, hy3⟩ := HYJ.out
                  dsimp only at hy0 hy1 hy2 hy3
                  clear HYJ
                  have hm0 : 0 ≤ y1 % (zs.length : Int) := Int.emod_nonneg _ b1I
                  have hm1 : y1 % (zs.length : Int) < zs.length := Int.emod_lt_of_pos _ (by omega)
                  have hx0 := (hs.cell hb1).trans x0
                  have hx1 := (hs.cell hb1).trans x1
                  generalize hbb : isV d3 k zs.length x ys j = bb
                  have HBB := Lib.hid hbb
                  clear hbb
                  cases bb
                  · by_cases hkk : y1 % (zs.length : Int) = k
                    · have hkb : (y1 % (zs.length : Int) == (k : Int)) = true := by simpa using hkk
                      have HVY := Lib.hid (isV_yes hjl HBB.out (by rw [← HYY.out]; exact hkk))
                      rw [← HYY.out] at HVY
                      clear hkk
                      go_wp2_with fail
                      refine (full_any y2 _).mono ?_
                      rintro en1 w1 ⟨fa, fn, rfl, hf⟩
                      replace hs := hs.join hf
                      simp only [List.cons_append, List.nil_append] at hs
                      clear hf
                      go_wp2_with fail
                      refine (stands_any hs (i := 1) rfl (HKD.out).free.good k (j := 0) rfl (by rw [filled_len]; omega)).mono ?_
                      rintro en2 w2 ⟨rfl, hs2⟩
                      clear hs hx0 hx1
                      have hs := hs2.tail
                      clear hs2
                      (try simp only [List.tail_cons] at hs)
                      go_wp2_with fail
                      refine Round.intro (ys.length - (j + 1)) ?measure8 (by kernel_rfl) (hJ5 _ _ _ ?rel8)
                      case' rel8 => (try dsimp only [nthV])
                      case measure8 => omega
                      case rel8 => exact ⟨j + 1, by go_num, hjl, rfl, by rw [HVY.out], hs⟩
                    · have hkb : (y1 % (zs.length : Int) == (k : Int)) = false := by simpa using hkk
                      have HVY := Lib.hid (isV_no hjl HBB.out (by rw [← HYY.out]; exact hkk))
                      clear hkk
                      go_wp2_with fail
                      refine Round.intro (ys.length - (j + 1)) ?measure9 (by kernel_rfl) (hJ5 _ _ _ ?rel9)
                      case' rel9 => (try dsimp only [nthV])
                      case measure9 => omega
                      case rel9 => exact ⟨j + 1, by go_num, hjl, rfl, by rw [HVY.out], hs⟩
                  · have HVY := Lib.hid (isV_stay hjl HBB.out)
                    go_wp2_with fail
                    refine Round.intro (ys.length - (j + 1)) ?measure10 (by kernel_rfl) (hJ5 _ _ _ ?rel10)
                    case' rel10 => (try dsimp only [nthV])
                    case measure10 => omega
                    case rel10 => exact ⟨j + 1, by go_num, hjl, rfl, by rw [HVY.out], hs⟩
                · obtain rfl : ys.length = j := by omega
                  rw [HYES.out]
                  go_wp2_with fail
                  refine Round.intro (zs.length - (k + 1)) ?measure11 (by kernel_rfl) (hJ4 _ _ _ ?rel11)
                  case' rel11 => (try dsimp only [nthV])
                  case measure11 => omega
                  case rel11 => exact ⟨k + 1, by go_num, hlt, rfl, hs⟩
            · go_wp2_with fail
              refine Round.intro (1) ?measure12 (by kernel_rfl) (hJ1 _ _ _ ?rel12)
              case' rel12 => (try dsimp only [nthV])
              case measure12 => omega
              case rel12 => exact ⟨1, rfl, by omega, rfl, hs.tail⟩
        · obtain rfl : way = 1 := by omega
          go_wp2_with fail
          have HKC := Lib.hid ((HI.out).comes ([]) false (by intro _; rfl))
          refine (comes_any hs (i := 0) rfl (HI.out).free.good.offD ((HI.out).big.offD.le (by omega)) ([]) none 0 0 (Nat.le_refl _) (fun W' R' h _ => Rd.nil _ _)).mono ?_
          rintro en2 w2 ⟨rfl, hs2⟩
          rw [(HKC.out).2.1]
          have HKD := Lib.hid (HKC.out).2.2
          clear hs HI HKC
          have hs := hs2
          clear hs2
          simp only [List.set_cons_zero] at hs
          generalize Dv.comesD _ _ = d3 at hs HKD
          go_wp2_with fail
          refine wp_loopM [none, none, none, none, none, none, some 6, none, none, none, none, none, some 12, some 13, some 14, none, none, none, none, none, none, none, none, none, none, none, none, none, none, none, none, none, none, none, none, none, none, none, none, none, none, none, none, none, none, none, none, none, none, none, none, none, none, none, none, none, none, none, none, none, none, none, none, none, none, none, none, none, none, none, none, none, none, none, none, none, none, none, none, none, none, none, none, none, none, none, none, none, none, none, none, none, none, none, none, none, none, none, none, none, none, none, none, none, none, none, none, none, none, none, none, none, some 112, some 113, some 114, some 115, some 116, some 117, some 118, some 119, some 120, some 121, some 122, some 123, some 124, some 125, some 126, some 127, some 128, some 129, some 130, some 131, some 132, some 133, some 134, some 135, some 136, some 137, some 138, some 139, some 140, some 141, some 142, some 143, some 144, some 145, some 146, some 147, some 148, some 149, some 150, some 151, some 152, some 153, some 154, some 155, some 156, some 157, some 158, some 159, some 160, some 161, some 162, none] (fun (r : Nat) (f : Nat → Value) (wr : World) => (fun (v : Value) => ∃ k : Nat, v = .int .i64 k ∧ k ≤ zs.length ∧ r = zs.length - k ∧ Sep W wr [devT b d3]) (f 12)) (zs.length) (by kernel_rfl) ?atStart13 ?round13
          case' atStart13 => (try dsimp only [nthV])
          case' round13 =>
            intro gk f wr l hl hrel J4 K4 hJ4 hK4
            (try simp only [mask] at hl)
            generalize f 12 = u12 at hl hrel
            subst hl
            (try dsimp only at hrel)
          case atStart13 => exact ⟨0, rfl, Nat.zero_le _, rfl, hs⟩
          case round13 =>
            clear hs
            obtain ⟨k, rfl, hk, rfl, hs⟩ := hrel
            by_cases hlt : k < zs.length
            · obtain ⟨q1, o1, e1, hb1, hc1⟩ := hz.at k hlt
              obtain ⟨x, hx⟩ : ∃ x, x = zs.getD k 0 := ⟨_, rfl⟩
              rw [← hx] at hc1
              have HX := Lib.hid hx
              clear hx
              subst e1
              have cx1 := (hs.cell hb1).trans hc1
              go_wp2_with fail
              refine (full_any x _).mono ?_
              rintro en1 w1 ⟨fa, fn, rfl, hf⟩
              replace hs := hs.join hf
              simp only [List.cons_append, List.nil_append] at hs
              clear hf
              go_wp2_with fail
              refine (stands_any hs (i := 1) rfl (HKD.out).free.good k (j := 0) rfl (by rw [filled_len]; omega)).mono ?_
              rintro en2 w2 ⟨rfl, hs2⟩
              clear hs cx1
              have hs := hs2.tail
              clear hs2
              (try simp only [List.tail_cons] at hs)
              have HYES := Lib.hid ((HKD.out).only hlt)
              rw [← HX.out] at HYES
              rw [HYES.out]
              go_wp2_with fail
              refine wp_loopM [none, none, none, none, none, none, none, none, none, none, none, none, none, some 13, some 14, none, none, none, none, none, none, none, none, none, none, none, none, none, none, none, none, none, none, none, none, none, none, none, none, none, none, none, none, none, none, none, none, none, none, none, none, none, none, none, none, none, none, none, none, none, none, none, none, none, none, none, none, none, none, none, none, none, none, none, none, none, none, none, none, none, none, none, none, none, none, none, none, none, none, none, none, none, none, none, none, none, none, none, none, none, none, none, none, none, none, none, none, none, none, none, none, none, none, none, none, none, none, none, none, none, none, none, none, none, none, none, some 126, some 127, some 128, some 129, some 130, some 131, some 132, some 133, some 134, some 135, some 136, some 137, some 138, some 139, some 140, some 141, some 142, some 143, some 144, some 145, some 146, some 147, some 148, some 149, some 150, some 151, some 152, some 153, some 154, some 155, some 156, some 157, some 158, some 159, some 160, none, none, none] (fun (r : Nat) (f : Nat → Value) (wr : World) => (fun (vb v : Value) => v = .int .i64 0 ∧ vb = .bool true ∧ r = 0 ∧ Sep W wr [devT b d3]) (f 13) (f 14)) (0) (by kernel_rfl) ?atStart14 ?round14
              case' atStart14 => (try dsimp only [nthV])
              case' round14 =>
                intro gk f wr l hl hrel J5 K5 hJ5 hK5
                (try simp only [mask] at hl)
                generalize f 13 = u13 at hl hrel
                generalize f 14 = u14 at hl hrel
                subst hl
                (try dsimp only at hrel)
              case atStart14 => exact ⟨rfl, rfl, rfl, hs⟩
              case round14 =>
                clear hs
                obtain ⟨rfl, rfl, rfl, hs⟩ := hrel
                by_cases hy0 : 0 < ys.length
                · have hy1 : (0 : Int) < ys.length := by omega
                  go_wp2_with fail
                  refine Round.intro (zs.length - (k + 1)) ?measure15 (by kernel_rfl) (hJ4 _ _ _ ?rel15)
                  case' rel15 => (try dsimp only [nthV])
                  case measure15 => omega
                  case rel15 => exact ⟨k + 1, by go_num, hlt, rfl, hs⟩
                · have hy1 : ¬ (0 : Int) < ys.length := by omega
                  go_wp2_with fail
                  refine Round.intro (zs.length - (k + 1)) ?measure16 (by kernel_rfl) (hJ4 _ _ _ ?rel16)
                  case' rel16 => (try dsimp only [nthV])
                  case measure16 => omega
                  case rel16 => exact ⟨k + 1, by go_num, hlt, rfl, hs⟩
            · go_wp2_with fail
              refine Round.intro (0) ?measure17 (by kernel_rfl) (hJ1 _ _ _ ?rel17)
              case' rel17 => (try dsimp only [nthV])
              case measure17 => omega
              case rel17 => exact ⟨2, rfl, by omega, rfl, hs.tail⟩
end Go.Proofs.Ytpjbafpbgacnkaa
