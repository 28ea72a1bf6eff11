/-
  reverseRangeOrdered, breakPatternsOrdered and what they call, at uint64, walked: a permutation.
-/
import Derived.Test.YthcmkljdhhepgaaUsPart
import Derived.Sort.Walk7a
import Derived.Shelf.Small.Bits
set_option linter.unusedVariables false
set_option linter.unusedSimpArgs false
namespace Go.Proofs.Ythcmkljdhhepgaa
open Go Go.Shelf
def lays125s_ren : Go.Shelf.Ren := ⟨fun | 125 => 58 | 128 => 68 | 129 => 69 | n => n, fun | 46 => 91 | 3 => 3 | 51 => 102 | 53 => 28 | 4 => 4 | 5 => 5 | 9 => 9 | n => n, fun | n => n⟩
theorem lays125s : Go.Proofs.Lays.n125 Try.prog lays125s_ren := {
  mixed := by kernel_rfl
  f125 := Try.func58.trans (congrArg some (by kernel_rfl))
  f128 := Try.func68.trans (congrArg some (by kernel_rfl))
  f129 := Try.func69.trans (congrArg some (by kernel_rfl))
  t3 := Try.underlying3
  a3 := Try.isAgg3
  z3 := Try.sizeOf3
  v3 := Try.zeroValue3
  t4 := Try.underlying4
  a4 := Try.isAgg4
  z4 := Try.sizeOf4
  v4 := Try.zeroValue4
  t5 := Try.underlying5
  a5 := Try.isAgg5
  z5 := Try.sizeOf5
  v5 := Try.zeroValue5
  t9 := Try.underlying9
  a9 := Try.isAgg9
  z9 := Try.sizeOf9
  v9 := Try.zeroValue9
  t46 := Try.underlying91
  a46 := Try.isAgg91
  z46 := Try.sizeOf91
  v46 := Try.zeroValue91
  t51 := Try.underlying102
  a51 := Try.isAgg102
  z51 := Try.sizeOf102
  v51 := Try.zeroValue102
  t53 := Try.underlying28
  a53 := Try.isAgg28
  z53 := Try.sizeOf28
  v53 := Try.zeroValue28 }
theorem bitsLen_any (x : Int) (w : World) (h0 : 0 ≤ x) (h1 : x ≤ 18446744073709551615) :
    Calls Try.prog 58 #[.int .u64 x] w fun e w' => e = .returned (.int .i64 (Lib.bitLen x.toNat)) ∧ w' = w := Any.bits_Len lays125s x w h0 h1
end Go.Proofs.Ythcmkljdhhepgaa
namespace Go.Proofs.Ythcmkljdhhepgaa
open Go Go.RowKit Go.Mem Go.Sort
attribute [local go_sem] Oper.semAt_some
section
variable {w0 w : World} {L : List Thing} {q g n c : Nat} {d : Array Int}
set_option maxRecDepth 100000 in
set_option maxHeartbeats 4000000 in
theorem reverse_u (hs : Sep w0 w L) (hq0 : L[q]? = some (uT g n c d)) (a b : Nat) (hab : a < b) (hb : b ≤ d.size) (hsz : d.size ≤ 1000000) :
    Calls Try.prog 63 #[.slice (some ⟨g, 0, none⟩) n c, .int .i64 a, .int .i64 b] w fun en w' => ∃ e, en = .returned (.tuple #[]) ∧ Hid (PermIn a b d e) ∧ Sep w0 w' (L.set q (uT g n c e)) := by
  have hn := (uT_len hs hq0).1
  have HQ := Lib.hid (List.getElem?_eq_some_iff.1 hq0).1
  obtain ⟨N, hN⟩ : ∃ N, N = d.size := ⟨_, rfl⟩
  have HN := Lib.hid hN
  rw [← hN] at hn hb hsz
  subst hn
  have HP := Lib.hid (permIn_refl d a b)
  have hs1 : Sep w0 w (L.set q (uT g n c d)) := by rw [set_same hq0]; exact hs
  clear hs hN hq0
  go_enter Try.func63, Try.ntmps63
  go_wp2_with fail
  refine wp_loopM [none, none, none, none, none, none, some 6, some 7, none, none, none, some 11, some 12, some 13, some 14, some 15, some 16, some 17, some 18, some 19, some 20, some 21, some 22, some 23, some 24, some 25, some 26, some 27, some 28, some 29, some 30, some 31] (fun (r : Nat) (f : Nat → Value) (wr : World) => (fun (v v2 : Value) => ∃ (i j : Nat) (e : Array Int), v = .int .i64 i ∧ v2 = .int .i64 j ∧ a ≤ i ∧ i ≤ b ∧ j < b ∧ r = j - i ∧ Hid (PermIn a b d e) ∧ Sep w0 wr (L.set q (uT g n c e))) (f 6) (f 7)) ((b - 1 - a)) (by kernel_rfl) ?atStart1 ?round1
  case' atStart1 => (try dsimp only [nthV])
  case' round1 =>
    intro gk f wr l hl hrel J1 K1 hJ1 hK1
    (try simp only [mask] at hl)
    generalize f 6 = u6 at hl hrel
    generalize f 7 = u7 at hl hrel
    subst hl
    (try dsimp only at hrel)
  case atStart1 => exact ⟨a, b - 1, d, rfl, by congr 1; omega, Nat.le_refl _, by omega, by omega, rfl, HP, hs1⟩
  case round1 =>
    clear hs1 HP
    obtain ⟨i, j, e, rfl, rfl, hai, hib, hjb, hr, HP, hs⟩ := hrel
    have HR := Lib.hid hr
    clear hr
    have hq : (L.set q (uT g n c e))[q]? = some (uT g n c e) := List.getElem?_set_self HQ.out
    by_cases hij : i < j
    · have HSZ := Lib.hid (show e.size = n by rw [HP.out.1]; exact HN.out.symm)
      have HP2 := Lib.hid (permIn_trans d e _ a b HP.out (swp_permIn e a b i j (by omega) (by omega) (by omega) (by omega) (by rw [HSZ.out]; omega)))
      obtain ⟨k, rfl⟩ : ∃ k, j = k + 1 := ⟨j - 1, by omega⟩
      have hijI : (i : Int) < ((k + 1 : Nat) : Int) := by omega
      go_wp2_with fail
      obtain ⟨xj, xk, u2, yj, yk, y2, hsw⟩ := uT_swap_facts hs hq (i) (k + 1) (by have := HSZ.out; omega) (by have := HSZ.out; omega)
      have qf := uT_frozen hs hq (by have := HSZ.out; omega)
      have HSW := Lib.hid hsw
      clear hsw hs hq
      go_wp2_with fail
      refine Mix.region [0, 0, 1, 1, 0, 0, 0, 0, 0, 0, 0, 0, 0, 2, 0, 2] (fun _ => True) (by kernel_rfl) (by kernel_rfl) trivial ?_
      simp only [List.zip_cons_cons, List.zip_nil_right]
      iterate 2 (refine Mix.step0 fun K hK => ?_; go_simp; (try (go_bits; try go_simp)); first | ((with_reducible refine hK _ _ ?_); clear hK K) | ((try (simp only [IntWalk.iteOmega]; try go_simp)); (try go_bits); (with_reducible refine hK _ _ ?_); clear hK K))
      iterate 2 (refine Mix.step1 fun K hK => ?_; go_simp; (try (go_bits; try go_simp)); first | ((with_reducible refine hK _ _ ?_); clear hK K) | ((try (simp only [IntWalk.iteOmega]; try go_simp)); (try go_bits); (with_reducible refine hK _ _ ?_); clear hK K))
      iterate 9 (refine Mix.step0 fun K hK => ?_; go_simp; (try (go_bits; try go_simp)); first | ((with_reducible refine hK _ _ ?_); clear hK K) | ((try (simp only [IntWalk.iteOmega]; try go_simp)); (try go_bits); (with_reducible refine hK _ _ ?_); clear hK K))
      refine Mix.step2n (by first | rfl | simp [Region.wanted, yielded]) fun K hK => ?_
      go_wp2_with fail
      refine Mix.post_mk (C := (fun _ => True)) trivial (hK _ _ ?_)
      clear hK K
      iterate 1 (refine Mix.step0 fun K hK => ?_; go_simp; (try (go_bits; try go_simp)); first | ((with_reducible refine hK _ _ ?_); clear hK K) | ((try (simp only [IntWalk.iteOmega]; try go_simp)); (try go_bits); (with_reducible refine hK _ _ ?_); clear hK K))
      refine Mix.step2n (by first | rfl | simp [Region.wanted, yielded]) fun K hK => ?_
      go_wp2_with fail
      refine Mix.post_mk (C := (fun _ => True)) trivial (hK _ _ ?_)
      clear hK K
      refine Mix.done ?_
      have hsn := HSW.out.drew
      clear yj yk y2 qf HSW
      rw [List.set_set] at hsn
      clear HP
      go_wp2_with fail
      refine Round.intro ((k - (i + 1))) ?measure2 (by kernel_rfl) (hJ1 _ _ _ ?rel2)
      case' rel2 => (try dsimp only [nthV])
      case measure2 => have := HR.out; omega
      case rel2 => exact ⟨i + 1, k, _, by go_num, by first | go_num | (congr 1; omega), by omega, by omega, by omega, rfl, HP2, hsn⟩
    · have hijI : ¬ (i : Int) < (j : Int) := by omega
      go_wp2_with fail
      (try simp only [Exit.inBlock, Exit.then])
      first | (refine bodyPost_ret (results_none rfl _ _ _) rfl ?_) | (refine bodyPost_end (results_none rfl _ _ _) rfl ?_)
      exact ⟨rfl, e, HP, hs⟩
set_option maxRecDepth 100000 in
set_option maxHeartbeats 4000000 in
theorem xnext_u {bs X : Nat} (hX : X < 18446744073709551616) (hs : Sep w0 w (cellsT bs #[.int .u64 X] 103 :: L)) :
    Calls Try.prog 72 #[.pointer (some ⟨bs, 0, none⟩)] w fun en w' => ∃ Y : Nat, en = .returned (.int .u64 Y) ∧ Y < 18446744073709551616 ∧ Sep w0 w' (cellsT bs #[.int .u64 Y] 103 :: L) := by
  obtain ⟨A, hA⟩ : ∃ A : Nat, A = X ^^^ (X * 8192 % 18446744073709551616) := ⟨_, rfl⟩
  obtain ⟨B, hB⟩ : ∃ B : Nat, B = A ^^^ (A / 128) := ⟨_, rfl⟩
  obtain ⟨C, hC⟩ : ∃ C : Nat, C = B ^^^ (B * 131072 % 18446744073709551616) := ⟨_, rfl⟩
  have lA : A < 18446744073709551616 := by rw [hA]; exact Nat.xor_lt_two_pow (n := 64) (by omega) (by omega)
  have lB : B < 18446744073709551616 := by rw [hB]; exact Nat.xor_lt_two_pow (n := 64) (by omega) (by omega)
  have lC : C < 18446744073709551616 := by rw [hC]; exact Nat.xor_lt_two_pow (n := 64) (by omega) (by omega)
  have e1 : bits .xor .u64 (X : Int) (IntKind.u64.wrap ((X : Int) * 8192)) = (A : Int) := by
    rw [IntKind.wrap_u64, show ((X : Int) * 8192 % 18446744073709551616) = ((X * 8192 % 18446744073709551616 : Nat) : Int) by omega, bits_xor_u64_nat _ _ hX (by omega), hA]
  have e2 : bits .xor .u64 (A : Int) ((A : Int) / 128) = (B : Int) := by
    rw [show ((A : Int) / 128) = ((A / 128 : Nat) : Int) by omega, bits_xor_u64_nat _ _ lA (by omega), hB]
  have e3 : bits .xor .u64 (B : Int) (IntKind.u64.wrap ((B : Int) * 131072)) = (C : Int) := by
    rw [IntKind.wrap_u64, show ((B : Int) * 131072 % 18446744073709551616) = ((B * 131072 % 18446744073709551616 : Nat) : Int) by omega, bits_xor_u64_nat _ _ lB (by omega), hC]
  clear hA hB hC
  have y1 : w.cell? ⟨bs, 0, none⟩ = some (.int .u64 X) := cell_of (hs.cells 0 rfl) 0
  have f1 := frozen_of (hs.cells 0 rfl) 0
  have HS := Lib.hid (hs.setCells 0 rfl 0 (.int .u64 (C : Int)) _ rfl)
  clear hs
  have hss : ∀ v v', (w.setCell ⟨bs, 0, none⟩ v).setCell ⟨bs, 0, none⟩ v' = w.setCell ⟨bs, 0, none⟩ v' := setCell_setCell w bs 0
  go_enter Try.func72, Try.ntmps72
  go_wp2
  go_region
  all_goals go_wp2
  all_goals go_region
  all_goals go_wp2
  all_goals go_region
  all_goals go_wp2
  go_ret
  exact ⟨C, rfl, lC, HS.out.drewN 3⟩
set_option maxRecDepth 100000 in
set_option maxHeartbeats 4000000 in
theorem npow_u (l : Nat) (hl : l ≤ 1000000) (hl0 : 1 ≤ l) (w : World) :
    Calls Try.prog 71 #[.int .i64 l] w fun en w' => ∃ M : Nat, en = .returned (.int .u64 M) ∧ 1 ≤ M ∧ M ≤ 2 * l ∧ w' = w := by
  have hLen : Calls Try.prog 58 #[.int .u64 (l : Int)] w fun e w' => e = .returned (.int .i64 (bitsLen l : Nat)) ∧ w' = w := by
    have h := bitsLen_any (l : Int) w (by omega) (by omega)
    rwa [Int.toNat_natCast, bitLen_eq _ (by omega)] at h
  have hk : bitsLen l ≤ 62 := (bitsLen_le_iff l 62).2 (by omega)
  have hp := wrap_two_pow (bitsLen l) hk
  have wr : IntKind.u64.wrap (l : Int) = l := by simp [IntKind.wrap, IntKind.bits, IntKind.signed]; omega
  have hM : 1 ≤ 1 <<< bitsLen l ∧ 1 <<< bitsLen l ≤ 2 * l := by
    rw [Nat.one_shiftLeft]
    refine ⟨Nat.one_le_two_pow, ?_⟩
    unfold bitsLen
    rw [if_neg (by omega), Nat.pow_succ]
    have := Nat.log2_self_le (n := l) (by omega)
    omega
  have HM := Lib.hid hM
  clear hM
  go_enter Try.func71, Try.ntmps71
  go_wp2_with fail
  refine hLen.mono ?_
  rintro en w1 ⟨rfl, rfl⟩
  go_wp2_with fail
  go_ret
  exact ⟨_, rfl, HM.out.1, HM.out.2, rfl⟩
set_option maxRecDepth 100000 in
set_option maxHeartbeats 4000000 in
theorem break_u (hs : Sep w0 w L) (hq0 : L[q]? = some (uT g n c d)) (a b : Nat) (hab : a + 8 ≤ b) (hb : b ≤ d.size) (hsz : d.size ≤ 1000000) :
    Calls Try.prog 61 #[.slice (some ⟨g, 0, none⟩) n c, .int .i64 a, .int .i64 b] w fun en w' => ∃ e, en = .returned (.tuple #[]) ∧ Hid (PermIn a b d e) ∧ Sep w0 w' (L.set q (uT g n c e)) := by
  have hn := (uT_len hs hq0).1
  have HQ := Lib.hid (List.getElem?_eq_some_iff.1 hq0).1
  obtain ⟨N, hN⟩ : ∃ N, N = d.size := ⟨_, rfl⟩
  have HN := Lib.hid hN
  rw [← hN] at hn hb hsz
  subst hn
  have HP := Lib.hid (permIn_refl d a b)
  have hs1 : Sep w0 w (L.set q (uT g n c d)) := by rw [set_same hq0]; exact hs
  clear hs hN hq0
  obtain ⟨l, rfl⟩ : ∃ l, b = a + l := ⟨b - a, by omega⟩
  obtain ⟨t, ht⟩ : ∃ t, t = l / 4 := ⟨_, rfl⟩
  have ht4 : t * 4 ≤ l := by omega
  have ht2 : 2 ≤ t := by omega
  have eb : (a : Int) + (l : Int) - (a : Int) = (l : Int) := by omega
  have et : (l : Int) / 4 = (t : Int) := by omega
  have hl8 : (8 : Int) ≤ (l : Int) := by omega
  have hl0 : l ≤ 1000000 := by omega
  have ha0 : a ≤ 1000000 := by omega
  have wr : IntKind.u64.wrap (l : Int) = l := by simp [IntKind.wrap, IntKind.bits, IntKind.signed]; omega
  have HNC := Lib.hid (hs1.newCells #[.int .u64 (l : Int)] 103)
  clear hs1 ht
  go_enter Try.func61, Try.ntmps61
  go_wp2_with fail
  refine (npow_u l hl0 (by omega) _).mono ?_
  rintro en w1 ⟨M, rfl, hM1, hM2, rfl⟩
  have hs1 := HNC.out
  go_wp2_with fail
  refine wp_loopM [none, none, none, none, none, none, none, none, none, some 9, some 10, none, none, none, none, none, none, none, none, none, none, none, none, none, none, none, some 26, some 27, some 28, some 29, some 30, some 31, some 32, some 33, some 34, some 35, some 36, some 37, some 38, some 39, some 40, some 41, some 42, some 43, some 44, some 45, some 46, some 47, some 48, some 49, some 50, some 51, some 52, some 53, some 54, some 55, some 56, some 57, some 58, some 59, some 60, some 61, some 62, some 63, some 64] (fun (r : Nat) (f : Nat → Value) (wr : World) => (fun (v : Value) => ∃ (k X : Nat) (e : Array Int), v = .int .i64 ((a + t * 2 - 1 + k : Nat) : Int) ∧ k ≤ 3 ∧ r = 3 - k ∧ X < 18446744073709551616 ∧ Hid (PermIn a (a + l) d e) ∧ Sep w0 wr (cellsT w.heap.size #[.int .u64 X] 103 :: L.set q (uT g n c e))) (f 9)) (3) (by kernel_rfl) ?atStart3 ?round3
  case' atStart3 => (try dsimp only [nthV])
  case' round3 =>
    intro gk f wr l hl hrel J1 K1 hJ1 hK1
    (try simp only [mask] at hl)
    generalize f 9 = u9 at hl hrel
    subst hl
    (try dsimp only at hrel)
  case atStart3 => exact ⟨0, l, d, by congr 1; omega, by omega, rfl, by omega, HP, hs1⟩
  case round3 =>
    clear hs1 HP HNC
    obtain ⟨k, X, e, rfl, hk3, rfl, hX, HP, hs⟩ := hrel
    obtain ⟨I, hI⟩ : ∃ I, I = a + t * 2 - 1 + k := ⟨_, rfl⟩
    rw [← hI]
    have HI := Lib.hid hI
    have hI0 : a ≤ I := by omega
    by_cases hk : k < 3
    · have hI1 : I < a + l := by omega
      have hIc : (I : Int) ≤ (a : Int) + (t : Int) * 2 + 1 := by omega
      clear hI
      go_wp2_with fail
      refine (xnext_u hX hs).mono ?_
      rintro en w2 ⟨Y, rfl, hY, hs2⟩
      clear hs
      obtain ⟨o, ho⟩ : ∃ o, o = Y &&& (M - 1) := ⟨_, rfl⟩
      have ho2 : o < 2 * l := by have := Nat.and_le_right (n := Y) (m := M - 1); omega
      have eo : bits .and .u64 (Y : Int) ((M : Int) - 1) = (o : Int) := by
        rw [show (M : Int) - 1 = ((M - 1 : Nat) : Int) by omega, bits_and_u64_nat _ _ hY (by omega), ho]
      clear ho
      have hs := hs2
      have HSZ := Lib.hid (show e.size = n by rw [HP.out.1]; exact HN.out.symm)
      have hq : (cellsT w.heap.size #[.int .u64 Y] 103 :: L.set q (uT g n c e))[q + 1]? = some (uT g n c e) := List.getElem?_set_self HQ.out
      by_cases hol : l ≤ o
      · obtain ⟨p, rfl⟩ : ∃ p, o = l + p := ⟨o - l, by omega⟩
        have hp : p < l := by omega
        have hpI : (l : Int) ≤ ((l + p : Nat) : Int) := by omega
        have ep : (l : Int) + (p : Int) - (l : Int) = (p : Int) := by omega
        have HP2 := Lib.hid (permIn_trans d e _ a (a + l) HP.out (swp_permIn e a (a + l) I (a + p) (by omega) (by omega) (by omega) (by omega) (by rw [HSZ.out]; omega)))
        clear hs2 HP
        go_wp2_with fail
        obtain ⟨xj, xk, u2, yj, yk, y2, hsw⟩ := uT_swap_facts hs hq (I) (a + p) (by have := HSZ.out; omega) (by have := HSZ.out; omega)
        have qf := uT_frozen hs hq (by have := HSZ.out; omega)
        have HSW := Lib.hid hsw
        clear hsw hs hq
        go_wp2_with fail
        refine Mix.region [0, 0, 1, 1, 1, 1, 0, 0, 0, 0, 0, 0, 0, 0, 0, 0, 0, 2, 0, 2] (fun _ => True) (by kernel_rfl) (by kernel_rfl) trivial ?_
        simp only [List.zip_cons_cons, List.zip_nil_right]
        iterate 2 (refine Mix.step0 fun K hK => ?_; go_simp; (try (go_bits; try go_simp)); first | ((with_reducible refine hK _ _ ?_); clear hK K) | ((try (simp only [IntWalk.iteOmega]; try go_simp)); (try go_bits); (with_reducible refine hK _ _ ?_); clear hK K))
        iterate 4 (refine Mix.step1 fun K hK => ?_; go_simp; (try (go_bits; try go_simp)); first | ((with_reducible refine hK _ _ ?_); clear hK K) | ((try (simp only [IntWalk.iteOmega]; try go_simp)); (try go_bits); (with_reducible refine hK _ _ ?_); clear hK K))
        iterate 11 (refine Mix.step0 fun K hK => ?_; go_simp; (try (go_bits; try go_simp)); first | ((with_reducible refine hK _ _ ?_); clear hK K) | ((try (simp only [IntWalk.iteOmega]; try go_simp)); (try go_bits); (with_reducible refine hK _ _ ?_); clear hK K))
        refine Mix.step2n (by first | rfl | simp [Region.wanted, yielded]) fun K hK => ?_
        go_wp2_with fail
        refine Mix.post_mk (C := (fun _ => True)) trivial (hK _ _ ?_)
        clear hK K
        iterate 1 (refine Mix.step0 fun K hK => ?_; go_simp; (try (go_bits; try go_simp)); first | ((with_reducible refine hK _ _ ?_); clear hK K) | ((try (simp only [IntWalk.iteOmega]; try go_simp)); (try go_bits); (with_reducible refine hK _ _ ?_); clear hK K))
        refine Mix.step2n (by first | rfl | simp [Region.wanted, yielded]) fun K hK => ?_
        go_wp2_with fail
        refine Mix.post_mk (C := (fun _ => True)) trivial (hK _ _ ?_)
        clear hK K
        refine Mix.done ?_
        have hsn := HSW.out.drew
        clear yj yk y2 qf HSW
        rw [List.set_cons_succ, List.set_set] at hsn
        go_wp2_with fail
        refine Round.intro ((3 - (k + 1))) ?measure4 (by kernel_rfl) (hJ1 _ _ _ ?rel4)
        case' rel4 => (try dsimp only [nthV])
        case measure4 => omega
        case rel4 => exact ⟨k + 1, Y, _, by have := HI.out; first | go_num | (congr 1; omega), by omega, rfl, hY, HP2, hsn⟩
      · have hp : o < l := by omega
        have hpI : ¬ (l : Int) ≤ (o : Int) := by omega
        have HP2 := Lib.hid (permIn_trans d e _ a (a + l) HP.out (swp_permIn e a (a + l) I (a + o) (by omega) (by omega) (by omega) (by omega) (by rw [HSZ.out]; omega)))
        clear hs2 HP
        go_wp2_with fail
        obtain ⟨xj, xk, u2, yj, yk, y2, hsw⟩ := uT_swap_facts hs hq (I) (a + o) (by have := HSZ.out; omega) (by have := HSZ.out; omega)
        have qf := uT_frozen hs hq (by have := HSZ.out; omega)
        have HSW := Lib.hid hsw
        clear hsw hs hq
        go_wp2_with fail
        refine Mix.region [0, 0, 1, 1, 1, 1, 0, 0, 0, 0, 0, 0, 0, 0, 0, 0, 0, 2, 0, 2] (fun _ => True) (by kernel_rfl) (by kernel_rfl) trivial ?_
        simp only [List.zip_cons_cons, List.zip_nil_right]
        iterate 2 (refine Mix.step0 fun K hK => ?_; go_simp; (try (go_bits; try go_simp)); first | ((with_reducible refine hK _ _ ?_); clear hK K) | ((try (simp only [IntWalk.iteOmega]; try go_simp)); (try go_bits); (with_reducible refine hK _ _ ?_); clear hK K))
        iterate 4 (refine Mix.step1 fun K hK => ?_; go_simp; (try (go_bits; try go_simp)); first | ((with_reducible refine hK _ _ ?_); clear hK K) | ((try (simp only [IntWalk.iteOmega]; try go_simp)); (try go_bits); (with_reducible refine hK _ _ ?_); clear hK K))
        iterate 11 (refine Mix.step0 fun K hK => ?_; go_simp; (try (go_bits; try go_simp)); first | ((with_reducible refine hK _ _ ?_); clear hK K) | ((try (simp only [IntWalk.iteOmega]; try go_simp)); (try go_bits); (with_reducible refine hK _ _ ?_); clear hK K))
        refine Mix.step2n (by first | rfl | simp [Region.wanted, yielded]) fun K hK => ?_
        go_wp2_with fail
        refine Mix.post_mk (C := (fun _ => True)) trivial (hK _ _ ?_)
        clear hK K
        iterate 1 (refine Mix.step0 fun K hK => ?_; go_simp; (try (go_bits; try go_simp)); first | ((with_reducible refine hK _ _ ?_); clear hK K) | ((try (simp only [IntWalk.iteOmega]; try go_simp)); (try go_bits); (with_reducible refine hK _ _ ?_); clear hK K))
        refine Mix.step2n (by first | rfl | simp [Region.wanted, yielded]) fun K hK => ?_
        go_wp2_with fail
        refine Mix.post_mk (C := (fun _ => True)) trivial (hK _ _ ?_)
        clear hK K
        refine Mix.done ?_
        have hsn := HSW.out.drew
        clear yj yk y2 qf HSW
        rw [List.set_cons_succ, List.set_set] at hsn
        go_wp2_with fail
        refine Round.intro ((3 - (k + 1))) ?measure5 (by kernel_rfl) (hJ1 _ _ _ ?rel5)
        case' rel5 => (try dsimp only [nthV])
        case measure5 => omega
        case rel5 => exact ⟨k + 1, Y, _, by have := HI.out; first | go_num | (congr 1; omega), by omega, rfl, hY, HP2, hsn⟩
    · have hIc : ¬ (I : Int) ≤ (a : Int) + (t : Int) * 2 + 1 := by omega
      clear hI
      have HS := Lib.hid hs.tail
      go_wp2_with fail
      (try simp only [Exit.inBlock, Exit.then])
      first | (refine bodyPost_ret (results_none rfl _ _ _) rfl ?_) | (refine bodyPost_end (results_none rfl _ _ _) rfl ?_)
      first | exact ⟨rfl, e, HP, HS.out⟩ | exact ⟨e, rfl, HP, HS.out⟩
end
end Go.Proofs.Ythcmkljdhhepgaa
