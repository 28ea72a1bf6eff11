/-
  The law AccountsBack, walked.
-/
import Derived.Test.YtlpfojpfepfdgaaABackPlain
import Derived.Test.YtlpfojpfepfdgaaASame
import Derived.Test.YtlpfojpfepfdgaaAWorks
import Derived.Test.YtlpfojpfepfdgaaObj2
namespace Go.Proofs.Ytlpfojpfepfdgaa
open Go Go.RowKit Go.Mem Go.MoneyP Go.AcctP Go.Shelf

set_option maxRecDepth 100000 in
set_option maxHeartbeats 8000000 in
theorem accountsBack_any (v0 : Value) (zs : List Int) (v1 : Value) (ys : List Int) (k x : Int) (w : World) (h0 : Rd .u32 w v0 zs) (h1 : Rd .u32 w v1 ys) (hz : ∀ q ∈ zs, (Lit.int .u32 q).wf = true) (hy : ∀ q ∈ ys, (Lit.int .u32 q).wf = true) (hk : (Lit.int .u8 k).wf = true) (hx : (Lit.int .u32 x).wf = true) :
    Calls Try.prog 3 #[v0, v1, .int .u8 k, .int .u32 x] w fun en w' => en = .returned (.bool true) ∧ Below w.heap.size w w' := by
  obtain ⟨i0, hi0, hz0, hz1, hz2⟩ := info_parts Try.infoAcct
  have hle0 := h0.le'
  have hle1 := h1.le'
  obtain ⟨a0, c0, rfl⟩ := h0.shape
  obtain ⟨a1, c1, rfl⟩ := h1.shape
  simp [Lit.wf, IntKind.min, IntKind.max, IntKind.signed, IntKind.bits] at hk hx
  by_cases hl1 : 16 < zs.length
  · have d1 : decide (16 < (zs.length : Int)) = true := decide_eq_true (by omega)
    go_enter Try.func3, Try.ntmps3
    go_wp2_with fail
    refine (works_any _).mono ?_
    rintro en w2 ⟨rfl, hb⟩
    go_wp2_with fail
    go_ret
    exact ⟨rfl, hb⟩
  by_cases hl2 : ys.length ≠ zs.length
  · have d1 : decide (16 < (zs.length : Int)) = false := decide_eq_false (by omega)
    have d2 : ((ys.length : Int) != zs.length) = true := by rw [bne_iff_ne]; omega
    go_enter Try.func3, Try.ntmps3
    go_wp2_with fail
    refine (works_any _).mono ?_
    rintro en w2 ⟨rfl, hb⟩
    go_wp2_with fail
    go_ret
    exact ⟨rfl, hb⟩
  by_cases hl3 : zs.length = 0
  · have hys : ys.length = zs.length := by omega
    have d1 : decide (16 < (zs.length : Int)) = false := decide_eq_false (by omega)
    have d3 : ((zs.length : Int) == 0) = true := by rw [beq_iff_eq]; omega
    have d2 : ((ys.length : Int) != zs.length) = false := by rw [hys]; simp
    rw [hys] at d2 ⊢
    clear hl1 hl2 hl3 hys
    go_enter Try.func3, Try.ntmps3
    go_wp2_with fail
    refine (works_any _).mono ?_
    rintro en w2 ⟨rfl, hb⟩
    go_wp2_with fail
    go_ret
    exact ⟨rfl, hb⟩
  · have hL : zs.length ≤ 16 := by omega
    have hyl : ys.length = zs.length := by omega
    have hpos : 0 < zs.length := by omega
    have d1 : decide (16 < (zs.length : Int)) = false := decide_eq_false (by omega)
    have d2 : ((ys.length : Int) != zs.length) = false := by rw [hyl]; simp
    have d3 : ((zs.length : Int) == 0) = false := by rw [beq_eq_false_iff_ne]; omega
    have hzb : ∀ j, 0 ≤ zs.getD j 0 ∧ zs.getD j 0 ≤ 4294967295 := fun j => by
      by_cases hj : j < zs.length
      · have := hz _ (List.getElem_mem hj)
        simp [Lit.wf, IntKind.min, IntKind.max, IntKind.signed, IntKind.bits] at this
        simp only [List.getD_eq_getElem?_getD, List.getElem?_eq_getElem hj, Option.getD_some]
        omega
      · simp only [List.getD_eq_getElem?_getD, List.getElem?_eq_none (Nat.le_of_not_lt hj), Option.getD_none]; omega
    have hyb : ∀ j, 0 ≤ ys.getD j 0 ∧ ys.getD j 0 ≤ 4294967295 := fun j => by
      by_cases hj : j < ys.length
      · have := hy _ (List.getElem_mem hj)
        simp [Lit.wf, IntKind.min, IntKind.max, IntKind.signed, IntKind.bits] at this
        simp only [List.getD_eq_getElem?_getD, List.getElem?_eq_getElem hj, Option.getD_some]
        omega
      · simp only [List.getD_eq_getElem?_getD, List.getElem?_eq_none (Nat.le_of_not_lt hj), Option.getD_none]; omega
    have HZB := Lib.hid hzb
    have HYB := Lib.hid hyb
    obtain ⟨N, hN⟩ : ∃ N, N = zs.length := ⟨_, rfl⟩
    have HGD := Lib.hid (mkL_good (hN ▸ hL : N ≤ 16) hzb hyb)
    have HSM := Lib.hid (mkL_sum (ys := ys) hzb N)
    rw [hyl] at h1 ⊢
    rw [hyl] at d2
    rw [← hN] at h0 h1 hL hpos d1 d2 d3 ⊢
    have HN := Lib.hid hN
    have HYL := Lib.hid (hyl.trans hN.symm)
    clear hl1 hl2 hl3 hyl hz hy hzb hyb hN
    have hs := (Sep.start w).nilRecs acR 27
    go_enter Try.func3, Try.ntmps3
    go_wp2_with fail
    refine wp_loopM [none, none, none, none, none, none, none, none, none, some 9, some 10, none, none, none, none, none, none, none, none, none, none, none, none, none, none, none, none, none, none, none, none, none, none, none, none, none, none, none, none, some 39, some 40, some 41, some 42, some 43, some 44, some 45, some 46, some 47, some 48, some 49, some 50, some 51, some 52, some 53, some 54, some 55, some 56, some 57, some 58, none, none, none, none, none, none, none, none, none, none, none, none, none, none, none, none, none, none, none, none, none, none, none, none, none, none, none, none, none, none, none, none, none, none, none, none, none, none, none, none, none, none, none, none, none, none, none, none, none, none, none, none, none, none, none, none, none, none, none, none, none, none, none, none, none, none, none, none, none, none, none, none, none, none, none, none, none, none, none, none, none, none, none, none, none, none, none, none, none, none, none, none, none, none, none, none, none, none, none, none, none, none, none, none, none, none, none, none, none, none, none, none, none, none, none, none, none, none, none, none, none, none, none, none, none, none, none, none, none, none, none, none, none, none, none, none, none, none, none] (fun (r : Nat) (f : Nat → Value) (wr : World) => (fun (vl v : Value) => ∃ (i : Nat), v = .int .i64 i ∧ i ≤ N ∧ r = N - i ∧ Sep w wr [recT acR 27 vl (mkL zs ys i)]) (f 9) (f 10)) (N) (by kernel_rfl) ?atStart1 ?round1
    case' atStart1 => (try dsimp only [nthV])
    case' round1 =>
      intro gk f wr l hl hrel J1 K1 hJ1 hK1
      (try simp only [mask] at hl)
      generalize f 9 = u9 at hl hrel
      generalize f 10 = u10 at hl hrel
      subst hl
      (try dsimp only at hrel)
    case atStart1 => exact ⟨0, rfl, Nat.zero_le _, rfl, hs⟩
    case round1 =>
      clear hs
      obtain ⟨i, rfl, hi, rfl, hs⟩ := hrel
      by_cases hlt : i < N
      · obtain ⟨b1, o1, e1, hb1, hc1⟩ := (hs.rd h0).at i (by rw [← HN.out]; exact hlt)
        obtain ⟨b2, o2, e2, hb2, hc2⟩ := (hs.rd h1).at i (by rw [HYL.out]; exact hlt)
        subst e1
        subst e2
        obtain ⟨z0, z1⟩ := HZB.out i
        obtain ⟨y0, y1⟩ := HYB.out i
        have hmk := mkL_succ zs ys i
        obtain ⟨B, hB⟩ : ∃ B, B = zs.getD i 0 := ⟨_, rfl⟩
        obtain ⟨R, hR⟩ : ∃ R, R = ys.getD i 0 := ⟨_, rfl⟩
        rw [← hB] at hc1 z0 z1 hmk
        rw [← hR] at hc2 y0 y1 hmk
        have HMK := Lib.hid hmk
        clear hmk hB hR
        have hsa := (hs.alloc (.cells #[.int .i64 B, .int .i64 R] 27)).drew
        have hBB : (wr.alloc (.cells #[.int .i64 B, .int .i64 R] 27)).drew.heap[wr.heap.size]? = some (.cells #[.int .i64 B, .int .i64 R] 27 (0, 0)) := heap_alloc_new wr _
        go_wp2_with fail
        refine Mix.region [1, 0, 0, 0, 0, 0, 0, 0, 0, 0, 0, 0, 2, 2, 0] (fun _ => True) (by kernel_rfl) (by kernel_rfl) trivial ?_
        simp only [List.zip_cons_cons, List.zip_nil_right]
        iterate 1 (refine Mix.step1 fun K hK => ?_; go_simp; (try (go_bits; try go_simp)); first | ((with_reducible refine hK _ _ ?_); clear hK K) | ((try (simp only [IntWalk.iteOmega]; try go_simp)); (try go_bits); (with_reducible refine hK _ _ ?_); clear hK K))
        iterate 11 (refine Mix.step0 fun K hK => ?_; go_simp; (try (go_bits; try go_simp)); first | ((with_reducible refine hK _ _ ?_); clear hK K) | ((try (simp only [IntWalk.iteOmega]; try go_simp)); (try go_bits); (with_reducible refine hK _ _ ?_); clear hK K))
        refine Mix.step2n (by first | rfl | simp [Region.wanted, yielded]) fun K hK => ?_
        go_wp2_with fail
        refine Mix.post_mk (C := (fun _ => True)) trivial (hK _ _ ?_)
        clear hK K
        refine Mix.step2n (by first | rfl | simp [Region.wanted, yielded]) fun K hK => ?_
        refine wpList_appRecB acR rfl (.tmp 45) (.tmp 57) 25 rfl 27 i0 _ 16 Try.underlying25 hi0 hz0 hz1 hz2 rfl _ _ ⟨B, R⟩ hsa 0 rfl wr.heap.size _ rfl hBB rfl rfl (by rw [mkL_length]; (try simp only [maxLen]); omega) (by rw [mkL_length]; omega) ?_
        intro vo w4 hs4 HSH
        simp only [List.set_cons_zero] at hs4
        rw [← HMK.out] at hs4
        clear hs hsa hBB
        go_wp2_with fail
        refine Mix.post_mk (C := (fun _ => True)) trivial (hK _ _ ?_)
        clear hK K
        iterate 1 (refine Mix.step0 fun K hK => ?_; go_simp; (try (go_bits; try go_simp)); first | ((with_reducible refine hK _ _ ?_); clear hK K) | ((try (simp only [IntWalk.iteOmega]; try go_simp)); (try go_bits); (with_reducible refine hK _ _ ?_); clear hK K))
        refine Mix.done ?_
        go_wp2_with fail
        refine Round.intro (N - (i + 1)) ?measure2 (by kernel_rfl) (hJ1 _ _ _ ?rel2)
        case' rel2 => (try dsimp only [nthV])
        case measure2 => omega
        case rel2 => exact ⟨i + 1, by go_num, hlt, rfl, hs4⟩
      · obtain rfl : i = N := by omega
        obtain ⟨xs, hxs⟩ : ∃ xs, xs = mkL zs ys i := ⟨_, rfl⟩
        have hxl : xs.length = i := by rw [hxs, mkL_length]
        rw [← hxs] at HGD HSM hs
        clear hxs
        obtain ⟨al, cl, rfl⟩ := (hs.rdRecs 0 rfl).shape
        obtain ⟨s0, s1⟩ := HSM.out
        obtain ⟨m, hm⟩ : ∃ m : Nat, k % (i : Int) = m := ⟨(k % (i : Int)).toNat, by have := Int.emod_nonneg k (b := (i : Int)) (by omega); omega⟩
        have hml : m < xs.length := by have := Int.emod_lt_of_pos k (b := (i : Int)) (by omega); omega
        have hmz : ¬ (i : Int) = 0 := by omega
        obtain ⟨y, hyv⟩ : ∃ y, y = 1 + x := ⟨_, rfl⟩
        have hy1 : 0 < y ∧ y ≤ 4503599627370496 := by omega
        have hsy : (bals xs).sum + y ≤ 4503599627370496 := by omega
        have HF := Lib.hid (fund_yes HGD.out hml hy1 hsy)
        have hbal := HGD.out.at hml
        rw [← acAt_of hml] at hbal
        have hsb := sum_at HGD.out.bal (k := m) (by rw [bals_length]; exact hml)
        rw [bals_get hml, ← acAt_of hml] at hsb
        obtain ⟨xs1, hx1⟩ : ∃ l, l = addAt xs m y := ⟨_, rfl⟩
        have hxl1 : xs1.length = i := by rw [hx1, addAt_length]; exact hxl
        have hat1 := addAt_at hml y
        have HG1 := Lib.hid (show GoodA xs1 by rw [hx1]; exact HGD.out.addAt hml (by omega) hsy)
        have HBK := Lib.hid (addAt_back hml y)
        have HD1 := Lib.hid (draw_at (xs := xs1) (m := m) (by rw [hxl1, ← hxl]; exact hml) hy1 (by rw [hx1, hat1]; show y ≤ (acAt xs m).bal + y; omega))
        have HGET1 := Lib.hid (aget_at (xs := xs1) (m := m) (by rw [hxl1, ← hxl]; exact hml))
        have HOFF := Lib.hid (draw_off hml (y := (acAt xs m).bal + 1) (by omega) (by omega))
        have HALL := Lib.hid (fun h : 0 < (acAt xs m).bal => draw_at hml (y := (acAt xs m).bal) (by omega) (Int.le_refl _))
        have HGET := Lib.hid (aget_at hml)
        have HATA := Lib.hid (addAt_at hml (-(acAt xs m).bal))
        have HGETA := Lib.hid (aget_at (xs := addAt xs m (-(acAt xs m).bal)) (m := m) (by rw [addAt_length]; exact hml))
        rw [← hx1] at HF HBK hat1
        rw [HBK.out] at HD1
        have HAT1 := Lib.hid hat1
        obtain ⟨B, hB⟩ : ∃ B, B = (acAt xs m).bal := ⟨_, rfl⟩
        obtain ⟨R, hR⟩ : ∃ R, R = (acAt xs m).res := ⟨_, rfl⟩
        rw [← hB, ← hR] at hbal HAT1
        rw [← hB] at hsb HOFF HALL HATA HGETA
        rw [← hR] at HATA
        have HBV := Lib.hid hB
        have HRV := Lib.hid hR
        obtain ⟨⟨g0, g1⟩, g2, g3⟩ := hbal
        obtain ⟨hy2, hy3⟩ := hy1
        have hyx : 1 + x = y := hyv.symm
        have HXL := Lib.hid hxl
        have HXL1 := Lib.hid hxl1
        clear hx1 hat1 hB hR hyv hsy hxl1
        have HATB := Lib.hid (show acAt (addAt xs m (-B)) m = ⟨0, R⟩ by rw [HATA.out, show B + -B = 0 by omega])
        rw [hxl] at hs ⊢
        clear hxl
        go_wp2_with fail
        refine (of_any _ xs _ (hs.rdRecs 0 rfl) (by rw [HXL.out]; omega)).mono ?_
        rintro en w5 (⟨hE, b3, rfl, k3⟩ | ⟨hE, rfl, hb⟩)
        case inr => exact (hE (good_of HGD.out)).elim
        clear hE
        replace hs := hs.join k3
        clear k3
        simp only [List.cons_append, List.nil_append] at hs
        go_wp2_with fail
        refine (fund_any hs 0 b3 xs rfl HGD.out m y).mono ?_
        rintro en w6 ⟨rfl, hs2⟩
        rw [HF.out.1]
        rw [HF.out.2] at hs2
        clear hs
        have hs := hs2
        clear hs2
        (try simp only [List.set_cons_zero] at hs)
        obtain ⟨va, hva, hra⟩ := hs.obj 0 rfl
        have hca := cell_of hva 0
        simp only [List.getElem?_toArray, List.getElem?_cons_zero] at hca
        clear hva
        go_wp2_with fail
        refine (get_any b3 va xs1 m _ hca hra).mono ?_
        rintro en w7 ⟨rfl, hb⟩
        rw [HGET1.out.1, HGET1.out.2, HAT1.out]
        clear hca hra
        replace hs := (hs.belowStep hb).newCells #[.int .i64 (B + y), .int .i64 R] 27
        clear hb
        go_upto_region 16 with fail
        obtain ⟨va, hva, hra⟩ := hs.obj 1 rfl
        have hca := cell_of hva 0
        simp only [List.getElem?_toArray, List.getElem?_cons_zero] at hca
        clear hva
        go_wp2_with fail
        refine (rooms_any b3 va xs1 _ hca hra HG1.out).mono ?_
        rintro en w8 ⟨u8, rfl, k8⟩
        clear hca hra
        replace hs := hs.join k8
        clear k8
        simp only [List.cons_append, List.nil_append] at hs
        obtain ⟨a8, c8, rfl⟩ := (hs.rdInts 0 rfl).shape
        rw [rooms_length, HXL1.out] at hs ⊢
        have q0 := cell_of (hs.cells 1 rfl) 0
        simp only [List.getElem?_toArray, List.getElem?_cons_zero] at q0
        obtain ⟨b4, o4, e4, hb4, hc4⟩ := (hs.rdRecs 3 rfl).at m hml
        subst e4
        have z0 := hc4 0 (by decide)
        simp only [acR, Nat.add_zero, List.getElem?_cons_zero] at z0
        rw [← acAt_of hml, ← HBV.out] at z0
        clear hc4
        have n1 : (B + y != B + y) = false := by simp
        have n2 : ((i : Int) != i) = false := by simp
        have hmi : m < i := by rw [← HXL.out]; exact hml
        go_wp2_with fail
        refine Mix.region [0, 0, 0, 0, 0, 0, 0, 0, 0, 0, 0, 0, 0, 0, 0, 0, 0, 0, 0, 0, 0] (fun _ => True) (by kernel_rfl) (by kernel_rfl) trivial ?_
        simp only [List.zip_cons_cons, List.zip_nil_right]
        iterate 3 (refine Mix.step0 fun K hK => ?_; go_simp; (try (go_bits; try go_simp)); first | ((with_reducible refine hK _ _ ?_); clear hK K) | ((try (simp only [IntWalk.iteOmega]; try go_simp)); (try go_bits); (with_reducible refine hK _ _ ?_); clear hK K))
        iterate 10 (first | (refine Mix.stepS rfl fun K hK => ?_; go_simp; (with_reducible refine hK _ _ ?_); clear hK K) | (refine Mix.step0 fun K hK => ?_; go_simp; (try (go_bits; try go_simp)); first | ((with_reducible refine hK _ _ ?_); clear hK K) | ((try (simp only [IntWalk.iteOmega]; try go_simp)); (try go_bits); (with_reducible refine hK _ _ ?_); clear hK K)))
        iterate 2 (refine Mix.step0 fun K hK => ?_; go_simp; (try (go_bits; try go_simp)); first | ((with_reducible refine hK _ _ ?_); clear hK K) | ((try (simp only [IntWalk.iteOmega]; try go_simp)); (try go_bits); (with_reducible refine hK _ _ ?_); clear hK K))
        iterate 5 (first | (refine Mix.stepS rfl fun K hK => ?_; go_simp; (with_reducible refine hK _ _ ?_); clear hK K) | (refine Mix.step0 fun K hK => ?_; go_simp; (try (go_bits; try go_simp)); first | ((with_reducible refine hK _ _ ?_); clear hK K) | ((try (simp only [IntWalk.iteOmega]; try go_simp)); (try go_bits); (with_reducible refine hK _ _ ?_); clear hK K)))
        iterate 1 (refine Mix.step0 fun K hK => ?_; go_simp; (try (go_bits; try go_simp)); first | ((with_reducible refine hK _ _ ?_); clear hK K) | ((try (simp only [IntWalk.iteOmega]; try go_simp)); (try go_bits); (with_reducible refine hK _ _ ?_); clear hK K))
        refine Mix.done ?_
        clear q0 z0
        replace hs := hs.drew
        go_wp2_with fail
        refine wp_loopM [none, none, none, none, none, none, none, none, some 8, none, none, none, none, none, none, none, none, none, some 18, some 19, some 20, none, none, none, none, none, none, none, none, none, none, none, none, none, none, none, none, none, none, none, none, none, none, none, none, none, none, none, none, none, none, none, none, none, none, none, none, none, none, none, none, none, none, none, none, none, none, none, none, none, none, none, none, none, none, none, none, none, none, none, none, none, none, none, none, none, none, none, none, none, none, none, none, none, none, none, none, none, none, none, none, none, none, none, none, none, none, none, none, none, none, none, some 112, some 113, some 114, some 115, some 116, some 117, some 118, some 119, some 120, some 121, some 122, some 123, some 124, some 125, some 126, some 127, some 128, some 129, some 130, some 131, some 132, some 133, some 134, none, none, none, none, none, none, none, none, none, none, none, none, none, none, none, none, none, none, none, none, none, none, none, none, none, none, none, none, none, none, none, none, none, none, none, none, none, none, none, none, none, none, none, none, none, none, none, none, none, none, none, none, none, none, none, none, none, none, none, none, none, none, none] (fun (r : Nat) (f : Nat → Value) (wq : World) => (fun (v : Value) => ∃ (q : Nat), v = .int .i64 q ∧ q ≤ i ∧ r = i - q ∧ Sep w wq [intsT .i64 2 (.slice a8 i c8) (roomsL xs1), accT b3 xs1, recT acR 27 (.slice (some ⟨b4, o4, none⟩) i cl) xs]) (f 18)) (i) (by kernel_rfl) ?atStart3 ?round3
        case' atStart3 => (try dsimp only [nthV])
        case' round3 =>
          intro gk f wr l hl hrel J2 K2 hJ2 hK2
          (try simp only [mask] at hl)
          generalize f 18 = u18 at hl hrel
          subst hl
          (try dsimp only at hrel)
        case atStart3 => exact ⟨0, rfl, Nat.zero_le _, rfl, hs.drop1⟩
        case round3 =>
          clear hs
          obtain ⟨q, rfl, hq, rfl, hs⟩ := hrel
          by_cases hqt : q < i
          · have hqx : q < xs1.length := by rw [HXL1.out]; exact hqt
            have hgq := aget_at hqx
            have hrq := rooms_get hqx
            have hgb := HG1.out.at hqx
            rw [← acAt_of hqx] at hgb
            obtain ⟨Bq, hBq⟩ : ∃ B, B = (acAt xs1 q).bal := ⟨_, rfl⟩
            obtain ⟨Rq, hRq⟩ : ∃ R, R = (acAt xs1 q).res := ⟨_, rfl⟩
            rw [← hBq, ← hRq] at hrq hgb
            have HGQ := Lib.hid (show getV xs1 q = ⟨Bq, Rq⟩ by rw [hgq.1, hBq, hRq])
            have HGB := Lib.hid hgq.2
            obtain ⟨⟨p0, p1⟩, p2, p3⟩ := hgb
            obtain ⟨b5, o5, e5, hb5, hc5⟩ := (hs.rdInts 0 rfl).at q (by rw [rooms_length]; exact hqx)
            subst e5
            rw [hrq] at hc5
            have HR5 := Lib.hid (fun W (k : Below wr.heap.size wr W) => (k.cell (p := ⟨b5, o5 + q, none⟩) hb5).trans hc5)
            clear hgq hrq hBq hRq hc5
            obtain ⟨va, hva, hra⟩ := hs.obj 1 rfl
            have hca := cell_of hva 0
            simp only [List.getElem?_toArray, List.getElem?_cons_zero] at hca
            clear hva
            go_wp2_with fail
            refine (get_any b3 va xs1 q _ hca hra).mono ?_
            rintro en w9 ⟨rfl, hb⟩
            rw [HGQ.out, HGB.out]
            clear hca hra
            have c5 := HR5.out _ hb
            replace hs := (hs.belowStep hb).newCells #[.int .i64 Bq, .int .i64 Rq] 27
            have hb5' := Nat.lt_of_lt_of_le hb5 hb.size
            clear hb
            by_cases hmx : 0 ≤ Bq - Rq
            · rw [show max (Bq - Rq) 0 = Bq - Rq by omega] at c5
              have nV : (Bq - Rq != Bq - Rq) = false := by simp
              go_wp2_with fail
              refine Mix.region [0, 0, 0, 0, 0, 0, 0, 0, 0, 0, 0] (fun _ => True) (by kernel_rfl) (by kernel_rfl) trivial ?_
              simp only [List.zip_cons_cons, List.zip_nil_right]
              iterate 11 (refine Mix.step0 fun K hK => ?_; go_simp; (try (go_bits; try go_simp)); first | ((with_reducible refine hK _ _ ?_); clear hK K) | ((try (simp only [IntWalk.iteOmega]; try go_simp)); (try go_bits); (with_reducible refine hK _ _ ?_); clear hK K))
              refine Mix.done ?_
              go_wp2_with fail
              refine Round.intro (i - (q + 1)) ?measure4 (by kernel_rfl) (hJ2 _ _ _ ?rel4)
              case' rel4 => (try dsimp only [nthV])
              case measure4 => omega
              case rel4 => exact ⟨q + 1, by go_num, hqt, rfl, hs.tail.drew⟩
            · rw [show max (Bq - Rq) 0 = 0 by omega] at c5
              go_wp2_with fail
              refine Mix.region [0, 0, 0, 0, 0, 0, 0, 0, 0, 0, 0] (fun _ => True) (by kernel_rfl) (by kernel_rfl) trivial ?_
              simp only [List.zip_cons_cons, List.zip_nil_right]
              iterate 11 (refine Mix.step0 fun K hK => ?_; go_simp; (try (go_bits; try go_simp)); first | ((with_reducible refine hK _ _ ?_); clear hK K) | ((try (simp only [IntWalk.iteOmega]; try go_simp)); (try go_bits); (with_reducible refine hK _ _ ?_); clear hK K))
              refine Mix.done ?_
              go_wp2_with fail
              refine Round.intro (i - (q + 1)) ?measure5 (by kernel_rfl) (hJ2 _ _ _ ?rel5)
              case' rel5 => (try dsimp only [nthV])
              case measure5 => omega
              case rel5 => exact ⟨q + 1, by go_num, hqt, rfl, hs.tail.drew⟩
          · obtain rfl : q = i := by omega
            replace hs := hs.tail
            go_wp2_with fail
            refine (draw_any hs 0 b3 xs1 rfl HG1.out m y).mono ?_
            rintro en w9 ⟨rfl, hs2⟩
            rw [HD1.out.1]
            rw [HD1.out.2] at hs2
            clear hs
            have hs : Sep w w9 [accT b3 xs, recT acR 27 (.slice (some ⟨b4, o4, none⟩) q cl) xs] := hs2
            clear hs2
            obtain ⟨va, hva, hra⟩ := hs.obj 0 rfl
            have hca := cell_of hva 0
            simp only [List.getElem?_toArray, List.getElem?_cons_zero] at hca
            clear hva
            go_wp2_with fail
            refine (list_any b3 va xs _ hca hra (by rw [HXL.out]; omega)).mono ?_
            rintro en w10 ⟨u, rfl, k10⟩
            clear hca hra
            replace hs := hs.join k10
            clear k10
            simp only [List.cons_append, List.nil_append] at hs
            go_wp2_with fail
            refine (same_same u _ xs _ (hs.rdRecs 0 rfl) (hs.rdRecs 2 rfl)).mono ?_
            rintro en w11 ⟨rfl, hb⟩
            replace hs := hs.tail.belowStep hb
            clear hb
            obtain ⟨b6, o6, e6, hb6, hc6⟩ := (hs.rdRecs 1 rfl).at m hml
            injection e6 with e6
            injection e6 with e6 e7
            subst e6
            subst e7
            have z0 := hc6 0 (by decide)
            have z1 := hc6 1 (by decide)
            simp only [acR, Nat.add_zero, List.getElem?_cons_zero, List.getElem?_cons_succ] at z0 z1
            rw [← acAt_of hml, ← HBV.out] at z0
            rw [← acAt_of hml, ← HRV.out] at z1
            clear hc6 hb6
            go_upto_region 27 with fail
            go_wp2_with fail
            refine (draw_any hs 0 b3 xs rfl HGD.out m (B + 1)).mono ?_
            rintro en w12 ⟨rfl, hs2⟩
            rw [HOFF.out.1]
            rw [HOFF.out.2] at hs2
            clear hs z0 z1
            have hs : Sep w w12 [accT b3 xs, recT acR 27 (.slice (some ⟨b4, o4, none⟩) q cl) xs] := hs2
            clear hs2
            obtain ⟨b6, o6, e6, hb6, hc6⟩ := (hs.rdRecs 1 rfl).at m hml
            injection e6 with e6
            injection e6 with e6 e7
            subst e6
            subst e7
            have z0 := hc6 0 (by decide)
            have z1 := hc6 1 (by decide)
            simp only [acR, Nat.add_zero, List.getElem?_cons_zero, List.getElem?_cons_succ] at z0 z1
            rw [← acAt_of hml, ← HBV.out] at z0
            rw [← acAt_of hml, ← HRV.out] at z1
            clear hc6 hb6
            by_cases hB0 : 0 < B
            · have dB : decide (0 < B) = true := decide_eq_true hB0
              have HAL := Lib.hid (HALL.out hB0)
              clear hB0
              go_wp2_with fail
              refine (draw_any hs 0 b3 xs rfl HGD.out m B).mono ?_
              rintro en w13 ⟨rfl, hs2⟩
              rw [HAL.out.1]
              rw [HAL.out.2] at hs2
              clear hs z0 z1
              have hs : Sep w w13 [accT b3 (addAt xs m (-B)), recT acR 27 (.slice (some ⟨b4, o4, none⟩) q cl) xs] := hs2
              clear hs2
              obtain ⟨va, hva, hra⟩ := hs.obj 0 rfl
              have hca := cell_of hva 0
              simp only [List.getElem?_toArray, List.getElem?_cons_zero] at hca
              clear hva
              go_wp2_with fail
              refine (get_any b3 va ((addAt xs m (-B))) m _ hca hra).mono ?_
              rintro en w14 ⟨rfl, hb⟩
              rw [HGETA.out.1, HGETA.out.2, HATB.out]
              (try clear z0 z1)
              clear hca hra
              replace hs := hs.belowStep hb
              clear hb
              replace hs := hs.newCells #[.int .i64 0, .int .i64 R] 27
              obtain ⟨b6, o6, e6, hb6, hc6⟩ := (hs.rdRecs 2 rfl).at m hml
              injection e6 with e6
              injection e6 with e6 e7
              subst e6
              subst e7
              have z0 := hc6 0 (by decide)
              have z1 := hc6 1 (by decide)
              simp only [acR, Nat.add_zero, List.getElem?_cons_zero, List.getElem?_cons_succ] at z0 z1
              rw [← acAt_of hml, ← HBV.out] at z0
              rw [← acAt_of hml, ← HRV.out] at z1
              clear hc6 hb6
              have q0 := cell_of (hs.cells 0 rfl) 0
              have q1 := cell_of (hs.cells 0 rfl) 1
              simp only [List.getElem?_toArray, List.getElem?_cons_zero, List.getElem?_cons_succ] at q0 q1
              have n3 : (R == R) = true := by simp
              go_wp2_with fail
              refine Mix.region [0, 0, 0, 0, 0, 0, 0, 0, 0, 0, 0, 0, 0, 0, 2, 0, 0] (fun _ => True) (by kernel_rfl) (by kernel_rfl) trivial ?_
              simp only [List.zip_cons_cons, List.zip_nil_right]
              iterate 4 (refine Mix.step0 fun K hK => ?_; go_simp; (try (go_bits; try go_simp)); first | ((with_reducible refine hK _ _ ?_); clear hK K) | ((try (simp only [IntWalk.iteOmega]; try go_simp)); (try go_bits); (with_reducible refine hK _ _ ?_); clear hK K))
              iterate 8 (first | (refine Mix.stepS rfl fun K hK => ?_; go_simp; (with_reducible refine hK _ _ ?_); clear hK K) | (refine Mix.step0 fun K hK => ?_; go_simp; (try (go_bits; try go_simp)); first | ((with_reducible refine hK _ _ ?_); clear hK K) | ((try (simp only [IntWalk.iteOmega]; try go_simp)); (try go_bits); (with_reducible refine hK _ _ ?_); clear hK K)))
              iterate 2 (refine Mix.step0 fun K hK => ?_; go_simp; (try (go_bits; try go_simp)); first | ((with_reducible refine hK _ _ ?_); clear hK K) | ((try (simp only [IntWalk.iteOmega]; try go_simp)); (try go_bits); (with_reducible refine hK _ _ ?_); clear hK K))
              refine Mix.step2n (by first | rfl | simp [Region.wanted, yielded]) fun K hK => ?_
              go_wp2_with fail
              replace hs := hs.drew
              refine (works_any _).mono ?_
              rintro en w15 ⟨rfl, hb⟩
              replace hs := hs.belowStep hb
              clear hb
              go_wp2_with fail
              refine Mix.post_mk (C := (fun _ => True)) trivial (hK _ _ ?_)
              clear hK K
              iterate 2 (refine Mix.step0 fun K hK => ?_; go_simp; (try (go_bits; try go_simp)); first | ((with_reducible refine hK _ _ ?_); clear hK K) | ((try (simp only [IntWalk.iteOmega]; try go_simp)); (try go_bits); (with_reducible refine hK _ _ ?_); clear hK K))
              refine Mix.done ?_
              go_wp2_with fail
              go_ret
              exact ⟨rfl, hs.below⟩
            · have dB : decide (0 < B) = false := decide_eq_false hB0
              have hBz : B = 0 := by omega
              have HATC := Lib.hid (show acAt xs m = ⟨0, R⟩ by
                have h1 := HBV.out
                have h2 := HRV.out
                rw [hBz] at h1
                cases hq : acAt xs m
                rw [hq] at h1 h2
                simp only at h1 h2
                rw [h1, h2])
              clear hB0 hBz
              obtain ⟨va, hva, hra⟩ := hs.obj 0 rfl
              have hca := cell_of hva 0
              simp only [List.getElem?_toArray, List.getElem?_cons_zero] at hca
              clear hva
              go_wp2_with fail
              refine (get_any b3 va (xs) m _ hca hra).mono ?_
              rintro en w14 ⟨rfl, hb⟩
              rw [HGET.out.1, HGET.out.2, HATC.out]
              (try clear z0 z1)
              clear hca hra
              replace hs := hs.belowStep hb
              clear hb
              replace hs := hs.newCells #[.int .i64 0, .int .i64 R] 27
              obtain ⟨b6, o6, e6, hb6, hc6⟩ := (hs.rdRecs 2 rfl).at m hml
              injection e6 with e6
              injection e6 with e6 e7
              subst e6
              subst e7
              have z0 := hc6 0 (by decide)
              have z1 := hc6 1 (by decide)
              simp only [acR, Nat.add_zero, List.getElem?_cons_zero, List.getElem?_cons_succ] at z0 z1
              rw [← acAt_of hml, ← HBV.out] at z0
              rw [← acAt_of hml, ← HRV.out] at z1
              clear hc6 hb6
              have q0 := cell_of (hs.cells 0 rfl) 0
              have q1 := cell_of (hs.cells 0 rfl) 1
              simp only [List.getElem?_toArray, List.getElem?_cons_zero, List.getElem?_cons_succ] at q0 q1
              have n3 : (R == R) = true := by simp
              go_wp2_with fail
              refine Mix.region [0, 0, 0, 0, 0, 0, 0, 0, 0, 0, 0, 0, 0, 0, 2, 0, 0] (fun _ => True) (by kernel_rfl) (by kernel_rfl) trivial ?_
              simp only [List.zip_cons_cons, List.zip_nil_right]
              iterate 4 (refine Mix.step0 fun K hK => ?_; go_simp; (try (go_bits; try go_simp)); first | ((with_reducible refine hK _ _ ?_); clear hK K) | ((try (simp only [IntWalk.iteOmega]; try go_simp)); (try go_bits); (with_reducible refine hK _ _ ?_); clear hK K))
              iterate 8 (first | (refine Mix.stepS rfl fun K hK => ?_; go_simp; (with_reducible refine hK _ _ ?_); clear hK K) | (refine Mix.step0 fun K hK => ?_; go_simp; (try (go_bits; try go_simp)); first | ((with_reducible refine hK _ _ ?_); clear hK K) | ((try (simp only [IntWalk.iteOmega]; try go_simp)); (try go_bits); (with_reducible refine hK _ _ ?_); clear hK K)))
              iterate 2 (refine Mix.step0 fun K hK => ?_; go_simp; (try (go_bits; try go_simp)); first | ((with_reducible refine hK _ _ ?_); clear hK K) | ((try (simp only [IntWalk.iteOmega]; try go_simp)); (try go_bits); (with_reducible refine hK _ _ ?_); clear hK K))
              refine Mix.step2n (by first | rfl | simp [Region.wanted, yielded]) fun K hK => ?_
              go_wp2_with fail
              replace hs := hs.drew
              refine (works_any _).mono ?_
              rintro en w15 ⟨rfl, hb⟩
              replace hs := hs.belowStep hb
              clear hb
              go_wp2_with fail
              refine Mix.post_mk (C := (fun _ => True)) trivial (hK _ _ ?_)
              clear hK K
              iterate 2 (refine Mix.step0 fun K hK => ?_; go_simp; (try (go_bits; try go_simp)); first | ((with_reducible refine hK _ _ ?_); clear hK K) | ((try (simp only [IntWalk.iteOmega]; try go_simp)); (try go_bits); (with_reducible refine hK _ _ ?_); clear hK K))
              refine Mix.done ?_
              go_wp2_with fail
              go_ret
              exact ⟨rfl, hs.below⟩
end Go.Proofs.Ytlpfojpfepfdgaa
