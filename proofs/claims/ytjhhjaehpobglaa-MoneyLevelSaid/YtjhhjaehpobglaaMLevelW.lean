/-
  The law MoneyLevel, walked.
-/
import Derived.Test.YtjhhjaehpobglaaMRef2W
import Derived.Test.YtjhhjaehpobglaaMPlain3
import Derived.Test.YtjhhjaehpobglaaMemS
namespace Go.Proofs.Ytjhhjaehpobglaa
open Go Go.RowKit Go.Mem Go.MoneyP

set_option maxHeartbeats 4000000 in
set_option maxRecDepth 100000 in
theorem moneyLevel_rd (v0 : Value) (zs : List Int) (hwf : ∀ x ∈ zs, (Lit.int .u32 x).wf = true) (a1 : Option Addr) (len1 c1 : Nat) (z : Nat → Nat → Int) (w : World) (h0 : Rd .u32 w v0 zs) (h1 : IsRec [.u16, .u16, .u16] w a1 len1 c1 z) :
    Calls Try.prog 4 #[v0, .slice a1 len1 c1] w fun e w' => e = .returned (.bool true) ∧ Below w.heap.size w w' := by
  obtain ⟨a0, c0, rfl⟩ := h0.shape
  obtain ⟨i0, hi0, hz0, hz1, hz2⟩ := info_parts Try.infoI64
  by_cases k0 : 100 < zs.length
  · go_enter Try.func4, Try.ntmps4
    go_wp2_with fail
    refine (works_any _).mono ?_
    rintro e w1 ⟨rfl, hb⟩
    go_wp2_with fail
    go_ret
    exact ⟨rfl, hb⟩
  · have d0 : decide (100 < (zs.length : Int)) = false := by simp; omega
    by_cases k1 : zs.length = 0
    · have d1 : ((zs.length : Int) == 0) = true := by rw [k1]; rfl
      clear k1
      go_enter Try.func4, Try.ntmps4
      go_wp2_with fail
      refine (works_any _).mono ?_
      rintro e w1 ⟨rfl, hb⟩
      go_wp2_with fail
      go_ret
      exact ⟨rfl, hb⟩
    · have d1 : ((zs.length : Int) == 0) = false := by rw [beq_eq_false_iff_ne]; omega
      by_cases k2 : 100 < len1
      · go_enter Try.func4, Try.ntmps4
        go_wp2_with fail
        refine (works_any _).mono ?_
        rintro e w1 ⟨rfl, hb⟩
        go_wp2_with fail
        go_ret
        exact ⟨rfl, hb⟩
      · have d2 : decide (100 < (len1 : Int)) = false := by simp; omega
        have hb32 : ∀ x ∈ zs, 0 ≤ x ∧ x ≤ 4294967295 := fun x hx => by have := hwf x hx; simp [Lit.wf, IntKind.min, IntKind.max, IntKind.signed, IntKind.bits] at this; omega
        have H32 := Lib.hid hb32
        have kp : 0 < zs.length := by omega
        have k100 : zs.length ≤ 100 := by omega
        have m100 : len1 ≤ 100 := by omega
        clear hb32 hwf k0 k1 k2
        go_enter Try.func4, Try.ntmps4
        go_wp2_with fail
        have hs0 := (Sep.start w).nilInts .i64 2
        refine wp_loopM [none, none, none, none, none, some 5, some 6, some 7, none, none, none, none, none, none, none, none, none, none, none, none, none, none, none, none, none, none, none, none, none, none, none, none, none, none, some 34, some 35, some 36, some 37, some 38, some 39, some 40, some 41, some 42, some 43, some 44, some 45, some 46, some 47, some 48, some 49, some 50, some 51, some 52, some 53, some 54, none, none, none, none, none, none, none, none, none, none, none, none, none, none, none, none, none, none, none, none, none, none, none, none, none, none, none, none, none, none, none, none, none, none, none, none, none, none, none, none, none, none, none, none, none, none, none, none, none, none, none, none, none, none, none, none, none, none, none, none, none, none, none, none, none, none, none, none, none, none, none, none, none, none, none, none, none, none, none, none, none, none, none, none, none, none, none, none, none, none, none, none, none, none, none, none, none, none, none, none, none, none, none, none, none, none, none, none, none, none, none, none, none, none, none, none, none, none, none, none, none, none, none, none, none, none, none, none, none, none, none, none, none, none, none, none, none, none, none, none, none, none, none, none, none, none, none, none, none, none, none, none, none, none, none] (fun (n : Nat) (f : Nat → Value) (wr : World) => (fun (v vh s : Value) => ∃ i : Nat, v = .int .i64 i ∧ s = .int .i64 (zs.take i).sum ∧ i ≤ zs.length ∧ n = zs.length - i ∧ Sep w wr [intsT .i64 2 vh (zs.take i)]) (f 7) (f 5) (f 6)) (zs.length) (by kernel_rfl) ?atStart1 ?round1
        case' atStart1 => (try dsimp only [nthV])
        case' round1 =>
          intro gk f wr l hl hrel J1 K1 hJ1 hK1
          (try simp only [mask] at hl)
          generalize f 7 = u7 at hl hrel
          generalize f 5 = u5 at hl hrel
          generalize f 6 = u6 at hl hrel
          subst hl
          (try dsimp only at hrel)
        case atStart1 => exact ⟨0, rfl, rfl, Nat.zero_le _, rfl, hs0⟩
        case round1 =>
          clear hs0
          obtain ⟨i, rfl, rfl, hi, rfl, hs⟩ := hrel
          by_cases hlt : i < zs.length
          ·
            obtain ⟨b1, o1, rfl, hb1, hc1⟩ := (hs.rd h0).at i hlt
            obtain ⟨sb0, sb1⟩ := sum_take_bound H32.out i hi
            obtain ⟨hx0, hx1⟩ := H32.out _ (getD_mem hlt)
            have HST := Lib.hid (snoc_take hlt)
            have HSS := Lib.hid (sum_step hlt)
            have htl : (zs.take i).length = i := by simp; omega
            have HTL := Lib.hid htl
            clear htl
            obtain ⟨x, hxe⟩ : ∃ x, x = zs.getD i 0 := ⟨_, rfl⟩
            rw [← hxe] at hc1 hx0 hx1 HST HSS
            clear hxe
            generalize (zs.take i).sum = s at *
            go_wp2_with (at_builtin; refine wpList_appInt rfl (.tmp 40) (.tmp 46) 22 rfl 2 i0 _ 8 Try.underlying22 hi0 hz0 hz1 hz2 rfl _ (zs.take i) .i64 x hs 0 rfl rfl rfl ?c3 ?c4 ?grow)
            case c3 => (try rw [HTL.out]); (try simp); (try simp only [maxLen]); (try omega)
            case c4 => (try rw [HTL.out]); (try simp); (try omega)
            case grow =>
              intro vh' w2 hs2 _
              have hc2 := (hs2.rd h0).at i hlt
              obtain ⟨b2, o2, e1, hb2, hc2⟩ := hc2
              injection e1 with e1
              injection e1 with e1 e2
              subst e1; subst e2
              have hxx : zs.getD i 0 = x := by have := HST.out; rw [take_snoc hlt] at this; simpa using this.symm
              rw [hxx] at hc2
              clear hs hc1 hxx
              go_wp2_with fail
              refine Round.intro (zs.length - (i + 1)) ?measure2 (by kernel_rfl) (hJ1 _ _ _ ?rel2)
              case' rel2 => (try dsimp only [nthV])
              case measure2 => omega
              case rel2 => exact ⟨i + 1, by go_num, by rw [HSS.out], hlt, rfl, by rw [← HST.out]; exact hs2⟩
          · obtain rfl : i = zs.length := by omega
            rw [List.take_length] at hs
            obtain ⟨sb0, sb1⟩ := sum_take_bound H32.out zs.length (Nat.le_refl _)
            rw [List.take_length] at sb0 sb1 ⊢
            obtain ⟨a5, c5, hu5⟩ := (hs.rdInts 0 rfl).shape
            subst hu5
            clear hi hlt
            go_wp2_with (at_make; refine wpList_makeInts rfl (.tmp 56) (.tmp 56) 22 rfl 2 i0 .i64 8 Try.underlying22 hi0 hz0 hz1 hz2 zs.length .i64 .i64 rfl rfl hs ?m1 ?m2 ?m3)
            case m1 => (try simp); (try simp only [maxLen]); (try omega)
            case m2 => (try simp); (try simp only [maxLen]); (try omega)
            case m3 =>
              intro w2 g hs2
              clear hs
              go_wp2_with (at_make; refine wpList_makeInts rfl (.tmp 59) (.tmp 59) 22 rfl 2 i0 .i64 8 Try.underlying22 hi0 hz0 hz1 hz2 zs.length .i64 .i64 rfl rfl hs2 ?m4 ?m5 ?m6)
              case m4 => (try simp); (try simp only [maxLen]); (try omega)
              case m5 => (try simp); (try simp only [maxLen]); (try omega)
              case m6 =>
                intro w3 g' hs3
                clear hs2
                go_wp2_with fail
                refine wp_loopM [none, none, none, none, none, none, none, none, none, none, some 10, some 11, some 12, none, none, none, none, none, none, none, none, none, none, none, none, none, none, none, none, none, none, none, none, none, none, none, none, none, none, none, none, none, none, none, none, none, none, none, none, none, none, none, none, none, none, none, none, none, none, none, none, some 61, some 62, some 63, some 64, some 65, some 66, some 67, some 68, some 69, some 70, some 71, some 72, some 73, some 74, some 75, some 76, some 77, some 78, some 79, some 80, some 81, some 82, some 83, some 84, some 85, some 86, some 87, some 88, some 89, some 90, some 91, some 92, some 93, some 94, some 95, some 96, some 97, some 98, some 99, some 100, some 101, some 102, some 103, some 104, some 105, some 106, some 107, some 108, none, none, none, none, none, none, none, none, none, none, none, none, none, none, none, none, none, none, none, none, none, none, none, none, none, none, none, none, none, none, none, none, none, none, none, none, none, none, none, none, none, none, none, none, none, none, none, none, none, none, none, none, none, none, none, none, none, none, none, none, none, none, none, none, none, none, none, none, none, none, none, none, none, none, none, none, none, none, none, none, none, none, none, none, none, none, none, none, none, none, none, none, none, none, none, none, none, none, none, none, none] (fun (n : Nat) (f : Nat → Value) (wr : World) => (fun (v : Value) => ∃ (i : Nat) (B : List Int), v = .int .i64 i ∧ i ≤ len1 ∧ n = len1 - i ∧ B.length = zs.length ∧ B.sum = 0 ∧ Near (i * 65535) B ∧ Sep w wr [intsT .i64 2 (.slice (some ⟨g', 0, none⟩) zs.length zs.length) (List.replicate zs.length 0), intsT .i64 2 (.slice (some ⟨g, 0, none⟩) zs.length zs.length) B, intsT .i64 2 (.slice a5 zs.length c5) zs]) (f 10)) (len1) (by kernel_rfl) ?atStart3 ?round3
                case' atStart3 => (try dsimp only [nthV])
                case' round3 =>
                  intro gk f wr l hl hrel J2 K2 hJ2 hK2
                  (try simp only [mask] at hl)
                  generalize f 10 = u10 at hl hrel
                  subst hl
                  (try dsimp only at hrel)
                case atStart3 => exact ⟨0, List.replicate zs.length 0, rfl, Nat.zero_le _, rfl, by simp, by simp, fun x hx => by have := (List.mem_replicate.1 hx).2; subst this; simp, hs3⟩
                case round3 =>
                  clear hs3
                  obtain ⟨i, B, rfl, hi, rfl, hbl, hbs, hnear, hs⟩ := hrel
                  have HBL := Lib.hid hbl
                  have HBS := Lib.hid hbs
                  have HNE := Lib.hid hnear
                  clear hbl hbs hnear
                  by_cases hlt : i < len1
                  ·
                    obtain ⟨bm, om, rfl, hbm, hcm⟩ := h1.get (by simp) i hlt
                    have hw0 := h1.wf i hlt 0 .u16 rfl
                    have hw1 := h1.wf i hlt 1 .u16 rfl
                    have hw2 := h1.wf i hlt 2 .u16 rfl
                    have q0 := hcm i hlt 0 .u16 rfl
                    have q1 := hcm i hlt 1 .u16 rfl
                    have q2 := hcm i hlt 2 .u16 rfl
                    simp only [List.length_cons, List.length_nil, Nat.zero_add, Nat.reduceAdd] at q0 q1 q2
                    simp [Lit.wf, IntKind.min, IntKind.max, IntKind.signed, IntKind.bits] at hw0 hw1 hw2
                    obtain ⟨x0, hx0⟩ : ∃ x : Nat, z i 0 = x := ⟨(z i 0).toNat, by omega⟩
                    obtain ⟨x1, hx1⟩ : ∃ x : Nat, z i 1 = x := ⟨(z i 1).toNat, by omega⟩
                    obtain ⟨x2, hx2⟩ : ∃ x : Nat, z i 2 = x := ⟨(z i 2).toNat, by omega⟩
                    rw [hx0] at q0 hw0
                    rw [hx1] at q1 hw1
                    rw [hx2] at q2 hw2
                    have r2 : x2 ≤ 65535 := by omega
                    have r0 : x0 ≤ 65535 := by omega
                    have r1 : x1 ≤ 65535 := by omega
                    clear hx0 hx1 hx2 hw0 hw1 hw2 hcm
                    have Q0 := Lib.hid q0
                    have Q1 := Lib.hid q1
                    have Q2 := Lib.hid q2
                    clear q0 q1 q2
                    have q0 : wr.cell? ⟨bm, om + i * 3, none⟩ = some (.int .u16 x0) := (hs.cell hbm).trans Q0.out
                    have q1 : wr.cell? ⟨bm, om + i * 3 + 1, none⟩ = some (.int .u16 x1) := (hs.cell hbm).trans Q1.out
                    have q2 : wr.cell? ⟨bm, om + i * 3 + 2, none⟩ = some (.int .u16 x2) := (hs.cell hbm).trans Q2.out
                    have hA : x0 % zs.length < zs.length := Nat.mod_lt _ kp
                    have hB : x1 % zs.length < zs.length := Nat.mod_lt _ kp
                    have hab : x0 % zs.length < B.length := by rw [HBL.out]; exact hA
                    obtain ⟨g2, cp, e, hg, hcB, hfr⟩ := (hs.ints 1 rfl).get (x0 % zs.length) hab
                    injection e with e1 e2 e3
                    clear e2 e3
                    injection e1 with e1
                    injection e1 with e1
                    subst e1
                    have y0 := hcB _ hab
                    obtain ⟨ny0, ny1⟩ := HNE.out.at hab
                    obtain ⟨y, hy⟩ : ∃ y, y = B.getD (x0 % zs.length) 0 := ⟨_, rfl⟩
                    rw [← hy] at y0 ny0 ny1
                    have HY := Lib.hid hy
                    clear hcB hy
                    go_wp2_with fail
                    refine Mix.region [0, 0, 0, 0, 0, 0, 0, 0, 0, 0, 0, 0, 2] (fun _ => True) (by kernel_rfl) (by kernel_rfl) trivial ?_
                    simp only [List.zip_cons_cons, List.zip_nil_right]
                    iterate 12 (refine Mix.step0 fun K hK => ?_; go_simp; (try (go_bits; try go_simp)); first | ((with_reducible refine hK _ _ ?_); clear hK K) | ((try (simp only [IntWalk.iteOmega]; try go_simp)); (try go_bits); (with_reducible refine hK _ _ ?_); clear hK K))
                    refine Mix.step2n (by first | rfl | simp [Region.wanted, yielded]) fun K hK => ?_
                    go_wp2_with fail
                    generalize hW : World.drew _ = wB
                    have hsB : Sep w wB [intsT .i64 2 (.slice (some ⟨g', 0, none⟩) zs.length zs.length) (List.replicate zs.length 0), intsT .i64 2 (.slice (some ⟨g, 0, none⟩) zs.length zs.length) (B.set (x0 % zs.length) (y - x2)), intsT .i64 2 (.slice a5 zs.length c5) zs] := by rw [← hW]; exact (hs.setInts 1 rfl _).drew
                    clear hW hfr y0
                    refine Mix.post_mk (C := (fun _ => True)) trivial (hK _ _ ?_)
                    clear hK K
                    refine Mix.done ?_
                    obtain ⟨C, hC⟩ : ∃ C, C = B.set (x0 % zs.length) (y - x2) := ⟨_, rfl⟩
                    rw [← hC] at hsB
                    have hcl : C.length = zs.length := by rw [hC, List.length_set, HBL.out]
                    have hcs : C.sum = -(x2 : Int) := by rw [hC, sum_set hab, HBS.out, ← HY.out]; omega
                    have hcn : ∀ x ∈ C, -((i : Int) * 65535) - 65535 ≤ x ∧ x ≤ i * 65535 := by
                      intro x hx
                      rw [hC] at hx
                      rcases List.mem_or_eq_of_mem_set hx with h | h
                      · have := HNE.out x h; omega
                      · rw [h]; omega
                    have HCL := Lib.hid hcl
                    have HCS := Lib.hid hcs
                    have HCN := Lib.hid hcn
                    clear hC hcl hcs hcn hs q0 q1 q2 hg
                    have q0 : wB.cell? ⟨bm, om + i * 3, none⟩ = some (.int .u16 x0) := (hsB.cell hbm).trans Q0.out
                    have q1 : wB.cell? ⟨bm, om + i * 3 + 1, none⟩ = some (.int .u16 x1) := (hsB.cell hbm).trans Q1.out
                    have q2 : wB.cell? ⟨bm, om + i * 3 + 2, none⟩ = some (.int .u16 x2) := (hsB.cell hbm).trans Q2.out
                    have hbb : x1 % zs.length < C.length := by rw [HCL.out]; exact hB
                    obtain ⟨g2, cp, e, hg, hcB, hfr⟩ := (hsB.ints 1 rfl).get (x1 % zs.length) hbb
                    injection e with e1 e2 e3
                    clear e2 e3
                    injection e1 with e1
                    injection e1 with e1
                    subst e1
                    have y0 := hcB _ hbb
                    obtain ⟨my0, my1⟩ := HCN.out _ (getD_mem hbb)
                    obtain ⟨y', hy'⟩ : ∃ y, y = C.getD (x1 % zs.length) 0 := ⟨_, rfl⟩
                    rw [← hy'] at y0 my0 my1
                    have HY' := Lib.hid hy'
                    clear hcB hy'
                    go_wp2_with fail
                    refine Mix.region [0, 0, 0, 0, 0, 0, 0, 0, 0, 0, 0, 0, 2] (fun _ => True) (by kernel_rfl) (by kernel_rfl) trivial ?_
                    simp only [List.zip_cons_cons, List.zip_nil_right]
                    iterate 12 (refine Mix.step0 fun K hK => ?_; go_simp; (try (go_bits; try go_simp)); first | ((with_reducible refine hK _ _ ?_); clear hK K) | ((try (simp only [IntWalk.iteOmega]; try go_simp)); (try go_bits); (with_reducible refine hK _ _ ?_); clear hK K))
                    refine Mix.step2n (by first | rfl | simp [Region.wanted, yielded]) fun K hK => ?_
                    go_wp2_with fail
                    generalize hW : World.drew _ = wC
                    have hsC : Sep w wC [intsT .i64 2 (.slice (some ⟨g', 0, none⟩) zs.length zs.length) (List.replicate zs.length 0), intsT .i64 2 (.slice (some ⟨g, 0, none⟩) zs.length zs.length) (C.set (x1 % zs.length) (y' + x2)), intsT .i64 2 (.slice a5 zs.length c5) zs] := by rw [← hW]; exact (hsB.setInts 1 rfl _).drew
                    clear hW hfr y0
                    refine Mix.post_mk (C := (fun _ => True)) trivial (hK _ _ ?_)
                    clear hK K
                    refine Mix.done ?_
                    clear hsB q0 q1 q2 hg
                    go_wp2_with fail
                    refine Round.intro (len1 - (i + 1)) ?measure4 (by kernel_rfl) (hJ2 _ _ _ ?rel4)
                    case' rel4 => (try dsimp only [nthV])
                    case measure4 => omega
                    case rel4 =>
                      refine ⟨i + 1, C.set (x1 % zs.length) (y' + x2), by go_num, hlt, rfl, by rw [List.length_set, HCL.out], by rw [sum_set hbb, HCS.out, ← HY'.out]; omega, ?_, hsC⟩
                      intro x hx
                      rcases List.mem_or_eq_of_mem_set hx with h | h
                      · have := HCN.out x h; omega
                      · rw [h]; omega
                  · obtain rfl : i = len1 := by omega
                    have hn : Near 6553500 B := fun x hx => by have := HNE.out x hx; omega
                    have hlz : zs.length = B.length := HBL.out.symm
                    have HLZ := Lib.hid hlz
                    have HNN := Lib.hid hn
                    have HAL := Lib.hid (adds_length hlz)
                    clear hn hlz HNE hi hlt
                    go_wp2_with fail
                    have hs0 : Sep w wr [intsT .i64 2 (.slice (some ⟨g', 0, none⟩) zs.length zs.length) (((B.map (- ·)).take 0) ++ List.replicate (zs.length - 0) 0), intsT .i64 2 (.slice (some ⟨g, 0, none⟩) zs.length zs.length) B, intsT .i64 2 (.slice a5 zs.length c5) zs] := hs
                    refine wp_loopM [none, none, none, none, none, none, none, none, none, none, none, none, none, some 13, some 14, none, none, none, none, none, none, none, none, none, none, none, none, none, none, none, none, none, none, none, none, none, none, none, none, none, none, none, none, none, none, none, none, none, none, none, none, none, none, none, none, none, none, none, none, none, none, none, none, none, none, none, none, none, none, none, none, none, none, none, none, none, none, none, none, none, none, none, none, none, none, none, none, none, none, none, none, none, none, none, none, none, none, none, none, none, none, none, none, none, none, none, none, none, none, some 109, some 110, some 111, some 112, some 113, some 114, some 115, some 116, some 117, some 118, some 119, some 120, some 121, some 122, some 123, some 124, some 125, some 126, some 127, some 128, some 129, some 130, some 131, some 132, some 133, some 134, some 135, none, none, none, none, none, none, none, none, none, none, none, none, none, none, none, none, none, none, none, none, none, none, none, none, none, none, none, none, none, none, none, none, none, none, none, none, none, none, none, none, none, none, none, none, none, none, none, none, none, none, none, none, none, none, none, none, none, none, none, none, none, none, none, none, none, none, none, none, none, none, none, none, none, none] (fun (n : Nat) (f : Nat → Value) (wr : World) => (fun (v sh : Value) => ∃ i : Nat, v = .int .i64 i ∧ sh = .bool (lowB ((adds zs B).take i)) ∧ i ≤ zs.length ∧ n = zs.length - i ∧ Sep w wr [intsT .i64 2 (.slice (some ⟨g', 0, none⟩) zs.length zs.length) (((B.map (- ·)).take i) ++ List.replicate (zs.length - i) 0), intsT .i64 2 (.slice (some ⟨g, 0, none⟩) zs.length zs.length) B, intsT .i64 2 (.slice a5 zs.length c5) zs]) (f 14) (f 13)) (zs.length) (by kernel_rfl) ?atStart5 ?round5
                    case' atStart5 => (try dsimp only [nthV])
                    case' round5 =>
                      intro gk f wr l hl hrel J3 K3 hJ3 hK3
                      (try simp only [mask] at hl)
                      generalize f 14 = u14 at hl hrel
                      generalize f 13 = u13 at hl hrel
                      subst hl
                      (try dsimp only at hrel)
                    case atStart5 => exact ⟨0, rfl, rfl, Nat.zero_le _, rfl, hs0⟩
                    case round5 =>
                      clear hs hs0
                      obtain ⟨j, rfl, rfl, hj, rfl, hs⟩ := hrel
                      by_cases hlt : j < zs.length
                      · have hjb : j < B.length := by rw [HBL.out]; exact hlt
                        have hja : j < (adds zs B).length := by rw [HAL.out]; exact hlt
                        obtain ⟨bx, ox, e5, hbx, hcx⟩ := (hs.rdInts 2 rfl).at j hlt
                        subst e5
                        obtain ⟨g2, cp, e, hg, hcB, _⟩ := (hs.ints 1 rfl).get j hjb
                        injection e with e1 e2 e3
                        clear e2 e3
                        injection e1 with e1
                        injection e1 with e1
                        subst e1
                        have hkl : ((B.map (- ·)).take j ++ List.replicate (zs.length - j) 0).length = zs.length := by simp; rw [HBL.out]; omega
                        obtain ⟨g3, cp', e, hg', hcK, hfr⟩ := (hs.ints 0 rfl).get j (by rw [hkl]; exact hlt)
                        injection e with e1 e2 e3
                        clear e2 e3
                        injection e1 with e1
                        injection e1 with e1
                        subst e1
                        have y0 := hcB j hjb
                        have k0 := hcK j (by rw [hkl]; exact hlt)
                        obtain ⟨hx0, hx1⟩ := H32.out _ (getD_mem hlt)
                        obtain ⟨hy0, hy1⟩ := HNN.out.at hjb
                        have HLS := Lib.hid (lowB_step hja)
                        rw [adds_getD hlt hjb] at HLS
                        have hbk := back_step (l := B.map (- ·)) (n := zs.length) (i := j) (by rw [List.length_map, HBL.out]) hlt
                        rw [show (B.map (- ·)).getD j 0 = -(B.getD j 0) by simp [hjb]] at hbk
                        obtain ⟨x, hx⟩ : ∃ x, x = zs.getD j 0 := ⟨_, rfl⟩
                        obtain ⟨y, hy⟩ : ∃ x, x = B.getD j 0 := ⟨_, rfl⟩
                        obtain ⟨kk, hk⟩ : ∃ x, x = ((B.map (- ·)).take j ++ List.replicate (zs.length - j) 0).getD j 0 := ⟨_, rfl⟩
                        rw [← hx] at hcx hx0 hx1 HLS
                        rw [← hy] at y0 hy0 hy1 HLS hbk
                        rw [← hk] at k0
                        have hfin : ∀ W : World, Sep w W ([intsT .i64 2 (.slice (some ⟨g', 0, none⟩) zs.length zs.length) (((B.map (- ·)).take j) ++ List.replicate (zs.length - j) 0), intsT .i64 2 (.slice (some ⟨g, 0, none⟩) zs.length zs.length) B, intsT .i64 2 (.slice (some ⟨bx, ox, none⟩) zs.length c5) zs].set 0 (intsT .i64 2 (.slice (some ⟨g', 0, none⟩) zs.length zs.length) ((((B.map (- ·)).take j) ++ List.replicate (zs.length - j) 0).set j (-y)))) →
                            Sep w W [intsT .i64 2 (.slice (some ⟨g', 0, none⟩) zs.length zs.length) (((B.map (- ·)).take (j + 1)) ++ List.replicate (zs.length - (j + 1)) 0), intsT .i64 2 (.slice (some ⟨g, 0, none⟩) zs.length zs.length) B, intsT .i64 2 (.slice (some ⟨bx, ox, none⟩) zs.length c5) zs] := by
                          intro W hW
                          rw [hbk] at hW
                          exact hW
                        have HFIN := Lib.hid hfin
                        clear hfin hcB hcK hkl hx hy hk hbk
                        cases hlb : lowB ((adds zs B).take j)
                        · rw [hlb, Bool.false_or] at HLS
                          clear hlb
                          go_wp2_with fail
                          refine Mix.region [0, 0, 0, 0, 0, 0, 0, 0, 0, 0, 0, 0, 0, 0] (fun _ => True) (by kernel_rfl) (by kernel_rfl) trivial ?_
                          simp only [List.zip_cons_cons, List.zip_nil_right]
                          iterate 2 (refine Mix.step0 fun K hK => ?_; go_simp; (try (go_bits; try go_simp)); first | ((with_reducible refine hK _ _ ?_); clear hK K) | ((try (simp only [IntWalk.iteOmega]; try go_simp)); (try go_bits); (with_reducible refine hK _ _ ?_); clear hK K))
                          iterate 10 (first | (refine Mix.stepS rfl fun K hK => ?_; go_simp; (with_reducible refine hK _ _ ?_); clear hK K) | (refine Mix.step0 fun K hK => ?_; go_simp; (try (go_bits; try go_simp)); first | ((with_reducible refine hK _ _ ?_); clear hK K) | ((try (simp only [IntWalk.iteOmega]; try go_simp)); (try go_bits); (with_reducible refine hK _ _ ?_); clear hK K)))
                          iterate 2 (refine Mix.step0 fun K hK => ?_; go_simp; (try (go_bits; try go_simp)); first | ((with_reducible refine hK _ _ ?_); clear hK K) | ((try (simp only [IntWalk.iteOmega]; try go_simp)); (try go_bits); (with_reducible refine hK _ _ ?_); clear hK K))
                          refine Mix.done ?_
                          go_wp2_with fail
                          refine Round.intro (zs.length - (j + 1)) ?measure6 (by kernel_rfl) (hJ3 _ _ _ ?rel6)
                          case' rel6 => (try dsimp only [nthV])
                          case measure6 => omega
                          case rel6 =>
                            refine ⟨j + 1, by go_num, by rw [HLS.out], hlt, rfl, ?_⟩
                            first
                              | exact HFIN.out _ (by exact (hs.setInts 0 rfl _).drew)
                              | exact HFIN.out _ (by exact (hs.drew.setInts 0 rfl _))
                        · rw [hlb, Bool.true_or] at HLS
                          clear hlb
                          go_wp2_with fail
                          refine Mix.region [0, 0, 0, 0, 0, 0, 0, 0, 0, 0, 0, 0, 0, 0] (fun _ => True) (by kernel_rfl) (by kernel_rfl) trivial ?_
                          simp only [List.zip_cons_cons, List.zip_nil_right]
                          iterate 2 (refine Mix.step0 fun K hK => ?_; go_simp; (try (go_bits; try go_simp)); first | ((with_reducible refine hK _ _ ?_); clear hK K) | ((try (simp only [IntWalk.iteOmega]; try go_simp)); (try go_bits); (with_reducible refine hK _ _ ?_); clear hK K))
                          iterate 10 (first | (refine Mix.stepS rfl fun K hK => ?_; go_simp; (with_reducible refine hK _ _ ?_); clear hK K) | (refine Mix.step0 fun K hK => ?_; go_simp; (try (go_bits; try go_simp)); first | ((with_reducible refine hK _ _ ?_); clear hK K) | ((try (simp only [IntWalk.iteOmega]; try go_simp)); (try go_bits); (with_reducible refine hK _ _ ?_); clear hK K)))
                          iterate 2 (refine Mix.step0 fun K hK => ?_; go_simp; (try (go_bits; try go_simp)); first | ((with_reducible refine hK _ _ ?_); clear hK K) | ((try (simp only [IntWalk.iteOmega]; try go_simp)); (try go_bits); (with_reducible refine hK _ _ ?_); clear hK K))
                          refine Mix.done ?_
                          go_wp2_with fail
                          refine Round.intro (zs.length - (j + 1)) ?measure7 (by kernel_rfl) (hJ3 _ _ _ ?rel7)
                          case' rel7 => (try dsimp only [nthV])
                          case measure7 => omega
                          case rel7 =>
                            refine ⟨j + 1, by go_num, by rw [HLS.out], hlt, rfl, ?_⟩
                            first
                              | exact HFIN.out _ (by exact (hs.setInts 0 rfl _).drew)
                              | exact HFIN.out _ (by exact (hs.drew.setInts 0 rfl _))
                      · obtain rfl : j = zs.length := by omega
                        have hsB : Sep w wr [intsT .i64 2 (.slice (some ⟨g', 0, none⟩) zs.length zs.length) (B.map (- ·)), intsT .i64 2 (.slice (some ⟨g, 0, none⟩) zs.length zs.length) B, intsT .i64 2 (.slice a5 zs.length c5) zs] := by
                          have h := hs
                          rw [Nat.sub_self, List.replicate_zero, List.append_nil, List.take_of_length_le (by rw [List.length_map, HBL.out]; exact Nat.le_refl _)] at h
                          exact h
                        rw [List.take_of_length_le (by rw [HAL.out]; exact Nat.le_refl _)]
                        clear hs hj hlt
                        go_wp2_with fail
                        refine (shift_any _ _ zs B _ (hsB.rdInts 2 rfl) (hsB.rdInts 1 rfl) (by omega)).mono ?_
                        rintro e w4 ⟨u, rfl, hs4'⟩
                        have hs4 := hsB.join hs4'
                        clear hsB hs4'
                        (try simp only [List.cons_append, List.nil_append] at hs4)
                        cases hlb : lowB (adds zs B)
                        · obtain ⟨l1, l2, l3⟩ := level_ok HLZ.out H32.out HNN.out HBS.out hlb
                          have hbk := shift_back l1
                          rw [l1]
                          rw [l2] at hs4
                          obtain ⟨au, cu, hu⟩ := (hs4.rdInts 0 rfl).shape
                          subst hu
                          rw [HAL.out] at hs4 ⊢
                          have HBK := Lib.hid hbk
                          have HM := Lib.hid l3
                          clear hbk l1 l2 l3 hlb
                          go_wp2_with fail
                          refine (shift_any _ _ (adds zs B) (B.map (- ·)) _ (hs4.rdInts 0 rfl) (hs4.rdInts 1 rfl) (by rw [HAL.out]; omega)).mono ?_
                          rintro e w5 ⟨u2, rfl, hs5'⟩
                          rw [HBK.out.1]
                          rw [HBK.out.2] at hs5'
                          have hs5 := hs4.join hs5'
                          clear hs4 hs5'
                          (try simp only [List.cons_append, List.nil_append] at hs5)
                          obtain ⟨a6, c6, hu⟩ := (hs5.rdInts 0 rfl).shape
                          subst hu
                          go_wp2_with fail
                          refine wp_loopM [none, none, none, none, some 4, none, some 6, none, none, none, none, none, none, none, none, none, none, none, none, some 19, none, none, none, none, none, none, none, none, none, none, none, none, none, none, none, none, none, none, none, none, none, none, none, none, none, none, none, none, none, none, none, none, none, none, none, none, none, none, none, none, none, none, none, none, none, none, none, none, none, none, none, none, none, none, none, none, none, none, none, none, none, none, none, none, none, none, none, none, none, none, none, none, none, none, none, none, none, none, none, none, none, none, none, none, none, none, none, none, none, none, none, none, none, none, none, none, none, none, none, none, none, none, none, none, none, none, none, none, none, none, none, none, none, none, none, none, none, none, none, none, none, none, none, none, none, none, none, none, none, none, none, none, none, none, none, none, none, none, none, none, none, none, none, none, none, none, none, none, none, none, none, none, none, none, none, none, none, some 177, some 178, some 179, some 180, some 181, some 182, some 183, some 184, some 185, some 186, some 187, some 188, some 189, some 190, some 191, some 192, some 193, some 194, some 195, some 196, some 197, some 198, some 199, some 200, some 201, some 202, some 203, some 204, none, none, none, none, none] (fun (n : Nat) (f : Nat → Value) (wr : World) => (fun (v s : Value) => ∃ i : Nat, v = .int .i64 i ∧ s = .int .i64 (zs.sum - ((adds zs B).take i).sum) ∧ i ≤ zs.length ∧ n = zs.length - i ∧ Sep w wr [intsT .i64 2 (.slice a6 zs.length c6) zs, intsT .i64 2 (.slice au zs.length cu) (adds zs B), intsT .i64 2 (.slice (some ⟨g', 0, none⟩) zs.length zs.length) (B.map (- ·)), intsT .i64 2 (.slice (some ⟨g, 0, none⟩) zs.length zs.length) B, intsT .i64 2 (.slice a5 zs.length c5) zs]) (f 19) (f 6)) (zs.length) (by kernel_rfl) ?atStart8 ?round8
                          case' atStart8 => (try dsimp only [nthV])
                          case' round8 =>
                            intro gk f wr l hl hrel J4 K4 hJ4 hK4
                            (try simp only [mask] at hl)
                            generalize f 19 = u19 at hl hrel
                            generalize f 6 = u6 at hl hrel
                            subst hl
                            (try dsimp only at hrel)
                          case atStart8 => exact ⟨0, by simp, by simp, Nat.zero_le _, rfl, hs5⟩
                          case round8 =>
                            clear hs5
                            obtain ⟨j, rfl, rfl, hj, rfl, hs⟩ := hrel
                            by_cases hlt : j < zs.length
                            · have hja : j < (adds zs B).length := by rw [HAL.out]; exact hlt
                              obtain ⟨b1, o1, e1, hb1, hc1⟩ := (hs.rdInts 0 rfl).at j hlt
                              obtain ⟨b2, o2, e2, hb2, hc2⟩ := (hs.rdInts 1 rfl).at j hja
                              obtain ⟨b3, o3, e3, hb3, hc3⟩ := (hs.rdInts 4 rfl).at j hlt
                              subst e1; subst e2; subst e3
                              obtain ⟨p0, p1⟩ := mays_at HM.out hja
                              have HSS := Lib.hid (sum_step hja)
                              obtain ⟨t0, t1⟩ := sum_take_bound ((mays_iff _).1 HM.out) j (by rw [HAL.out]; exact hj)
                              generalize (adds zs B).getD j 0 = pp at *
                              generalize ((adds zs B).take j).sum = ss at *
                              generalize zs.getD j 0 = xx at *
                              have hd : decide (pp < 0) = false := by simp; omega
                              go_wp2_with fail
                              refine Mix.region [0, 0, 0, 0, 0, 0, 0, 0, 0, 0, 0, 0, 0, 0, 0, 0] (fun _ => True) (by kernel_rfl) (by kernel_rfl) trivial ?_
                              simp only [List.zip_cons_cons, List.zip_nil_right]
                              iterate 6 (refine Mix.step0 fun K hK => ?_; go_simp; (try (go_bits; try go_simp)); first | ((with_reducible refine hK _ _ ?_); clear hK K) | ((try (simp only [IntWalk.iteOmega]; try go_simp)); (try go_bits); (with_reducible refine hK _ _ ?_); clear hK K))
                              iterate 9 (first | (refine Mix.stepS rfl fun K hK => ?_; go_simp; (with_reducible refine hK _ _ ?_); clear hK K) | (refine Mix.step0 fun K hK => ?_; go_simp; (try (go_bits; try go_simp)); first | ((with_reducible refine hK _ _ ?_); clear hK K) | ((try (simp only [IntWalk.iteOmega]; try go_simp)); (try go_bits); (with_reducible refine hK _ _ ?_); clear hK K)))
                              iterate 1 (refine Mix.step0 fun K hK => ?_; go_simp; (try (go_bits; try go_simp)); first | ((with_reducible refine hK _ _ ?_); clear hK K) | ((try (simp only [IntWalk.iteOmega]; try go_simp)); (try go_bits); (with_reducible refine hK _ _ ?_); clear hK K))
                              refine Mix.done ?_
                              go_wp2_with fail
                              refine Round.intro (zs.length - (j + 1)) ?measure9 (by kernel_rfl) (hJ4 _ _ _ ?rel9)
                              case' rel9 => (try dsimp only [nthV])
                              case measure9 => omega
                              case rel9 => exact ⟨j + 1, by go_num, by rw [HSS.out]; congr 1; omega, hlt, rfl, hs.drew⟩
                            · obtain rfl : j = zs.length := by omega
                              have hz : zs.sum - ((adds zs B).take zs.length).sum = 0 := by
                                rw [List.take_of_length_le (by rw [HAL.out]; exact Nat.le_refl _), sum_adds HLZ.out, HBS.out]; omega
                              rw [hz]
                              clear hz
                              go_wp2_with fail
                              refine (works_any _).mono ?_
                              rintro e w7 ⟨rfl, hb⟩
                              go_wp2_with fail
                              go_ret
                              exact ⟨rfl, (hs.belowStep hb).below⟩
                        · obtain ⟨l1, l2⟩ := level_low HLZ.out H32.out HNN.out HBS.out hlb
                          rw [l2]
                          rw [l1] at hs4
                          obtain ⟨au, cu, hu⟩ := (hs4.rdInts 0 rfl).shape
                          subst hu
                          simp only [List.length_nil] at hs4 ⊢
                          clear l1 l2 hlb
                          go_wp2_with fail
                          refine (works_any _).mono ?_
                          rintro e w7 ⟨rfl, hb⟩
                          go_wp2_with fail
                          go_ret
                          exact ⟨rfl, (hs4.belowStep hb).below⟩

theorem moneyLevel_any (a0 : Option Addr) (len0 cap0 : Nat) (z0 : List Int) (a1 : Option Addr) (len1 cap1 : Nat) (z1 : Nat → Nat → Int) (w : World) (h0 : IsRow .u32 w a0 len0 cap0 z0) (h1 : IsRec [.u16, .u16, .u16] w a1 len1 cap1 z1) :
    Calls Try.prog 4 #[.slice a0 len0 cap0, .slice a1 len1 cap1] w fun e w' => e = .returned (.bool true) ∧ Below w.heap.size w w' :=
  moneyLevel_rd _ _ h0.rd.2 _ _ _ _ _ h0.rd.1 h1
end Go.Proofs.Ytjhhjaehpobglaa
