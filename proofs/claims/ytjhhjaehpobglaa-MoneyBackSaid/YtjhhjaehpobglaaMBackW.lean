/-
  The law MoneyBack, walked.
-/
import Derived.Test.YtjhhjaehpobglaaMRef2W
import Derived.Test.YtjhhjaehpobglaaMPlain2
import Derived.Deep.DeepCutAuto
namespace Go.Proofs.Ytjhhjaehpobglaa
open Go Go.RowKit Go.Mem Go.MoneyP

set_option maxHeartbeats 800000 in
theorem same_eq (v v' : Value) (zs : List Int) (w : World) (h : Rd .i64 w v zs) (h' : Rd .i64 w v' zs) : Calls Try.prog 15 #[v, v'] w fun e w' => e = .returned (.bool true) ∧ Sep w w' [] := by
  have hle := h.le'
  obtain ⟨a, cap, rfl⟩ := h.shape
  obtain ⟨a', cap', rfl⟩ := h'.shape
  go_enter Try.func15, Try.ntmps15
  go_wp2_with fail
  refine wp_loopM [none, none, none, none, some 4, some 5, none, none, none, none, none, some 11, some 12, some 13, some 14, some 15, some 16, some 17, some 18, some 19, some 20, some 21, some 22, some 23, some 24, some 25] (fun (n : Nat) (f : Nat → Value) (wr : World) => (fun (v : Value) => ∃ i : Nat, v = .int .i64 i ∧ i ≤ zs.length ∧ n = zs.length - i ∧ Sep w wr []) (f 5)) (zs.length) (by kernel_rfl) ?atStart1 ?round1
  case' atStart1 => (try dsimp only [nthV])
  case' round1 =>
    intro gk f wr l hl hrel J1 K1 hJ1 hK1
    (try simp only [mask] at hl)
    generalize f 5 = u5 at hl hrel
    subst hl
    (try dsimp only at hrel)
  case atStart1 => exact ⟨0, rfl, Nat.zero_le _, rfl, Sep.start w⟩
  case round1 =>
    obtain ⟨i, rfl, hi, rfl, hs⟩ := hrel
    by_cases hlt : i < zs.length
    · obtain ⟨b1, o1, rfl, hb1, hc1⟩ := (hs.rd h).at i hlt
      obtain ⟨b2, o2, rfl, hb2, hc2⟩ := (hs.rd h').at i hlt
      go_wp2_with fail
      refine Mix.region [0, 0, 0, 0, 0, 0, 0, 0, 0] (fun _ => True) (by kernel_rfl) (by kernel_rfl) trivial ?_
      simp only [List.zip_cons_cons, List.zip_nil_right]
      iterate 9 (refine Mix.step0 fun K hK => ?_; go_simp; (try (go_bits; try go_simp)); first | ((with_reducible refine hK _ _ ?_); clear hK K) | ((try (simp only [IntWalk.iteOmega]; try go_simp)); (try go_bits); (with_reducible refine hK _ _ ?_); clear hK K))
      refine Mix.done ?_
      go_wp2_with fail
      refine Round.intro (zs.length - (i + 1)) ?measure2 (by kernel_rfl) (hJ1 _ _ _ ?rel2)
      case' rel2 => (try dsimp only [nthV])
      case measure2 => omega
      case rel2 => exact ⟨i + 1, by go_num, hlt, rfl, hs.drew⟩
    · go_wp2_with fail
      go_ret
      exact ⟨rfl, hs⟩

set_option maxHeartbeats 4000000 in
set_option maxRecDepth 100000 in
theorem moneyBack_rd (a b : Int) (v0 v1 v2 : Value) (zl zb zm : List Int) (w : World) (h0 : Rd .i64 w v0 zl) (h1 : Rd .i64 w v1 zb) (h2 : Rd .i64 w v2 zm) :
    Calls Try.prog 5 #[.int .i64 a, .int .i64 b, v0, v1, v2] w fun e w' => e = .returned (.bool true) ∧ Below w.heap.size w w' := by
  obtain ⟨a0, c0, rfl⟩ := h0.shape
  obtain ⟨a1, c1, rfl⟩ := h1.shape
  obtain ⟨a2, c2, rfl⟩ := h2.shape
  obtain ⟨i0, hi0, hz0, hz1, hz2⟩ := info_parts Try.infoI64
  by_cases hl : 30 < zl.length ∨ 30 < zb.length ∨ 30 < zm.length
  · have hlx : (decide (30 < (zl.length : Int)) || (decide (30 < (zb.length : Int)) || decide (30 < (zm.length : Int)))) = true := by simp; omega
    by_cases k0 : 30 < zl.length
    · go_enter Try.func5, Try.ntmps5
      go_wp2_with fail
      refine (works_any _).mono ?_
      rintro e w1 ⟨rfl, hb⟩
      go_wp2_with fail
      go_ret
      exact ⟨rfl, hb⟩
    · have d0 : decide (30 < (zl.length : Int)) = false := by simp; omega
      by_cases k1 : 30 < zb.length
      · go_enter Try.func5, Try.ntmps5
        go_wp2_with fail
        refine (works_any _).mono ?_
        rintro e w1 ⟨rfl, hb⟩
        go_wp2_with fail
        go_ret
        exact ⟨rfl, hb⟩
      · have d1 : decide (30 < (zb.length : Int)) = false := by simp; omega
        have k2 : 30 < zm.length := by omega
        go_enter Try.func5, Try.ntmps5
        go_wp2_with fail
        refine (works_any _).mono ?_
        rintro e w1 ⟨rfl, hb⟩
        go_wp2_with fail
        go_ret
        exact ⟨rfl, hb⟩
  · have d0 : decide (30 < (zl.length : Int)) = false := by simp; omega
    have d1 : decide (30 < (zb.length : Int)) = false := by simp; omega
    have d2 : decide (30 < (zm.length : Int)) = false := by simp; omega
    have k0 : zl.length ≤ 30 := by omega
    have k1 : zb.length ≤ 30 := by omega
    have k2 : zm.length ≤ 30 := by omega
    clear hl
    go_enter Try.func5, Try.ntmps5
    go_wp2_with fail
    refine (less_any _ _ _).mono ?_
    rintro e w1 ⟨rfl, hb1⟩
    have hs1 := (Sep.start w).belowStep hb1
    clear hb1
    go_upto_if 54 with fail
    refine wp_cutM [none, none, none, none, none, none, none, none, none, none, some 10, some 11, some 12, some 13, some 14, none, none, none, none, none, none, none, none, none, none, none, none, none, none, none, none, none, none, none, none, none, none, none, none, none, none, none, none, none, none, none, none, some 47, some 48, some 49, some 50, some 51, some 52, some 53, some 54, some 55, some 56, some 57, some 58, some 59, some 60, some 61, some 62, some 63, some 64, some 65, some 66, some 67, some 68, none, none, none, none, none, none, none, none, none, none, none, none, none, none, none, none, none, none, none, none, none, none, none, none, none, none, none, none, none, none, none, none, none, none, none, none, none, none, none, none, none, none, none, none, none, none, none, none, none, none, none, none, none, none, none, none, none, none, none, none, none, none, none, none, none, none, none, none, none, none, none, none, none, none, none, none, none, none, none, none, none, none, none, none, none, none, none, none, none, none, none, none, none, none, none, none, none, none, none, none, none, none, none, none, none, none, none, none, none, none, none, none, none, none, none, none, none, none, none, none, none, none, none, none, none, none, none, none, none, none, none, none, none, none] (fun (f : Nat → Value) (wr : World) => Sep w wr []) ?first3 ?rest3
    case' first3 => intro JC KC hJC hKC
    case' rest3 =>
      intro f wr l hl hrel
      (try simp only [mask] at hl)
      subst hl
      (try dsimp only at hrel)
    case first3 =>
      by_cases he : lessE a b = 0
      · have H := Lib.hid (less_sum he)
        have hs2 := hs1.litInts .i64 2 [lessV a b, b] (by simp [maxLen])
        simp only [List.map_cons, List.map_nil, List.length_cons, List.length_nil, Nat.reduceAdd, World.size_alloc] at hs2
        rw [he]
        clear he
        go_wp2_with fail
        refine (sum_any _ [lessV a b, b] _ (hs2.rdInts 0 rfl)).mono ?_
        rintro e w2 ⟨rfl, rfl⟩
        rw [H.out.1, H.out.2]
        go_wp2_with fail
        refine Meet.intro (by kernel_rfl) (hJC _ _ ?rel4)
        case' rel4 => (try dsimp only [nthV])
        exact hs2.tail
      · have he' : (lessE a b == 0) = false := by simpa using he
        clear he
        go_wp2_with fail
        refine Meet.intro (by kernel_rfl) (hJC _ _ ?rel5)
        case' rel5 => (try dsimp only [nthV])
        exact hs1
    case rest3 =>
      clear hs1
      have hs := hrel
      clear hrel
      go_wp2_with fail
      refine (sum_any _ zl _ (hs.rd h0)).mono ?_
      rintro e w2 ⟨rfl, rfl⟩
      go_wp2_with fail
      have hs1 := hs.nilInts .i64 2
      refine wp_loopM [none, none, none, none, none, none, none, none, none, none, none, none, none, none, none, none, none, some 17, some 18, none, none, none, none, none, none, none, none, none, none, none, none, none, none, none, none, none, none, none, none, none, none, none, none, none, none, none, none, none, none, none, none, none, none, none, none, none, none, none, none, none, none, none, none, none, none, none, none, none, none, none, none, none, none, none, none, none, none, some 77, some 78, some 79, some 80, some 81, some 82, some 83, some 84, some 85, some 86, some 87, none, none, none, none, none, none, none, none, none, none, none, none, none, none, none, none, none, none, none, none, none, none, none, none, none, none, none, none, none, none, none, none, none, none, none, none, none, none, none, none, none, none, none, none, none, none, none, none, none, none, none, none, none, none, none, none, none, none, none, none, none, none, none, none, none, none, none, none, none, none, none, none, none, none, none, none, none, none, none, none, none, none, none, none, none, none, none, none, none, none, none, none, none, none, none, none, none, none, none, none, none, none, none, none, none, none, none, none, none, none, none, none, none, none, none] (fun (n : Nat) (f : Nat → Value) (wr : World) => (fun (v vb : Value) => ∃ q : Nat, v = .int .i64 ((q : Int) - 1) ∧ q ≤ zl.length ∧ q = n ∧ Sep w wr [intsT .i64 2 vb (zl.drop q).reverse]) (f 18) (f 17)) (zl.length) (by kernel_rfl) ?atStart6 ?round6
      case' atStart6 => (try dsimp only [nthV])
      case' round6 =>
        intro gk f wr l hl hrel J1 K1 hJ1 hK1
        (try simp only [mask] at hl)
        generalize f 18 = u18 at hl hrel
        generalize f 17 = u17 at hl hrel
        subst hl
        (try dsimp only at hrel)
      case atStart6 => exact ⟨zl.length, rfl, Nat.le_refl _, rfl, by rw [List.drop_length]; exact hs1⟩
      case round6 =>
        clear hs hs1
        obtain ⟨q, rfl, hq, rfl, hs⟩ := hrel
        by_cases hq0 : q = 0
        · subst hq0
          rw [List.drop_zero] at hs
          have HRV := Lib.hid (sumVE_rev zl)
          go_wp2_with fail
          refine (sum_any _ zl.reverse _ (hs.rdInts 0 rfl)).mono ?_
          rintro e w3 ⟨rfl, rfl⟩
          rw [HRV.out.1, HRV.out.2]
          have hs1 := ((Sep.start w).join hs).takeN 0
          have hs2 := hs1.litInts .i64 2 [] (by simp [maxLen])
          simp only [List.map_cons, List.map_nil, List.length_cons, List.length_nil, Nat.reduceAdd, World.size_alloc] at hs2
          clear hs
          go_wp2_with (at_builtin; refine wpList_appRd rfl (.tmp 102) (.tmp 103) 22 rfl 2 i0 _ 8 Try.underlying22 hi0 hz0 hz1 hz2 rfl _ [] .i64 _ zl hs2 0 rfl (hs2.rd h0) rfl rfl ?c3 ?c4 ?grow)
          case c3 => (try simp); (try simp only [maxLen]); (try omega)
          case c4 => (try simp); (try simp only [maxLen]); (try omega)
          case grow =>
            intro vo w4 hs3
            have hs4 := hs3.litInts .i64 2 [] (by simp [maxLen])
            simp only [List.map_cons, List.map_nil, List.length_cons, List.length_nil, Nat.reduceAdd, World.size_alloc] at hs4
            (try simp only [List.set_cons_zero, List.nil_append, List.take_zero] at hs4)
            clear hs3 hs2 hs1
            go_wp2_with (at_builtin; refine wpList_appRd rfl (.tmp 105) (.tmp 106) 22 rfl 2 i0 _ 8 Try.underlying22 hi0 hz0 hz1 hz2 rfl _ [] .i64 _ zb hs4 0 rfl (hs4.rd h1) rfl rfl ?d3 ?d4 ?grow2)
            case d3 => (try simp); (try simp only [maxLen]); (try omega)
            case d4 => (try simp); (try simp only [maxLen]); (try omega)
            case grow2 =>
              intro vp w5 hs5
              (try simp only [List.set_cons_zero, List.nil_append] at hs5)
              clear hs4
              go_wp2_with fail
              refine (shift_any _ _ zl zb _ (hs5.rdInts 1 rfl) (hs5.rdInts 0 rfl) (by omega)).mono ?_
              rintro e w6 ⟨um, rfl, hs6'⟩
              have hs6 := (hs5.join hs6').takeN 1
              clear hs5 hs6'
              (try simp only [List.cons_append, List.nil_append, List.take_succ_cons, List.take_zero] at hs6)
              by_cases hE : shiftE zl zb = 0
              · obtain ⟨hf, hmm, hsv⟩ := shiftE_zero hE
                obtain ⟨hlen, _, hnb, _⟩ := (fitB_iff _ _).1 hf
                rw [hsv] at hs6
                rw [hE]
                have HE := Lib.hid hE
                have HAL := Lib.hid (adds_length hlen)
                have HLEN := Lib.hid hlen
                have HNB := Lib.hid hnb
                have HBK := Lib.hid (shift_back hE)
                clear hE hf hmm hsv hlen hnb
                go_wp2_with fail
                have hs7 := hs6.nilInts .i64 2
                refine wp_loopM [none, none, none, none, none, none, none, none, none, none, none, none, none, none, none, none, none, none, none, none, none, none, none, some 23, some 24, none, none, none, none, none, none, none, none, none, none, none, none, none, none, none, none, none, none, none, none, none, none, none, none, none, none, none, none, none, none, none, none, none, none, none, none, none, none, none, none, none, none, none, none, none, none, none, none, none, none, none, none, none, none, none, none, none, none, none, none, none, none, none, none, none, none, none, none, none, none, none, none, none, none, none, none, none, none, none, none, none, none, none, none, none, none, none, none, none, none, none, none, none, none, some 119, some 120, some 121, some 122, some 123, some 124, some 125, some 126, some 127, some 128, some 129, some 130, some 131, some 132, none, none, none, none, none, none, none, none, none, none, none, none, none, none, none, none, none, none, none, none, none, none, none, none, none, none, none, none, none, none, none, none, none, none, none, none, none, none, none, none, none, none, none, none, none, none, none, none, none, none, none, none, none, none, none, none, none, none, none, none, none, none, none, none, none, none, none, none, none, none] (fun (n : Nat) (f : Nat → Value) (wr : World) => (fun (v vl : Value) => ∃ i : Nat, v = .int .i64 i ∧ i ≤ zb.length ∧ n = zb.length - i ∧ Sep w wr [intsT .i64 2 vl ((zb.map (- ·)).take i), intsT .i64 2 um (adds zl zb)]) (f 24) (f 23)) (zb.length) (by kernel_rfl) ?atStart7 ?round7
                case' atStart7 => (try dsimp only [nthV])
                case' round7 =>
                  intro gk f wr l hl hrel J2 K2 hJ2 hK2
                  (try simp only [mask] at hl)
                  generalize f 24 = u24 at hl hrel
                  generalize f 23 = u23 at hl hrel
                  subst hl
                  (try dsimp only at hrel)
                case atStart7 => exact ⟨0, rfl, Nat.zero_le _, rfl, hs7⟩
                case round7 =>
                  clear hs6 hs7
                  obtain ⟨i, rfl, hi, rfl, hs⟩ := hrel
                  by_cases hlt : i < zb.length
                  · obtain ⟨b1, o1, rfl, hb1, hc1⟩ := (hs.rd h1).at i hlt
                    have hy := nears_at HNB.out hlt
                    have HST := Lib.hid (neg_step hlt)
                    generalize zb.getD i 0 = y at *
                    obtain ⟨hy0, hy1⟩ := hy
                    go_wp2_with (at_builtin; refine wpList_appInt rfl (.tmp 125) (.tmp 131) 22 rfl 2 i0 _ 8 Try.underlying22 hi0 hz0 hz1 hz2 rfl _ ((zb.map (- ·)).take i) .i64 (-y) hs 0 rfl rfl rfl ?e3 ?e4 ?grow3)
                    case e3 => (try simp); (try simp only [maxLen]); (try omega)
                    case e4 => (try simp); (try simp only [maxLen]); (try omega)
                    case grow3 =>
                      intro vl' w7 hs8 _
                      clear hs
                      go_wp2_with fail
                      refine Round.intro (zb.length - (i + 1)) ?measure8 (by kernel_rfl) (hJ2 _ _ _ ?rel8)
                      case' rel8 => (try dsimp only [nthV])
                      case measure8 => omega
                      case rel8 => exact ⟨i + 1, by go_num, hlt, rfl, by rw [← HST.out]; exact hs8⟩
                  · have he : i = zb.length := by omega
                    rw [List.take_of_length_le (by simp; omega)] at hs
                    clear he
                    go_wp2_with fail
                    refine (shift_any _ _ (adds zl zb) (zb.map (- ·)) _ (hs.rdInts 1 rfl) (hs.rdInts 0 rfl) (by rw [HAL.out]; omega)).mono ?_
                    rintro e w8 ⟨un, rfl, hs9'⟩
                    rw [HBK.out.1]
                    rw [HBK.out.2] at hs9'
                    have hs9 := hs.join hs9'
                    clear hs hs9'
                    go_wp2_with fail
                    refine (same_eq _ _ zl _ (hs9.rdInts 0 rfl) (hs9.rd h0)).mono ?_
                    rintro e w9 ⟨rfl, hs10'⟩
                    have hs10 := hs9.join hs10'
                    clear hs9 hs10'
                    (try simp only [List.cons_append, List.nil_append] at hs10)
                    go_wp2_with fail
                    refine (shift_any _ _ (adds zl zb) zm _ (hs10.rdInts 2 rfl) (hs10.rd h2) (by rw [HAL.out]; omega)).mono ?_
                    rintro e w10 ⟨uu, rfl, hs11'⟩
                    have hs11 := (hs10.join hs11').takeN 1
                    clear hs10 hs11'
                    (try simp only [List.cons_append, List.nil_append, List.take_succ_cons, List.take_zero] at hs11)
                    by_cases hJ : shiftE (adds zl zb) zm = 0
                    · obtain ⟨hf, _, _⟩ := shiftE_zero hJ
                      obtain ⟨hlen2, _, hnm, _⟩ := (fitB_iff _ _).1 hf
                      have hbm : zb.length = zm.length := by rw [← hlen2, HAL.out, HLEN.out]
                      rw [hJ]
                      have HJ := Lib.hid hJ
                      have HNM := Lib.hid hnm
                      have HBM := Lib.hid hbm
                      have HAB := Lib.hid (adds_length hbm)
                      clear hJ hf hlen2 hnm hbm
                      go_wp2_with fail
                      have hs12 := hs11.nilInts .i64 2
                      refine wp_loopM [none, none, none, none, none, none, none, none, none, none, some 10, none, none, none, none, none, none, none, none, none, none, none, none, none, none, none, none, none, none, some 29, some 30, none, none, none, none, none, none, none, none, none, none, none, none, none, none, none, none, none, none, none, none, none, none, none, none, none, none, none, none, none, none, none, none, none, none, none, none, none, none, none, none, none, none, none, none, none, none, none, none, none, none, none, none, none, none, none, none, none, none, none, none, none, none, none, none, none, none, none, none, none, none, none, none, none, none, none, none, none, none, none, none, none, none, none, none, none, none, none, none, none, none, none, none, none, none, none, none, none, none, none, none, none, none, none, none, none, none, none, none, none, none, none, none, none, none, none, none, none, none, none, none, none, none, none, none, none, some 156, some 157, some 158, some 159, some 160, some 161, some 162, some 163, some 164, some 165, some 166, some 167, some 168, some 169, some 170, some 171, some 172, some 173, some 174, some 175, some 176, some 177, some 178, some 179, some 180, some 181, some 182, some 183, some 184, some 185, some 186, none, none, none, none, none, none, none, none, none, none, none, none, none, none, none, none] (fun (n : Nat) (f : Nat → Value) (wr : World) => (fun (v vo : Value) => ∃ i : Nat, v = .int .i64 i ∧ i ≤ zb.length ∧ n = zb.length - i ∧ nears ((adds zb zm).take i) = true ∧ Sep w wr [intsT .i64 2 vo ((adds zb zm).take i), intsT .i64 2 uu (shiftV (adds zl zb) zm)]) (f 30) (f 29)) (zb.length) (by kernel_rfl) ?atStart9 ?round9
                      case' atStart9 => (try dsimp only [nthV])
                      case' round9 =>
                        intro gk f wr l hl hrel J3 K3 hJ3 hK3
                        (try simp only [mask] at hl)
                        generalize f 30 = u30 at hl hrel
                        generalize f 29 = u29 at hl hrel
                        subst hl
                        (try dsimp only at hrel)
                      case atStart9 => exact ⟨0, rfl, Nat.zero_le _, rfl, rfl, hs12⟩
                      case round9 =>
                        clear hs11 hs12 hi hlt
                        obtain ⟨i, rfl, hi, rfl, hnn, hs⟩ := hrel
                        have HNN := Lib.hid hnn
                        clear hnn
                        by_cases hlt : i < zb.length
                        · have hlm : i < zm.length := by rw [← HBM.out]; exact hlt
                          have hla : i < (adds zb zm).length := by rw [HAB.out]; exact hlt
                          obtain ⟨b1, o1, rfl, hb1, hc1⟩ := (hs.rd h1).at i hlt
                          obtain ⟨b2, o2, rfl, hb2, hc2⟩ := (hs.rd h2).at i hlm
                          have hy := nears_at HNB.out hlt
                          have hz := nears_at HNM.out hlm
                          have HXY := Lib.hid (adds_getD hlt hlm)
                          have HST := Lib.hid (snoc_take hla)
                          have htl : ((adds zb zm).take i).length = i := by simp; rw [HAB.out]; omega
                          have HTL := Lib.hid htl
                          clear htl
                          generalize zb.getD i 0 = y at *
                          generalize zm.getD i 0 = z at *
                          obtain ⟨hy0, hy1⟩ := hy
                          obtain ⟨hz0', hz1'⟩ := hz
                          go_wp2_with fail
                          refine Mix.region [1, 0, 0, 0, 0, 0, 0, 0, 0, 0, 2, 2, 0] (fun _ => True) (by kernel_rfl) (by kernel_rfl) trivial ?_
                          simp only [List.zip_cons_cons, List.zip_nil_right]
                          iterate 1 (refine Mix.step1 fun K hK => ?_; go_simp; (try (go_bits; try go_simp)); first | ((with_reducible refine hK _ _ ?_); clear hK K) | ((try (simp only [IntWalk.iteOmega]; try go_simp)); (try go_bits); (with_reducible refine hK _ _ ?_); clear hK K))
                          iterate 9 (refine Mix.step0 fun K hK => ?_; go_simp; (try (go_bits; try go_simp)); first | ((with_reducible refine hK _ _ ?_); clear hK K) | ((try (simp only [IntWalk.iteOmega]; try go_simp)); (try go_bits); (with_reducible refine hK _ _ ?_); clear hK K))
                          refine Mix.step2n (by first | rfl | simp [Region.wanted, yielded]) fun K hK => ?_
                          go_wp2_with fail
                          refine Mix.post_mk (C := (fun _ => True)) trivial (hK _ _ ?_)
                          clear hK K
                          refine Mix.step2n (by first | rfl | simp [Region.wanted, yielded]) fun K hK => ?_
                          have hsa := (hs.alloc (.cells #[.int .i64 (y + z)] 2)).drew
                          refine wpList_appIntB rfl (.tmp 162) (.tmp 172) 22 rfl 2 i0 _ 8 Try.underlying22 hi0 hz0 hz1 hz2 rfl u29 ((adds zb zm).take i) .i64 (y + z) hsa 0 rfl wr.heap.size (heap_alloc_new wr _) rfl rfl ?f3 ?f4 ?grow4
                          case f3 => unfold maxLen; rw [HTL.out]; omega
                          case f4 => rw [HTL.out]; omega
                          intro vo' w11 hs13 _
                          clear hs hsa
                          go_wp2_with fail
                          refine Mix.post_mk (C := (fun _ => True)) trivial (hK _ _ ?_)
                          clear hK K
                          iterate 1 (refine Mix.step0 fun K hK => ?_; go_simp; (try (go_bits; try go_simp)); first | ((with_reducible refine hK _ _ ?_); clear hK K) | ((try (simp only [IntWalk.iteOmega]; try go_simp)); (try go_bits); (with_reducible refine hK _ _ ?_); clear hK K))
                          refine Mix.done ?_
                          (try simp only [List.set_cons_zero] at hs13)
                          rw [← HXY.out, HST.out] at hs13
                          have hrv := hs13.rdInts 0 rfl
                          obtain ⟨av, cv, rfl⟩ := hrv.shape
                          have hil : i < ((adds zb zm).take (i + 1)).length := by simp; rw [HAB.out]; omega
                          obtain ⟨b3, o3, rfl, hb3, hc3⟩ := hrv.at i hil
                          have htg : ((adds zb zm).take (i + 1)).getD i 0 = y + z := by rw [← HXY.out]; simp [List.getD, List.getElem?_take]
                          rw [htg] at hc3
                          have htl1 : ((adds zb zm).take (i + 1)).length = i + 1 := by simp; rw [HAB.out]; omega
                          rw [htl1] at hs13 ⊢
                          clear hrv hil htg htl1
                          cases hny : nearB (y + z)
                          · have h5 := (nearB_no _).1 hny
                            clear hny
                            rcases h5 with h5 | h5
                            · have h6 : decide (4503599627370496 < y + z) = false := by simp; omega
                              go_wp2_with fail
                              refine (works_any _).mono ?_
                              rintro e w12 ⟨rfl, hb⟩
                              go_wp2_with fail
                              go_ret
                              exact ⟨rfl, (hs13.belowStep hb).below⟩
                            · go_wp2_with fail
                              refine (works_any _).mono ?_
                              rintro e w12 ⟨rfl, hb⟩
                              go_wp2_with fail
                              go_ret
                              exact ⟨rfl, (hs13.belowStep hb).below⟩
                          · have HNY := Lib.hid hny
                            obtain ⟨h5, h6⟩ := (nearB_iff _).1 hny
                            clear hny
                            go_wp2_with fail
                            refine Round.intro (zb.length - (i + 1)) ?measure10 (by kernel_rfl) (hJ3 _ _ _ ?rel10)
                            case' rel10 => (try dsimp only [nthV])
                            case measure10 => omega
                            case rel10 => exact ⟨i + 1, by go_num, hlt, rfl, nears_step hla HNN.out (by rw [HXY.out]; exact HNY.out), hs13⟩
                        · have htk : (adds zb zm).take i = adds zb zm := List.take_of_length_le (by rw [HAB.out]; omega)
                          have hnn := HNN.out
                          rw [htk] at hs hnn
                          have HTW := Lib.hid (shift_two HE.out HJ.out hnn)
                          clear htk hnn
                          go_wp2_with fail
                          refine (shift_any _ _ zl (adds zb zm) _ (hs.rd h0) (hs.rdInts 0 rfl) (by omega)).mono ?_
                          rintro e w12 ⟨uv, rfl, hs14'⟩
                          rw [HTW.out.1]
                          rw [HTW.out.2] at hs14'
                          have hs14 := hs.join hs14'
                          clear hs hs14'
                          go_wp2_with fail
                          refine (same_eq _ _ (shiftV (adds zl zb) zm) _ (hs14.rdInts 2 rfl) (hs14.rdInts 0 rfl)).mono ?_
                          rintro e w13 ⟨rfl, hs15'⟩
                          have hs15 := hs14.join hs15'
                          clear hs14 hs15'
                          go_wp2_with fail
                          refine (works_any _).mono ?_
                          rintro e w14 ⟨rfl, hb⟩
                          go_wp2_with fail
                          go_ret
                          exact ⟨rfl, (hs15.belowStep hb).below⟩
                    · have hJ' : (shiftE (adds zl zb) zm != 0) = true := by simpa using hJ
                      clear hJ
                      go_wp2_with fail
                      refine (works_any _).mono ?_
                      rintro e w12 ⟨rfl, hb⟩
                      go_wp2_with fail
                      go_ret
                      exact ⟨rfl, (hs11.belowStep hb).below⟩
              · have hE' : (shiftE zl zb != 0) = true := by simpa using hE
                have hr := hs6.rdInts 0 rfl
                rw [shiftE_not hE] at hr
                obtain ⟨au, cu, rfl⟩ := hr.shape
                clear hE hr
                (try simp only [List.length_nil])
                go_wp2_with fail
                refine (works_any _).mono ?_
                rintro e w12 ⟨rfl, hb⟩
                go_wp2_with fail
                go_ret
                exact ⟨rfl, (hs6.belowStep hb).below⟩
        · obtain ⟨p, rfl⟩ : ∃ p, q = p + 1 := ⟨q - 1, by omega⟩
          rw [show ((p + 1 : Nat) : Int) - 1 = (p : Int) from by omega]
          have hpl : p < zl.length := by omega
          obtain ⟨b1, o1, rfl, hb1, hc1⟩ := (hs.rd h0).at p hpl
          have HST := Lib.hid (reverse_step hpl)
          generalize zl.getD p 0 = x at *
          go_wp2_with (at_builtin; refine wpList_appInt rfl (.tmp 81) (.tmp 86) 22 rfl 2 i0 _ 8 Try.underlying22 hi0 hz0 hz1 hz2 rfl _ (zl.drop (p + 1)).reverse .i64 x hs 0 rfl rfl rfl ?g3 ?g4 ?grow5)
          case g3 => (try simp); (try simp only [maxLen]); (try omega)
          case g4 => (try simp); (try simp only [maxLen]); (try omega)
          case grow5 =>
            intro vb' w3 hs2 _
            clear hs
            go_wp2_with fail
            refine Round.intro (p) ?measure11 (by kernel_rfl) (hJ1 _ _ _ ?rel11)
            case' rel11 => (try dsimp only [nthV])
            case measure11 => omega
            case rel11 => exact ⟨p, rfl, by omega, rfl, by rw [← HST.out]; exact hs2⟩

theorem moneyBack_any (a0 a1 : Int) (a2 : Option Addr) (len2 cap2 : Nat) (z2 : List Int) (a3 : Option Addr) (len3 cap3 : Nat) (z3 : List Int) (a4 : Option Addr) (len4 cap4 : Nat) (z4 : List Int) (w : World) (_ : (Lit.int .i64 a0).wf = true) (_ : (Lit.int .i64 a1).wf = true)
    (h2 : IsRow .i64 w a2 len2 cap2 z2) (h3 : IsRow .i64 w a3 len3 cap3 z3) (h4 : IsRow .i64 w a4 len4 cap4 z4) :
    Calls Try.prog 5 #[.int .i64 a0, .int .i64 a1, .slice a2 len2 cap2, .slice a3 len3 cap3, .slice a4 len4 cap4] w fun e w' => e = .returned (.bool true) ∧ Below w.heap.size w w' :=
  moneyBack_rd _ _ _ _ _ _ _ _ _ h2.rd.1 h3.rd.1 h4.rd.1
end Go.Proofs.Ytjhhjaehpobglaa
