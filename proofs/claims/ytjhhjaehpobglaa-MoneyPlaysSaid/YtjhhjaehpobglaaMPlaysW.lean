/-
  The law MoneyPlays, walked.
-/
import Derived.Test.YtjhhjaehpobglaaMRef2W
namespace Go.Proofs.Ytjhhjaehpobglaa
open Go Go.RowKit Go.Mem Go.MoneyP

set_option maxHeartbeats 4000000 in
set_option maxRecDepth 100000 in
theorem moneyPlays_rd (v0 v1 : Value) (zl zb : List Int) (a b : Int) (w : World) (h0 : Rd .i64 w v0 zl) (h1 : Rd .i64 w v1 zb) :
    Calls Try.prog 3 #[v0, v1, .int .i64 a, .int .i64 b] w fun e w' => e = .returned (.bool true) ∧ Below w.heap.size w w' := by
  obtain ⟨a0, c0, rfl⟩ := h0.shape
  obtain ⟨a1, c1, rfl⟩ := h1.shape
  obtain ⟨i0, hi0, hz0, hz1, hz2⟩ := info_parts Try.infoI64
  by_cases hl0 : 100 < zl.length
  · go_enter Try.func3, Try.ntmps3
    go_wp2_with fail
    refine (works_any _).mono ?_
    rintro e w1 ⟨rfl, hb⟩
    go_wp2_with fail
    go_ret
    exact ⟨rfl, hb⟩
  · have hd0 : decide (100 < (zl.length : Int)) = false := by simp; omega
    by_cases hl1 : 100 < zb.length
    · go_enter Try.func3, Try.ntmps3
      go_wp2_with fail
      refine (works_any _).mono ?_
      rintro e w1 ⟨rfl, hb⟩
      go_wp2_with fail
      go_ret
      exact ⟨rfl, hb⟩
    · have hd1 : decide (100 < (zb.length : Int)) = false := by simp; omega
      have hs0 := (Sep.start w).litInts .i64 2 [] (by simp [maxLen])
      simp only [List.map_cons, List.map_nil, List.length_cons, List.length_nil, Nat.reduceAdd, World.size_alloc] at hs0
      go_enter Try.func3, Try.ntmps3
      go_wp2_with (at_builtin; refine wpList_appRd rfl (.tmp 33) (.tmp 34) 22 rfl 2 i0 _ 8 Try.underlying22 hi0 hz0 hz1 hz2 rfl _ [] .i64 _ zl hs0 0 rfl (hs0.rd h0) rfl rfl ?c3 ?c4 ?grow)
      case c3 => simp [maxLen]; omega
      case c4 => simp; omega
      case grow =>
        intro vo w1 hs1
        (try simp only [List.set_cons_zero, List.nil_append] at hs1)
        clear hs0
        go_wp2_with fail
        refine (sum_any _ zl _ (hs1.rdInts 0 rfl)).mono ?_
        rintro e w2 ⟨rfl, rfl⟩
        go_wp2_with fail
        refine (rsum_any _ zl _ (hs1.rd h0)).mono ?_
        rintro e w2 ⟨rfl, rfl⟩
        go_wp2_with fail
        refine (less_any _ _ _).mono ?_
        rintro e w2 ⟨rfl, hb2⟩
        have hs2 := hs1.belowStep hb2
        go_wp2_with fail
        refine (rless_any _ _ _).mono ?_
        rintro e w3 ⟨rfl, rfl⟩
        have hs3 := hs2.litInts .i64 2 [] (by simp [maxLen])
        simp only [List.map_cons, List.map_nil, List.length_cons, List.length_nil, Nat.reduceAdd, World.size_alloc] at hs3
        clear hs1 hb2
        go_wp2_with (at_builtin; refine wpList_appRd rfl (.tmp 60) (.tmp 61) 22 rfl 2 i0 _ 8 Try.underlying22 hi0 hz0 hz1 hz2 rfl _ [] .i64 _ zb hs3 0 rfl (hs3.rd h1) rfl rfl ?d3 ?d4 ?grow2)
        case d3 => simp [maxLen]; omega
        case d4 => simp; omega
        case grow2 =>
          intro vb w4 hs4
          (try simp only [List.set_cons_zero, List.nil_append] at hs4)
          clear hs3 hs2
          go_wp2_with fail
          refine (shift_any _ _ zl zb _ (hs4.rdInts 1 rfl) (hs4.rdInts 0 rfl) (by omega)).mono ?_
          rintro e w5 ⟨u, rfl, hs5'⟩
          have hs5 := hs4.join hs5'
          clear hs4 hs5'
          go_wp2_with fail
          refine (rshift_any _ _ zl zb _ (hs5.rd h0) (hs5.rd h1) (by omega)).mono ?_
          rintro e w6 ⟨r, rfl, hs6'⟩
          have hs6 := hs5.join hs6'
          clear hs5 hs6'
          (try simp only [List.cons_append, List.nil_append] at hs6)
          have hru := hs6.rdInts 1 rfl
          have hrr := hs6.rdInts 0 rfl
          have hro := hs6.rdInts 3 rfl
          obtain ⟨au, cu, rfl⟩ := hru.shape
          obtain ⟨ar, cr, rfl⟩ := hrr.shape
          obtain ⟨ao, co, rfl⟩ := hro.shape
          have hsl : (shiftV zl zb).length ≤ 100 := by
            unfold shiftV
            split
            · simp [adds]; omega
            · simp
          clear hru hrr hro
          go_wp2_with fail
          refine (may_any _ _).mono ?_
          rintro e w7 ⟨rfl, rfl⟩
          go_wp2_with fail
          refine (rmay_any _ _).mono ?_
          rintro e w7 ⟨rfl, rfl⟩
          go_wp2_with fail
          refine wp_loopM [none, none, none, none, none, none, none, none, some 8, none, none, none, none, none, none, none, none, none, none, none, none, none, some 22, none, none, none, none, none, none, none, none, none, none, none, none, none, none, none, none, none, none, none, none, none, none, none, none, none, none, none, none, none, none, none, none, none, none, none, none, none, none, none, none, none, none, none, none, none, none, none, none, none, none, none, none, none, none, none, none, none, none, none, none, none, none, none, none, none, none, none, none, none, none, none, none, none, none, none, none, none, none, none, none, none, none, none, none, none, none, some 109, some 110, some 111, some 112, some 113, some 114, some 115, some 116, some 117, some 118, some 119, some 120, some 121, some 122, some 123, none, none, none, none, none, none, none, none, none, none, none, none, none, none, none, none] (fun (n : Nat) (f : Nat → Value) (wr : World) => (fun (v : Value) => ∃ i : Nat, v = .int .i64 i ∧ i ≤ (shiftV zl zb).length ∧ n = (shiftV zl zb).length - i ∧ Sep w wr [intsT .i64 2 (.slice ar (shiftV zl zb).length cr) (shiftV zl zb), intsT .i64 2 (.slice au (shiftV zl zb).length cu) (shiftV zl zb), intsT .i64 2 vb zb, intsT .i64 2 (.slice ao zl.length co) zl]) (f 22)) ((shiftV zl zb).length) (by kernel_rfl) ?atStart ?round
          case' atStart => dsimp only [nthV]
          case' round =>
            intro gk f wr l hl hrel J1 K1 hJ1 hK1
            (try simp only [mask] at hl)
            generalize f 22 = u22 at hl hrel
            subst hl
            (try dsimp only at hrel)
          case atStart => exact ⟨0, rfl, Nat.zero_le _, rfl, hs6⟩
          case round =>
            clear hs6
            obtain ⟨i, rfl, hi, rfl, hs⟩ := hrel
            by_cases hlt : i < (shiftV zl zb).length
            · obtain ⟨b1, o1, rfl, hb1, hc1⟩ := (hs.rdInts 1 rfl).at i hlt
              obtain ⟨b2, o2, rfl, hb2, hc2⟩ := (hs.rdInts 0 rfl).at i hlt
              go_wp2_with fail
              refine Mix.region [0, 0, 0, 0, 0, 0, 0, 0, 0] (fun _ => True) (by kernel_rfl) (by kernel_rfl) trivial ?_
              simp only [List.zip_cons_cons, List.zip_nil_right]
              iterate 9 (refine Mix.step0 fun K hK => ?_; go_simp; (try (go_bits; try go_simp)); first | ((with_reducible refine hK _ _ ?_); clear hK K) | ((try (simp only [IntWalk.iteOmega]; try go_simp)); (try go_bits); (with_reducible refine hK _ _ ?_); clear hK K))
              refine Mix.done ?_
              go_wp2_with fail
              refine Round.intro ((shiftV zl zb).length - (i + 1)) ?measure (by kernel_rfl) (hJ1 _ _ _ ?rel)
              case' rel => dsimp only [nthV]
              case measure => omega
              case rel => exact ⟨i + 1, by go_num, hlt, rfl, hs.drew⟩
            · go_wp2_with fail
              refine wp_loopM [none, none, none, none, none, none, none, none, some 8, none, none, none, none, none, none, none, none, none, none, none, none, none, none, some 23, none, none, none, none, none, none, none, none, none, none, none, none, none, none, none, none, none, none, none, none, none, none, none, none, none, none, none, none, none, none, none, none, none, none, none, none, none, none, none, none, none, none, none, none, none, none, none, none, none, none, none, none, none, none, none, none, none, none, none, none, none, none, none, none, none, none, none, none, none, none, none, none, none, none, none, none, none, none, none, none, none, none, none, none, none, none, none, none, none, none, none, none, none, none, none, none, none, none, none, none, some 124, some 125, some 126, some 127, some 128, some 129, some 130, some 131, some 132, some 133, some 134, some 135, some 136, some 137, some 138, none] (fun (n : Nat) (f : Nat → Value) (wr : World) => (fun (v : Value) => ∃ i : Nat, v = .int .i64 i ∧ i ≤ zl.length ∧ n = zl.length - i ∧ Sep w wr [intsT .i64 2 (.slice ar (shiftV zl zb).length cr) (shiftV zl zb), intsT .i64 2 (.slice au (shiftV zl zb).length cu) (shiftV zl zb), intsT .i64 2 vb zb, intsT .i64 2 (.slice ao zl.length co) zl]) (f 23)) (zl.length) (by kernel_rfl) ?atStart ?round
              case' atStart => dsimp only [nthV]
              case' round =>
                intro gk f wr l hl hrel J2 K2 hJ2 hK2
                (try simp only [mask] at hl)
                generalize f 23 = u23 at hl hrel
                subst hl
                (try dsimp only at hrel)
              case atStart => exact ⟨0, rfl, Nat.zero_le _, rfl, hs⟩
              case round =>
                clear hs hlt hi
                obtain ⟨i, rfl, hi, rfl, hs⟩ := hrel
                by_cases hlt : i < zl.length
                · obtain ⟨b1, o1, rfl, hb1, hc1⟩ := (hs.rdInts 3 rfl).at i hlt
                  obtain ⟨b2, o2, rfl, hb2, hc2⟩ := (hs.rd h0).at i hlt
                  go_wp2_with fail
                  refine Mix.region [0, 0, 0, 0, 0, 0, 0, 0, 0] (fun _ => True) (by kernel_rfl) (by kernel_rfl) trivial ?_
                  simp only [List.zip_cons_cons, List.zip_nil_right]
                  iterate 9 (refine Mix.step0 fun K hK => ?_; go_simp; (try (go_bits; try go_simp)); first | ((with_reducible refine hK _ _ ?_); clear hK K) | ((try (simp only [IntWalk.iteOmega]; try go_simp)); (try go_bits); (with_reducible refine hK _ _ ?_); clear hK K))
                  refine Mix.done ?_
                  go_wp2_with fail
                  refine Round.intro (zl.length - (i + 1)) ?measure (by kernel_rfl) (hJ2 _ _ _ ?rel)
                  case' rel => dsimp only [nthV]
                  case measure => omega
                  case rel => exact ⟨i + 1, by go_num, hlt, rfl, hs.drew⟩
                · go_wp2_with fail
                  refine (works_any _).mono ?_
                  rintro e w7 ⟨rfl, hb⟩
                  go_wp2_with fail
                  go_ret
                  exact ⟨rfl, (hs.belowStep hb).below⟩

theorem moneyPlays_any (a0 : Option Addr) (len0 cap0 : Nat) (z0 : List Int) (a1 : Option Addr) (len1 cap1 : Nat) (z1 : List Int) (a2 a3 : Int) (w : World) (h0 : IsRow .i64 w a0 len0 cap0 z0) (h1 : IsRow .i64 w a1 len1 cap1 z1) (_ : (Lit.int .i64 a2).wf = true) (_ : (Lit.int .i64 a3).wf = true) :
    Calls Try.prog 3 #[.slice a0 len0 cap0, .slice a1 len1 cap1, .int .i64 a2, .int .i64 a3] w fun e w' => e = .returned (.bool true) ∧ Below w.heap.size w w' :=
  moneyPlays_rd _ _ _ _ _ _ _ h0.rd.1 h1.rd.1
end Go.Proofs.Ytjhhjaehpobglaa
