/-
  The reference of offset: Table, walked.
-/
import Derived.Test.YtjijhpflkkicaaaOW5
set_option linter.unusedVariables false
set_option linter.unusedSimpArgs false
namespace Go.Proofs.Ytjijhpflkkicaaa
open Go Go.RowKit Go.Mem Go.MoneyP Go.NetP Go.BuildP Go.OffP Go.Shelf
set_option maxRecDepth 100000 in
set_option maxHeartbeats 4000000 in
theorem rtable_any (n : Int) (l : List Du) (vl : Value) (w : World) (h : RdG duR w vl l) :
    Calls Try.prog 9 #[.int .i64 n, vl] w fun en w' => TableD n l w en w' := by
  obtain ⟨i0, hi0, hz0, hz1, hz2⟩ := info_parts Try.infoI64o
  obtain ⟨j0, hj0, hy0, hy1, hy2⟩ := info_parts Try.infoRowo
  have HNT := Lib.hid (rnets_any n l vl w h)
  obtain ⟨al, cl, rfl⟩ := h.shape
  go_enter Try.func9, Try.ntmps9
  go_wp2_with fail
  refine HNT.out.mono ?_
  clear HNT
  rintro en w1 (⟨hne, rfl, hb⟩ | ⟨he, v, rfl, k1⟩)
  · have hs := (Sep.start w).belowStep hb
    clear hb
    have HNE := Lib.hid hne
    have d0 : (netsE n l != 0) = true := by simpa using hne
    obtain ⟨EE, hEE⟩ : ∃ EE, EE = netsE n l := ⟨_, rfl⟩
    rw [← hEE] at d0 ⊢
    have HEE := Lib.hid hEE
    clear hne hEE
    go_wp2_with fail
    (repeat rw [Exit.noGoto_ret])
    go_ret2
    exact .inl ⟨HNE.out, by rw [HEE.out]; rfl, hs.below⟩
  · have HE := Lib.hid he
    obtain ⟨N, rfl, hgood⟩ := netsE_good he
    have hs := (Sep.start w).belowStep k1.below
    have hN16 := hgood.n16
    have hl64 := hgood.len
    have HG0 := Lib.hid hgood
    clear he hgood k1
    go_wp2_with fail
    refine wp_loopM [none, none, none, none, none, none, none, none, some 8, some 9, some 10, some 11, none, none, none, none, none, none, none, none, none, some 21, some 22, some 23, some 24, some 25, some 26, some 27, some 28, some 29, some 30, some 31, some 32, some 33, some 34, some 35, some 36, some 37, some 38, some 39, some 40, some 41, some 42, some 43, some 44, some 45, some 46, some 47, some 48, some 49, some 50, some 51, some 52, some 53, some 54, some 55, some 56, some 57, some 58, some 59, some 60, some 61, some 62, some 63, some 64, some 65, some 66, some 67, none] (fun (r : Nat) (f : Nat → Value) (wr : World) => (fun (v vo : Value) => ∃ (i : Nat) (ao : Option Addr) (co : Nat) (G : List (Sl × List Int)), v = .int .i64 i ∧ vo = .slice ao i co ∧ i ≤ N ∧ r = N - i ∧ Hid (G.length = i ∧ G.map (·.2) = (List.range i).map (owesRow N (openL l))) ∧ Sep w wr ([recT slR 23 (.slice ao i co) (G.map (·.1))] ++ gridL .i64 2 G)) (f 9) (f 8)) (N) (by kernel_rfl) ?atStart1 ?round1
    case' atStart1 => (try dsimp only [nthV])
    case' round1 =>
      intro gk f wr l hl hrel J1 K1 hJ1 hK1
      (try simp only [mask] at hl)
      generalize f 9 = u9 at hl hrel
      generalize f 8 = u8 at hl hrel
      subst hl
      (try dsimp only at hrel)
    case atStart1 => exact ⟨0, none, 0, [], rfl, rfl, Nat.zero_le _, rfl, Lib.hid ⟨rfl, rfl⟩, hs.nilRecs slR _⟩
    case round1 =>
      clear hs
      obtain ⟨i, ao, co, G, rfl, rfl, hi, rfl, HG, hs⟩ := hrel
      by_cases hlt : i < N
      · have hiI : (i : Int) < N := by omega
        have HIS := Lib.hid (rowR_is (n := N) (a := i) (l := l) fun d hd => ⟨HG0.out.may d hd, (HG0.out.inn d hd).2⟩)
        have HBD := Lib.hid (rowR_bound HG0.out i)
        have HGL := Lib.hid (show (G.map (·.1)).length = i by rw [List.length_map]; exact HG.out.1)
        go_wp2_with (at_make; refine wpList_makeInts rfl (.tmp 26) (.tmp 26) 23 rfl 2 i0 .i64 8 Try.underlying23 hi0 hz0 hz1 hz2 N .i64 .i64 rfl rfl hs ?m1 ?m2 ?m3)
        case m1 => unfold maxLen; omega
        case m2 => omega
        case m3 =>
          intro w3 g hs3
          clear hs
          go_wp2_with fail
          refine wp_loopM [none, none, none, none, none, none, none, none, none, none, none, some 11, none, none, none, none, none, none, none, none, none, none, none, none, none, none, none, none, some 28, some 29, some 30, some 31, some 32, some 33, some 34, some 35, some 36, some 37, some 38, some 39, some 40, some 41, some 42, some 43, some 44, some 45, some 46, some 47, some 48, some 49, some 50, some 51, some 52, some 53, some 54, some 55, some 56, some 57, some 58, some 59, some 60, some 61, some 62, some 63, none, none, none, none, none] (fun (r : Nat) (f : Nat → Value) (wr : World) => (fun (v : Value) => ∃ (j : Nat) (Z : List Int), v = .int .i64 j ∧ j ≤ l.length ∧ r = l.length - j ∧ Hid (Z = rowR N i (l.take j)) ∧ Sep w wr (intsT .i64 2 (.slice (some ⟨g, 0, none⟩) N N) Z :: ([recT slR 23 (.slice ao i co) (G.map (·.1))] ++ gridL .i64 2 G))) (f 11)) (l.length) (by kernel_rfl) ?atStart2 ?round2
          case' atStart2 => (try dsimp only [nthV])
          case' round2 =>
            intro gk f wr l hl hrel J2 K2 hJ2 hK2
            (try simp only [mask] at hl)
            generalize f 11 = u11 at hl hrel
            subst hl
            (try dsimp only at hrel)
          case atStart2 => exact ⟨0, _, rfl, Nat.zero_le _, rfl, Lib.hid rfl, hs3⟩
          case round2 =>
            clear hs3
            obtain ⟨j, Z, rfl, hj, rfl, HZ, hs⟩ := hrel
            have HZL := Lib.hid (show Z.length = N by rw [HZ.out]; exact rowR_len _ _ _)
            by_cases hjt : j < l.length
            · have hjI : (j : Int) < l.length := by omega
              obtain ⟨b1, o1, e1, _, hc1⟩ := (hs.rdG h).at j hjt
              subst e1
              have hm := HG0.out.may _ (List.getElem_mem hjt)
              have hin := HG0.out.inn _ (List.getElem_mem hjt)
              have HST := Lib.hid (rowR_take (n := N) (a := i) hjt)
              obtain ⟨x, hx⟩ : ∃ x, x = l[j] := ⟨_, rfl⟩
              rw [← hx] at hc1 hm hin HST
              clear hx
              obtain ⟨id, f, t, x, we, u, hh⟩ := x
              have x0 := hc1 0 (by decide)
              have x1 := hc1 1 (by decide)
              have x2 := hc1 2 (by decide)
              have x3 := hc1 3 (by decide)
              have x4 := hc1 4 (by decide)
              have x5 := hc1 5 (by decide)
              have x6 := hc1 6 (by decide)
              simp only [duR, Nat.add_zero, List.getElem?_cons_zero, List.getElem?_cons_succ] at x0 x1 x2 x3 x4 x5 x6
              clear hc1
              obtain ⟨hf0, hf1, ht0, ht1, hne, hx0, hx1, _, _, _⟩ := hm
              obtain ⟨_, htn⟩ := hin
              dsimp only at hf0 hf1 ht0 ht1 hne hx0 hx1 htn
              obtain ⟨T, rfl⟩ : ∃ T : Nat, t = T := ⟨t.toNat, by omega⟩
              have hT : T < N := by omega
              obtain ⟨z0, z1⟩ := HBD.out j T
              rw [← HZ.out] at z0 z1
              by_cases hfi : f = (i : Int)
              · cases hh
                · have HST2 := Lib.hid (show Z.set T (Z.getD T 0 + x) = rowR N i (l.take (j + 1)) by
                    rw [HST.out, ← HZ.out]
                    unfold OffP.stepR
                    rw [if_pos ⟨hfi, rfl⟩]
                    rfl)
                  subst hfi
                  obtain ⟨g', cg', eg, _, hcR, rf⟩ := (hs.ints 0 rfl).get T (by rw [HZL.out]; exact hT)
                  injection eg with eg q1 q2
                  injection eg with eg
                  injection eg with eg
                  subst eg
                  have r0 := hcR T (by rw [HZL.out]; exact hT)
                  clear q1 q2 hcR
                  obtain ⟨X, hX⟩ : ∃ X, X = Z.getD T 0 := ⟨_, rfl⟩
                  rw [← hX] at r0 z0 z1 HST2
                  clear hX HST
                  go_wp2_with fail
                  refine Mix.region [0, 0, 0, 0, 0, 0, 0, 0, 0, 0, 0, 0, 0, 0, 0, 2] (fun _ => True) (by kernel_rfl) (by kernel_rfl) trivial ?_
                  simp only [List.zip_cons_cons, List.zip_nil_right]
                  iterate 15 (refine Mix.step0 fun K hK => ?_; go_simp; (try (go_bits; try go_simp)); first | ((with_reducible refine hK _ _ ?_); clear hK K) | ((try (simp only [IntWalk.iteOmega]; try go_simp)); (try go_bits); (with_reducible refine hK _ _ ?_); clear hK K))
                  refine Mix.step2n (by first | rfl | simp [Region.wanted, yielded]) fun K hK => ?_
                  go_wp2_with fail
                  refine Mix.post_mk (C := (fun _ => True)) trivial (hK _ _ ?_)
                  clear hK K
                  refine Mix.done ?_
                  have hs2 := (hs.setInts (j := T) 0 rfl (X + x)).drew
                  (try simp only [List.set_cons_zero, List.set_cons_succ] at hs2)
                  rw [HST2.out] at hs2
                  clear hs r0 rf x0 x1 x2 x3 x4 x5 x6
                  go_wp2_with fail
                  refine Round.intro (l.length - (j + 1)) ?measure3 (by kernel_rfl) (hJ2 _ _ _ ?rel3)
                  case' rel3 => (try dsimp only [nthV])
                  case measure3 => omega
                  case rel3 => exact ⟨j + 1, _, by go_num, hjt, rfl, Lib.hid rfl, hs2⟩
                · have HST2 := Lib.hid (show Z = rowR N i (l.take (j + 1)) by
                    rw [HST.out, ← HZ.out]
                    unfold OffP.stepR
                    rw [if_neg (by simp)])
                  subst hfi
                  clear HST
                  go_wp2_with fail
                  refine Round.intro (l.length - (j + 1)) ?measure4 (by kernel_rfl) (hJ2 _ _ _ ?rel4)
                  case' rel4 => (try dsimp only [nthV])
                  case measure4 => omega
                  case rel4 => exact ⟨j + 1, _, by go_num, hjt, rfl, Lib.hid HST2.out, hs⟩
              · have HST2 := Lib.hid (show Z = rowR N i (l.take (j + 1)) by
                  rw [HST.out, ← HZ.out]
                  unfold OffP.stepR
                  rw [if_neg (fun e => hfi e.1)])
                have d1 : (f == (i : Int)) = false := beq_eq_false_iff_ne.2 hfi
                clear HST
                go_wp2_with fail
                refine Round.intro (l.length - (j + 1)) ?measure5 (by kernel_rfl) (hJ2 _ _ _ ?rel5)
                case' rel5 => (try dsimp only [nthV])
                case measure5 => omega
                case rel5 => exact ⟨j + 1, _, by go_num, hjt, rfl, Lib.hid HST2.out, hs⟩
            · obtain rfl : j = l.length := by omega
              have hZ := HZ.out
              rw [List.take_length, HIS.out] at hZ
              subst hZ
              clear hjt hj HZ
              go_wp2_with (at_builtin; refine wpList_appRec slR rfl (.tmp 64) (.tmp 66) 25 rfl 23 j0 _ 24 Try.underlying25 hj0 hy0 hy1 hy2 rfl _ _ ⟨some ⟨g, 0, none⟩, N, N⟩ hs 1 rfl _ rfl rfl rfl ?c3 ?c4 ?grow)
              case c3 => rw [HG.out.1]; unfold maxLen; omega
              case c4 => rw [HG.out.1]; omega
              case grow =>
                intro v' w5 hs2 hv
                obtain ⟨g2, k2, rfl⟩ := hv.out
                rw [HG.out.1] at hs2 ⊢
                (try simp only [List.cons_append, List.nil_append, List.set_cons_zero, List.set_cons_succ] at hs2)
                clear hs hv
                go_wp2_with fail
                refine Round.intro (N - (i + 1)) ?measure6 (by kernel_rfl) (hJ1 _ _ _ ?rel6)
                case' rel6 => (try dsimp only [nthV])
                case measure6 => omega
                case rel6 =>
                  refine ⟨i + 1, _, _, G ++ [(⟨some ⟨g, 0, none⟩, N, N⟩, owesRow N (openL l) i)], by go_num, rfl, hlt, rfl, Lib.hid ⟨by rw [List.length_append, HG.out.1]; rfl, ?_⟩, ?_⟩
                  · rw [List.map_append, HG.out.2, List.range_succ, List.map_append]; rfl
                  · rw [List.map_append]
                    exact Sep.gridAdd (s := ⟨some ⟨g, 0, none⟩, N, N⟩) hs2
      · obtain rfl : N = i := by omega
        go_wp2_with fail
        (repeat rw [Exit.noGoto_ret])
        go_ret2
        refine .inr ⟨HE.out, _, rfl, G, ?_, hs⟩
        rw [HG.out.2, Int.toNat_natCast]; rfl
end Go.Proofs.Ytjijhpflkkicaaa
