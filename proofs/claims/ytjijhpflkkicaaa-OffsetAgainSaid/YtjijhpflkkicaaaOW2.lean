/-
  Package cycles and its reference: Nets, walked.
-/
import Derived.Test.YtjijhpflkkicaaaOW1
import Derived.Test.YtjijhpflkkicaaaOPlain2
set_option linter.unusedVariables false
set_option linter.unusedSimpArgs false
namespace Go.Proofs.Ytjijhpflkkicaaa
open Go Go.RowKit Go.Mem Go.MoneyP Go.NetP Go.BuildP Go.OffP Go.Shelf
theorem Try.infoI64o : (Try.prog.info? 2).map (fun i => (i.zero, i.size, i.bytes)) = some (some (.int .i64 0), 1, 8) := by kernel_rfl
/-- What Nets answers. -/
def NetsD (n : Int) (l : List Du) (w : World) (en : Ending) (w' : World) : Prop :=
  (netsE n l ≠ 0 ∧ en = .returned (.tuple #[.slice none 0 0, .int .i64 (netsE n l)]) ∧ Below w.heap.size w w') ∨
  (netsE n l = 0 ∧ ∃ v, en = .returned (.tuple #[v, .int .i64 0]) ∧ Sep w w' [intsT .i64 2 v (netsF n.toNat l)])
set_option maxRecDepth 100000 in
set_option maxHeartbeats 4000000 in
theorem nets_any (n : Int) (l : List Du) (vl : Value) (w : World) (h : RdG duR w vl l) :
    Calls Try.prog 19 #[.int .i64 n, vl] w fun en w' => NetsD n l w en w' := by
  obtain ⟨i0, hi0, hz0, hz1, hz2⟩ := info_parts Try.infoI64o
  have HALL := Lib.hid (all_any l vl w h)
  have HBEL := Lib.hid (fun W (hW : RdG duR W vl l) => below_any n l vl W hW)
  obtain ⟨al, cl, rfl⟩ := h.shape
  have hle := h.le'
  by_cases h0 : n < 0
  · go_enter Try.func19, Try.ntmps19
    have H := Lib.hid (netsE_arg (l := l) (.inl h0))
    go_wp2_with fail
    go_ret2
    exact .inl ⟨by rw [H.out]; decide, by rw [H.out]; rfl, (Below.refl _ _)⟩
  by_cases h1 : 16 < n
  · go_enter Try.func19, Try.ntmps19
    have H := Lib.hid (netsE_arg (l := l) (.inr (.inl h1)))
    go_wp2_with fail
    go_ret2
    exact .inl ⟨by rw [H.out]; decide, by rw [H.out]; rfl, (Below.refl _ _)⟩
  cases ha : allB l
  · rw [ha] at HALL
    go_enter Try.func19, Try.ntmps19
    go_wp2_with fail
    refine HALL.out.mono ?_
    rintro en w1 ⟨rfl, hb⟩
    have H := Lib.hid (netsE_arg (n := n) (.inr (.inr ha)))
    go_wp2_with fail
    go_ret2
    exact .inl ⟨by rw [H.out]; decide, by rw [H.out]; rfl, (hb)⟩
  rw [ha] at HALL
  cases hbl : belowB n l
  · rw [hbl] at HBEL
    have H0 := Lib.hid (netsE_below ⟨by omega, by omega⟩ ha hbl)
    clear ha hbl
    go_enter Try.func19, Try.ntmps19
    go_wp2_with fail
    refine HALL.out.mono ?_
    rintro en w1 ⟨rfl, hb⟩
    have hs := (Sep.start _).belowStep hb
    clear hb
    go_wp2_with fail
    refine (HBEL.out _ (hs.rdG h)).mono ?_
    rintro en w2 ⟨rfl, hb⟩
    have H := Lib.hid (H0.out)
    go_wp2_with fail
    go_ret2
    exact .inl ⟨by rw [H.out]; decide, by rw [H.out]; rfl, ((hs.belowStep hb).below)⟩
  rw [hbl] at HBEL
  have HE := Lib.hid (netsE_sum (n := n) (l := l) ⟨by omega, by omega⟩ ha hbl)
  obtain ⟨hl64, hmay⟩ := all_parts ha
  have HMAY := Lib.hid hmay
  have HBE := Lib.hid (below_parts hbl)
  clear ha hbl hmay
  obtain ⟨N, rfl⟩ : ∃ N : Nat, n = N := ⟨n.toNat, by omega⟩
  have hN16 : N ≤ 16 := by omega
  go_enter Try.func19, Try.ntmps19
  go_wp2_with fail
  refine HALL.out.mono ?_
  rintro en w1 ⟨rfl, hb⟩
  have hs := (Sep.start _).belowStep hb
  clear hb
  go_wp2_with fail
  refine (HBEL.out _ (hs.rdG h)).mono ?_
  rintro en w2 ⟨rfl, hb⟩
  replace hs := hs.belowStep hb
  clear hb HALL HBEL
  go_wp2_with (at_make; refine wpList_makeInts rfl (.tmp 23) (.tmp 23) 23 rfl 2 i0 .i64 8 Try.underlying23 hi0 hz0 hz1 hz2 N .i64 .i64 rfl rfl hs ?m1 ?m2 ?m3)
  case m1 => unfold maxLen; omega
  case m2 => omega
  case m3 =>
    intro w3 g hs3
    clear hs
    go_wp2_with fail
    refine wp_loopM [none, none, none, none, some 4, some 5, none, some 7, none, some 9, none, none, none, none, none, none, none, none, none, none, none, none, none, none, none, none, none, some 27, some 28, some 29, some 30, some 31, some 32, some 33, some 34, some 35, some 36, some 37, some 38, some 39, some 40, some 41, some 42, some 43, some 44, some 45, some 46, some 47, some 48, some 49, some 50, some 51, some 52, some 53, some 54, some 55, some 56, some 57, some 58, some 59, some 60, none] (fun (r : Nat) (f : Nat → Value) (wr : World) => (fun (v vq vr ve : Value) => ∃ (i : Nat) (q : Int) (OX : List Int), v = .int .i64 i ∧ vq = .int .i64 q ∧ vr = .slice none 0 0 ∧ ve = .int .i64 0 ∧ i ≤ l.length ∧ r = l.length - i ∧ Hid (q = 4503599627370496 - sumX (l.take i) ∧ OX = netsF N (l.take i)) ∧ 0 ≤ q ∧ q ≤ 4503599627370496 ∧ Sep w wr [intsT .i64 2 (.slice (some ⟨g, 0, none⟩) N N) OX]) (f 27) (f 7) (f 4) (f 5)) (l.length) (by kernel_rfl) ?atStart1 ?round1
    case' atStart1 => (try dsimp only [nthV])
    case' round1 =>
      intro gk f wr l hl hrel J1 K1 hJ1 hK1
      (try simp only [mask] at hl)
      generalize f 27 = u27 at hl hrel
      generalize f 7 = u7 at hl hrel
      generalize f 4 = u4 at hl hrel
      generalize f 5 = u5 at hl hrel
      subst hl
      (try dsimp only at hrel)
    case atStart1 => exact ⟨0, 4503599627370496, List.replicate N 0, rfl, rfl, rfl, rfl, Nat.zero_le _, rfl, Lib.hid ⟨by simp [sumX], rfl⟩, by omega, by omega, hs3⟩
    case round1 =>
      clear hs3
      obtain ⟨i, Q, OX, rfl, rfl, rfl, rfl, hi, rfl, HI, hq0, hq1, hs⟩ := hrel
      by_cases hlt : i < l.length
      · have hiI : (i : Int) < l.length := by omega
        have hm := HMAY.out _ (List.getElem_mem hlt)
        have hbe := HBE.out _ (List.getElem_mem hlt)
        have HST := Lib.hid (netsF_take (n := N) hlt)
        have HSX := Lib.hid (sumX_take hlt)
        have HSL := Lib.hid (sumX_le (l := l) (fun d hd => (HMAY.out d hd).x0) (i + 1))
        have HOXl := Lib.hid (show OX.length = N by rw [HI.out.2]; exact netsF_len _ _)
        have hOXb : ∀ j, -sumX (l.take i) ≤ OX.getD j 0 ∧ OX.getD j 0 ≤ sumX (l.take i) := fun j => by
          rw [HI.out.2, netsF_at (fun d hd => ⟨HMAY.out d (List.mem_of_mem_take hd), HBE.out d (List.mem_of_mem_take hd)⟩) j]
          exact deltaS_bound j _ fun d hd => ⟨(HMAY.out d (List.mem_of_mem_take hd)).x0, (HMAY.out d (List.mem_of_mem_take hd)).ne⟩
        have HOB := Lib.hid (show ∀ j, -4503599627370496 ≤ OX.getD j 0 ∧ OX.getD j 0 ≤ 4503599627370496 from fun j => by have := hOXb j; have := HI.out.1; omega)
        clear hOXb
        obtain ⟨b1, o1, e1, _, hc1⟩ := (hs.rdG h).at i hlt
        subst e1
        obtain ⟨x, hx⟩ : ∃ x, x = l[i] := ⟨_, rfl⟩
        rw [← hx] at hc1 hm hbe HST HSX
        have HX := Lib.hid hx
        clear hx
        obtain ⟨id, f, t, xx, we, u, hh⟩ := x
        have x0 := hc1 0 (by decide)
        have x1 := hc1 1 (by decide)
        have x2 := hc1 2 (by decide)
        have x3 := hc1 3 (by decide)
        have x4 := hc1 4 (by decide)
        have x5 := hc1 5 (by decide)
        have x6 := hc1 6 (by decide)
        simp only [duR, Nat.add_zero, List.getElem?_cons_zero, List.getElem?_cons_succ] at x0 x1 x2 x3 x4 x5 x6
        clear hc1
        obtain ⟨hf0, hf1, ht0, ht1, hne, hx0, hx1, _, _, _⟩ := hm
        obtain ⟨hfn, htn⟩ := hbe
        dsimp only at hf0 hf1 ht0 ht1 hne hx0 hx1 hfn htn HSX
        obtain ⟨F, rfl⟩ : ∃ F : Nat, f = F := ⟨f.toNat, by omega⟩
        obtain ⟨T, rfl⟩ : ∃ T : Nat, t = T := ⟨t.toNat, by omega⟩
        have hF : F < N := by omega
        have hT : T < N := by omega
        have hFT : F ≠ T := by omega
        go_upto_region 12 with fail
        replace hs := hs.newCells #[.int .u64 id, .int .i64 F, .int .i64 T, .int .i64 xx, .int .i64 we, .int .i64 u, .bool hh] 44
        obtain ⟨B, hB⟩ : ∃ B, B = wr.heap.size := ⟨_, rfl⟩
        rw [← hB] at hs ⊢
        clear hB x0 x1 x2 x3 x4 x5 x6
        generalize World.alloc wr _ = W1 at hs ⊢
        have x0 := cell_of (hs.cells 0 rfl) 0
        have x1 := cell_of (hs.cells 0 rfl) 1
        have x2 := cell_of (hs.cells 0 rfl) 2
        have x3 := cell_of (hs.cells 0 rfl) 3
        have x4 := cell_of (hs.cells 0 rfl) 4
        have x5 := cell_of (hs.cells 0 rfl) 5
        have x6 := cell_of (hs.cells 0 rfl) 6
        simp only [List.getElem?_toArray, List.getElem?_cons_zero, List.getElem?_cons_succ] at x0 x1 x2 x3 x4 x5 x6
        by_cases hgr : Q < xx
        · have H0 := Lib.hid (show netsE N l = 13 by rw [HE.out, if_pos]; have := HI.out.1; have := HSX.out; have := HSL.out; omega)
          go_wp2_with fail
          (repeat rw [Exit.noGoto_ret])
          go_ret2
          exact .inl ⟨by rw [H0.out]; decide, by rw [H0.out]; rfl, hs.below⟩
        · have HQ := Lib.hid (show Q - xx = 4503599627370496 - sumX (l.take (i + 1)) by rw [HSX.out, HI.out.1]; omega)
          cases hh
          · have HST2 := Lib.hid (show netsF N (l.take (i + 1)) = (OX.set T (OX.getD T 0 + xx)).set F (OX.getD F 0 - xx) by
              rw [HST.out, ← HI.out.2]
              unfold stepN
              rw [if_neg (by simp)]
              dsimp only
              rw [show ((F : Int)).toNat = F by omega, show ((T : Int)).toNat = T by omega, getD_set _ _ _ _ (by rw [HOXl.out]; exact hT), if_neg (fun e => hFT e.symm)])
            have HXF := Lib.hid (show (OX.set T (OX.getD T 0 + xx)).getD F 0 = OX.getD F 0 by rw [getD_set _ _ _ _ (by rw [HOXl.out]; exact hT), if_neg (fun e => hFT e.symm)])
            obtain ⟨n1, n2⟩ := HOB.out F
            obtain ⟨n3, n4⟩ := HOB.out T
            obtain ⟨g', cg', eg, _, hcR, hfr⟩ := (hs.ints 1 rfl).get T (by rw [HOXl.out]; exact hT)
            injection eg with eg q1 q2
            injection eg with eg
            injection eg with eg
            subst eg
            have r0 := hcR T (by rw [HOXl.out]; exact hT)
            clear q1 q2 hcR
            obtain ⟨XF, hXF⟩ : ∃ x, x = OX.getD F 0 := ⟨_, rfl⟩
            obtain ⟨XT, hXT⟩ : ∃ x, x = OX.getD T 0 := ⟨_, rfl⟩
            rw [← hXF] at n1 n2 HST2 HXF
            rw [← hXT] at r0 n3 n4 HST2 HXF
            clear hXF hXT HST
            go_wp2_with fail
            refine Mix.region [0, 0, 0, 0, 0, 0, 0, 0, 0, 2] (fun _ => True) (by kernel_rfl) (by kernel_rfl) trivial ?_
            simp only [List.zip_cons_cons, List.zip_nil_right]
            iterate 9 (refine Mix.step0 fun K hK => ?_; go_simp; (try (go_bits; try go_simp)); first | ((with_reducible refine hK _ _ ?_); clear hK K) | ((try (simp only [IntWalk.iteOmega]; try go_simp)); (try go_bits); (with_reducible refine hK _ _ ?_); clear hK K))
            refine Mix.step2n (by first | rfl | simp [Region.wanted, yielded]) fun K hK => ?_
            go_wp2_with fail
            refine Mix.post_mk (C := (fun _ => True)) trivial (hK _ _ ?_)
            clear hK K
            refine Mix.done ?_
            have hs2 := (hs.setInts (j := T) 1 rfl (XT + xx)).drew
            (try simp only [List.set_cons_zero, List.set_cons_succ] at hs2)
            clear hs r0 hfr x0 x1 x2 x3 x4 x5 x6
            go_upto_region 17 with fail
            generalize World.drew _ = W2 at hs2 ⊢
            have hs := hs2
            clear hs2
            have x0 := cell_of (hs.cells 0 rfl) 0
            have x1 := cell_of (hs.cells 0 rfl) 1
            have x2 := cell_of (hs.cells 0 rfl) 2
            have x3 := cell_of (hs.cells 0 rfl) 3
            have x4 := cell_of (hs.cells 0 rfl) 4
            have x5 := cell_of (hs.cells 0 rfl) 5
            have x6 := cell_of (hs.cells 0 rfl) 6
            simp only [List.getElem?_toArray, List.getElem?_cons_zero, List.getElem?_cons_succ] at x0 x1 x2 x3 x4 x5 x6
            obtain ⟨g', cg', eg, _, hcR, hfr⟩ := (hs.ints 1 rfl).get F (by rw [List.length_set, HOXl.out]; exact hF)
            injection eg with eg q1 q2
            injection eg with eg
            injection eg with eg
            subst eg
            have r1 := hcR F (by rw [List.length_set, HOXl.out]; exact hF)
            clear q1 q2 hcR
            rw [HXF.out] at r1
            refine Mix.region [0, 0, 0, 0, 0, 0, 0, 0, 0, 2] (fun _ => True) (by kernel_rfl) (by kernel_rfl) trivial ?_
            simp only [List.zip_cons_cons, List.zip_nil_right]
            iterate 9 (refine Mix.step0 fun K hK => ?_; go_simp; (try (go_bits; try go_simp)); first | ((with_reducible refine hK _ _ ?_); clear hK K) | ((try (simp only [IntWalk.iteOmega]; try go_simp)); (try go_bits); (with_reducible refine hK _ _ ?_); clear hK K))
            refine Mix.step2n (by first | rfl | simp [Region.wanted, yielded]) fun K hK => ?_
            go_wp2_with fail
            refine Mix.post_mk (C := (fun _ => True)) trivial (hK _ _ ?_)
            clear hK K
            refine Mix.done ?_
            have hs3 := (hs.setInts (j := F) 1 rfl (XF - xx)).drew
            (try simp only [List.set_cons_zero, List.set_cons_succ] at hs3)
            clear hs r1 hfr x0 x1 x2 x3 x4 x5 x6
            go_wp2_with fail
            refine Round.intro (l.length - (i + 1)) ?measure2 (by kernel_rfl) (hJ1 _ _ _ ?rel2)
            case' rel2 => (try dsimp only [nthV])
            case measure2 => omega
            case rel2 => exact ⟨i + 1, Q - xx, _, by go_num, rfl, rfl, rfl, hlt, rfl, Lib.hid ⟨HQ.out, HST2.out.symm⟩, by omega, by omega, hs3.tail⟩
          · have HST2 := Lib.hid (show netsF N (l.take (i + 1)) = OX by
              rw [HST.out, ← HI.out.2]
              unfold stepN
              rw [if_pos rfl])
            go_wp2_with fail
            refine Round.intro (l.length - (i + 1)) ?measure3 (by kernel_rfl) (hJ1 _ _ _ ?rel3)
            case' rel3 => (try dsimp only [nthV])
            case measure3 => omega
            case rel3 => exact ⟨i + 1, Q - xx, _, by go_num, rfl, rfl, rfl, hlt, rfl, Lib.hid ⟨HQ.out, HST2.out.symm⟩, by omega, by omega, hs.tail⟩
      · obtain rfl : i = l.length := by omega
        have h1' := HI.out.1
        have h2' := HI.out.2
        rw [List.take_length] at h1' h2'
        have H0 := Lib.hid (show netsE N l = 0 by rw [HE.out, if_neg]; omega)
        have HF := Lib.hid h2'
        clear h1' h2'
        go_wp2_with fail
        (repeat rw [Exit.noGoto_ret])
        go_ret2
        exact .inr ⟨H0.out, _, rfl, by rw [Int.toNat_natCast, ← HF.out]; exact hs⟩
end Go.Proofs.Ytjijhpflkkicaaa
