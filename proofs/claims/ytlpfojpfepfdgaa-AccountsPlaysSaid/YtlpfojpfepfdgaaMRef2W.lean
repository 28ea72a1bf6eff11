
/-
  The reference's Shift (gabletref16), walked; the anchor of the law.
-/
import Derived.Test.YtlpfojpfepfdgaaMRefW
namespace Go.Proofs.Ytlpfojpfepfdgaa
open Go Go.RowKit Go.Mem Go.MoneyP

theorem shift_far {l b : List Int} {i : Nat} (hi : i < b.length) (hx : nearB (b.getD i 0) = false) : shiftV l b = [] ∧ shiftE l b = 1 :=
  shift_bad (by simp [fitB, even_stop hi hx])
theorem shift_off {l b : List Int} {i : Nat} (hi : i < l.length) (hx : mayB (l.getD i 0) = false) : shiftV l b = [] ∧ shiftE l b = 1 :=
  shift_bad (by simp [fitB, mays_stop hi hx])

set_option maxHeartbeats 2000000 in
theorem rshift_any (v v' : Value) (zs bs : List Int) (w : World) (h : Rd .i64 w v zs) (h' : Rd .i64 w v' bs) (hsm : zs.length ≤ 1000) :
    Calls Try.prog 45 #[v, v'] w fun e w' => ∃ u, e = .returned (.tuple #[u, .int .i64 (shiftE zs bs)]) ∧ Sep w w' [intsT .i64 2 u (shiftV zs bs)] := by
  obtain ⟨a, cap, rfl⟩ := h.shape
  obtain ⟨a', cap', rfl⟩ := h'.shape
  obtain ⟨i0, hi0, hz0, hz1, hz2⟩ := info_parts Try.infoI64
  by_cases hlen : zs.length = bs.length
  · have hn1 := nn hlen
    have HL := Lib.hid hlen
    clear hlen
    go_enter Try.func45, Try.ntmps45
    go_wp2_with fail
    refine wp_loopM [none, none, none, none, some 4, some 5, some 6, none, none, none, none, none, none, none, none, some 15, some 16, some 17, some 18, some 19, some 20, some 21, some 22, some 23, some 24, some 25, some 26, some 27, some 28, some 29, some 30, some 31, some 32, some 33, some 34, some 35, some 36, some 37, some 38, some 39, some 40, none, none, none, none, none, none, none, none, none, none, none, none, none, none, none, none, none, none, none, none, none, none, none, none, none, none, none, none, none, none, none, none, none, none, none, none, none, none, none, none, none, none, none, none, none, none, none, none] (fun (n : Nat) (f : Nat → Value) (wr : World) => (fun (v : Value) => ∃ i : Nat, v = .int .i64 i ∧ i ≤ zs.length ∧ n = zs.length - i ∧ mays (zs.take i) = true ∧ nears (bs.take i) = true ∧ w = wr) (f 6)) (zs.length) (by kernel_rfl) ?atStart1 ?round1
    case' atStart1 => (try dsimp only [nthV])
    case' round1 =>
      intro gk f wr l hl hrel J1 K1 hJ1 hK1
      (try simp only [mask] at hl)
      generalize f 6 = u6 at hl hrel
      subst hl
      (try dsimp only at hrel)
    case atStart1 => exact ⟨0, rfl, Nat.zero_le _, rfl, rfl, rfl, rfl⟩
    case round1 =>
      obtain ⟨i, rfl, hi, rfl, hm, hn, rfl⟩ := hrel
      have HM := Lib.hid hm
      have HN := Lib.hid hn
      clear hm hn
      by_cases hlt : i < zs.length
      · have hlb : i < bs.length := by rw [← HL.out]; exact hlt
        obtain ⟨b1, off1, rfl, hb1, hc1⟩ := h.at i hlt
        obtain ⟨b2, off2, rfl, hb2, hc2⟩ := h'.at i hlb
        obtain ⟨x, hxe⟩ : ∃ x, x = zs.getD i 0 := ⟨_, rfl⟩
        obtain ⟨y, hye⟩ : ∃ y, y = bs.getD i 0 := ⟨_, rfl⟩
        rw [← hxe] at hc1
        rw [← hye] at hc2
        have HX := Lib.hid hxe
        have HY := Lib.hid hye
        clear hxe hye
        go_wp2_with fail
        refine (rmay_any _ _).mono ?_
        rintro e w1 ⟨rfl, rfl⟩
        cases hb : mayB x
        · have H := Lib.hid (shift_off (b := bs) hlt (by rw [← HX.out]; exact hb))
          clear hb
          go_wp2_with fail
          go_ret2
          exact ⟨_, by rw [H.out.2]; rfl, by rw [H.out.1]; exact (Sep.start _).nilInts _ _⟩
        · have HB := Lib.hid hb
          clear hb
          cases hnb : nearB y
          · have H := Lib.hid (shift_far (l := zs) hlb (by rw [← HY.out]; exact hnb))
            have h2 := (nearB_no _).1 hnb
            clear hnb
            rcases h2 with h2 | h2
            · have h3 : decide (4503599627370496 < y) = false := by simp; omega
              go_wp2_with fail
              go_ret2
              exact ⟨_, by rw [H.out.2]; rfl, by rw [H.out.1]; exact (Sep.start _).nilInts _ _⟩
            · go_wp2_with fail
              go_ret2
              exact ⟨_, by rw [H.out.2]; rfl, by rw [H.out.1]; exact (Sep.start _).nilInts _ _⟩
          · have HNB := Lib.hid hnb
            obtain ⟨hy0, hy1⟩ := (nearB_iff _).1 hnb
            clear hnb
            go_wp2_with fail
            refine Round.intro (zs.length - (i + 1)) ?measure2 (by kernel_rfl) (hJ1 _ _ _ ?rel2)
            case' rel2 => (try dsimp only [nthV])
            case measure2 => omega
            case rel2 => exact ⟨i + 1, by go_num, hlt, rfl, mays_step hlt HM.out (by rw [← HX.out]; exact HB.out), nears_step hlb HN.out (by rw [← HY.out]; exact HNB.out), rfl⟩
      · have HMA := Lib.hid (mays_full (by omega) HM.out)
        have HNA := Lib.hid (nears_full (show i = bs.length by rw [← HL.out]; omega) HN.out)
        clear HM HN
        go_wp2_with fail
        refine (level_any _ _ _ h' HNA.out (by rw [← HL.out]; exact hsm)).mono ?_
        rintro e w1 ⟨rfl, rfl⟩
        by_cases hz : bs.sum = 0
        · have hd : decide (bs.sum = 0) = true := by simpa using hz
          have hfit : fitB zs bs = true := (fitB_iff _ _).2 ⟨HL.out, HMA.out, HNA.out, hz⟩
          have HF := Lib.hid hfit
          have HA := Lib.hid (adds_length HL.out)
          rw [hd]
          clear hz hd hfit
          go_wp2_with fail
          refine wp_loopM [none, none, none, none, some 4, some 5, none, none, some 8, none, none, none, none, none, none, none, none, none, none, none, none, none, none, none, none, none, none, none, none, none, none, none, none, none, none, none, none, none, none, none, none, none, none, none, some 44, some 45, some 46, some 47, some 48, some 49, some 50, some 51, some 52, some 53, some 54, some 55, some 56, some 57, some 58, some 59, none, none, none, none, none, none, none, none, none, none, none, none, none, none, none, none, none, none, none, none, none, none, none, none, none, none, none, none, none] (fun (n : Nat) (f : Nat → Value) (wr : World) => (fun (v : Value) => ∃ i : Nat, v = .int .i64 i ∧ i ≤ zs.length ∧ n = zs.length - i ∧ (∀ j, j < i → 0 ≤ (adds zs bs).getD j 0) ∧ Sep w wr []) (f 8)) (zs.length) (by kernel_rfl) ?atStart3 ?round3
          case' atStart3 => (try dsimp only [nthV])
          case' round3 =>
            intro gk f wr l hl hrel J2 K2 hJ2 hK2
            (try simp only [mask] at hl)
            generalize f 8 = u8 at hl hrel
            subst hl
            (try dsimp only at hrel)
          case atStart3 => exact ⟨0, rfl, Nat.zero_le _, rfl, by simp, Sep.start _⟩
          case round3 =>
            clear hi hlt
            obtain ⟨i, rfl, hi, rfl, hlo, hs⟩ := hrel
            have HLO := Lib.hid hlo
            clear hlo
            by_cases hlt : i < zs.length
            · have hlb : i < bs.length := by rw [← HL.out]; exact hlt
              have hla : i < (adds zs bs).length := by rw [HA.out]; exact hlt
              obtain ⟨b1, off1, rfl, hb1, hc1⟩ := (hs.rd h).at i hlt
              obtain ⟨b2, off2, rfl, hb2, hc2⟩ := (hs.rd h').at i hlb
              have hx := mays_at HMA.out hlt
              have hy := nears_at HNA.out hlb
              have HXY := Lib.hid (adds_getD hlt hlb)
              generalize zs.getD i 0 = x at *
              generalize bs.getD i 0 = y at *
              obtain ⟨hx0, hx1⟩ := hx
              obtain ⟨hy0, hy1⟩ := hy
              go_wp2_with fail
              refine Mix.region [0, 0, 0, 0, 0, 0, 0, 0, 0, 0] (fun _ => True) (by kernel_rfl) (by kernel_rfl) trivial ?_
              simp only [List.zip_cons_cons, List.zip_nil_right]
              iterate 10 (refine Mix.step0 fun K hK => ?_; go_simp; (try (go_bits; try go_simp)); first | ((with_reducible refine hK _ _ ?_); clear hK K) | ((try (simp only [IntWalk.iteOmega]; try go_simp)); (try go_bits); (with_reducible refine hK _ _ ?_); clear hK K))
              refine Mix.done ?_
              by_cases hneg : x + y < 0
              · have H := Lib.hid (shift_low HF.out hla (by rw [HXY.out]; exact hneg))
                go_wp2_with fail
                go_ret2
                exact ⟨_, by rw [H.out.2]; rfl, by rw [H.out.1]; exact hs.drew.nilInts _ _⟩
              · go_wp2_with fail
                refine Round.intro (zs.length - (i + 1)) ?measure4 (by kernel_rfl) (hJ2 _ _ _ ?rel4)
                case' rel4 => (try dsimp only [nthV])
                case measure4 => omega
                case rel4 =>
                  refine ⟨i + 1, by go_num, hlt, rfl, fun j hj => ?_, hs.drew⟩
                  by_cases hji : j = i
                  · subst hji; rw [HXY.out]; omega
                  · exact HLO.out j (by omega)
            · have he : i = zs.length := by omega
              have hall : ∀ j, j < (adds zs bs).length → 0 ≤ (adds zs bs).getD j 0 := fun j hj => HLO.out j (by rw [he]; rw [HA.out] at hj; exact hj)
              have HAL := Lib.hid hall
              clear hall HLO he
              go_wp2_with fail
              have hs1 := hs.nilInts .i64 2
              refine wp_loopM [none, none, none, none, some 4, some 5, none, some 7, none, some 9, none, none, none, none, none, none, none, none, none, none, none, none, none, none, none, none, none, none, none, none, none, none, none, none, none, none, none, none, none, none, none, none, none, none, none, none, none, none, none, none, none, none, none, none, none, none, none, none, none, none, some 60, some 61, some 62, some 63, some 64, some 65, some 66, some 67, some 68, some 69, some 70, some 71, some 72, some 73, some 74, some 75, some 76, some 77, some 78, some 79, some 80, some 81, some 82, some 83, some 84, some 85, some 86, some 87, none] (fun (n : Nat) (f : Nat → Value) (wr : World) => (fun (v vo : Value) => ∃ i : Nat, v = .int .i64 i ∧ i ≤ zs.length ∧ n = zs.length - i ∧ mays ((adds zs bs).take i) = true ∧ Sep w wr [intsT .i64 2 vo ((adds zs bs).take i)]) (f 9) (f 7)) (zs.length) (by kernel_rfl) ?atStart5 ?round5
              case' atStart5 => (try dsimp only [nthV])
              case' round5 =>
                intro gk f wr l hl hrel J3 K3 hJ3 hK3
                (try simp only [mask] at hl)
                generalize f 9 = u9 at hl hrel
                generalize f 7 = u7 at hl hrel
                subst hl
                (try dsimp only at hrel)
              case atStart5 => exact ⟨0, rfl, Nat.zero_le _, rfl, rfl, hs1⟩
              case round5 =>
                clear hi hlt hs hs1
                obtain ⟨i, rfl, hi, rfl, hm, hs⟩ := hrel
                have HM := Lib.hid hm
                clear hm
                by_cases hlt : i < zs.length
                · have hlb : i < bs.length := by rw [← HL.out]; exact hlt
                  have hla : i < (adds zs bs).length := by rw [HA.out]; exact hlt
                  obtain ⟨b1, off1, rfl, hb1, hc1⟩ := (hs.rd h).at i hlt
                  obtain ⟨b2, off2, rfl, hb2, hc2⟩ := (hs.rd h').at i hlb
                  have hx := mays_at HMA.out hlt
                  have hy := nears_at HNA.out hlb
                  have HXY := Lib.hid (adds_getD hlt hlb)
                  have HST := Lib.hid (snoc_take hla)
                  have HP := Lib.hid (HAL.out i hla)
                  have htl : ((adds zs bs).take i).length = i := by simp; rw [HA.out]; omega
                  have HTL := Lib.hid htl
                  clear htl
                  generalize zs.getD i 0 = x at *
                  generalize bs.getD i 0 = y at *
                  obtain ⟨hx0, hx1⟩ := hx
                  obtain ⟨hy0, hy1⟩ := hy
                  go_wp2_with fail
                  refine Mix.region [0, 0, 0, 0, 0, 0, 0, 0, 0, 0] (fun _ => True) (by kernel_rfl) (by kernel_rfl) trivial ?_
                  simp only [List.zip_cons_cons, List.zip_nil_right]
                  iterate 10 (refine Mix.step0 fun K hK => ?_; go_simp; (try (go_bits; try go_simp)); first | ((with_reducible refine hK _ _ ?_); clear hK K) | ((try (simp only [IntWalk.iteOmega]; try go_simp)); (try go_bits); (with_reducible refine hK _ _ ?_); clear hK K))
                  refine Mix.done ?_
                  by_cases hneg : 4503599627370496 < x + y
                  · have H := Lib.hid (shift_high HF.out HAL.out hla (by rw [HXY.out]; exact hneg))
                    go_wp2_with fail
                    go_ret2
                    exact ⟨_, by rw [H.out.2]; rfl, by rw [H.out.1]; exact hs.drew.tail.nilInts _ _⟩
                  · have hmx : mayB ((adds zs bs).getD i 0) = true := by
                      have := HP.out
                      rw [HXY.out] at this ⊢
                      exact (mayB_iff _).2 ⟨this, by omega⟩
                    have HMX := Lib.hid hmx
                    clear hmx
                    have hCW : (fun _ : World => True) wr := trivial
                    go_wp2_with fail
                    refine Mix.region [1, 0, 0, 0, 0, 0, 0, 0, 0, 0, 2, 2, 0] (fun _ => True) (by kernel_rfl) (by kernel_rfl) trivial ?_
                    simp only [List.zip_cons_cons, List.zip_nil_right]
                    iterate 1 (refine Mix.step1 fun K hK => ?_; go_simp; (try (go_bits; try go_simp)); first | ((with_reducible refine hK _ _ ?_); clear hK K) | ((try (simp only [IntWalk.iteOmega]; try go_simp)); (try go_bits); (with_reducible refine hK _ _ ?_); clear hK K))
                    iterate 9 (refine Mix.step0 fun K hK => ?_; go_simp; (try (go_bits; try go_simp)); first | ((with_reducible refine hK _ _ ?_); clear hK K) | ((try (simp only [IntWalk.iteOmega]; try go_simp)); (try go_bits); (with_reducible refine hK _ _ ?_); clear hK K))
                    refine Mix.step2n (by first | rfl | simp [Region.wanted, yielded]) fun K hK => ?_
                    go_wp2_with fail
                    refine Mix.post_mk (C := (fun _ => True)) trivial (hK _ _ ?_)
                    clear hK K
                    refine Mix.step2n (by first | rfl | simp [Region.wanted, yielded]) fun K hK => ?_
                    have hsa := (hs.alloc (.cells #[.int .i64 (x + y)] 2)).drew.drew
                    refine wpList_appIntB rfl (.tmp 76) (.tmp 86) 35 rfl 2 i0 _ 8 Try.underlying35 hi0 hz0 hz1 hz2 rfl u7 ((adds zs bs).take i) .i64 (x + y) hsa 0 rfl wr.heap.size (heap_alloc_new wr _) rfl rfl ?c3 ?c4 ?grow
                    case c3 => unfold maxLen; rw [HTL.out]; omega
                    case c4 => rw [HTL.out]; omega
                    intro vo' w2 hs2 _
                    clear hs
                    go_wp2_with fail
                    refine Mix.post_mk (C := (fun _ => True)) trivial (hK _ _ ?_)
                    clear hK K
                    iterate 1 (refine Mix.step0 fun K hK => ?_; go_simp; (try (go_bits; try go_simp)); first | ((with_reducible refine hK _ _ ?_); clear hK K) | ((try (simp only [IntWalk.iteOmega]; try go_simp)); (try go_bits); (with_reducible refine hK _ _ ?_); clear hK K))
                    refine Mix.done ?_
                    go_wp2_with fail
                    refine Round.intro (zs.length - (i + 1)) ?measure6 (by kernel_rfl) (hJ3 _ _ _ ?rel6)
                    case' rel6 => (try dsimp only [nthV])
                    case measure6 => omega
                    case rel6 => exact ⟨i + 1, by go_num, hlt, rfl, mays_step hla HM.out HMX.out, by rw [← HST.out, HXY.out]; exact hs2⟩
                · have he : i = zs.length := by omega
                  have htk : (adds zs bs).take i = adds zs bs := List.take_of_length_le (by rw [HA.out]; omega)
                  have H := Lib.hid (shift_ok HF.out (by have := HM.out; rw [htk] at this; exact this))
                  rw [htk] at hs
                  clear htk he
                  go_wp2_with fail
                  go_ret2
                  exact ⟨_, by rw [H.out.2]; rfl, by rw [H.out.1]; exact hs⟩
        · have hd : decide (bs.sum = 0) = false := by simpa using hz
          have H := Lib.hid (shift_bad (l := zs) (b := bs) (by simp [fitB, evenB, hz]))
          rw [hd]
          clear hz hd
          go_wp2_with fail
          go_ret2
          exact ⟨_, by rw [H.out.2]; rfl, by rw [H.out.1]; exact (Sep.start _).nilInts _ _⟩
  · have hn1 := nn' hlen
    have hn2 := nb hlen
    have H := Lib.hid (shift_bad (l := zs) (b := bs) (by simp [fitB, hlen]))
    clear hlen
    go_enter Try.func45, Try.ntmps45
    go_wp2_with fail
    go_ret2
    exact ⟨_, by rw [H.out.2]; rfl, by rw [H.out.1]; exact (Sep.start _).nilInts _ _⟩

end Go.Proofs.Ytlpfojpfepfdgaa
