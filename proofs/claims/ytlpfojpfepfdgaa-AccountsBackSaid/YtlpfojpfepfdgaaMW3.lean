/-
  Package money, walked: Shift.
-/
import Derived.Test.YtlpfojpfepfdgaaMW2
namespace Go.Proofs.Ytlpfojpfepfdgaa
open Go Go.RowKit Go.Mem Go.MoneyP

theorem nn {a b : Nat} (h : a = b) : ((a : Int) != (b : Int)) = false := by rw [h]; simp
theorem nn' {a b : Nat} (h : a ≠ b) : ((a : Int) != (b : Int)) = true := by rw [bne_iff_ne]; omega
theorem nb {a b : Nat} (h : a ≠ b) : ((a : Int) == (b : Int)) = false := by rw [beq_eq_false_iff_ne]; omega
theorem snoc_take {m : List Int} {i : Nat} (h : i < m.length) : m.take i ++ [m.getD i 0] = m.take (i + 1) := (take_snoc h).symm

set_option maxHeartbeats 2000000 in
theorem shift_any (v v' : Value) (zs bs : List Int) (w : World) (h : Rd .i64 w v zs) (h' : Rd .i64 w v' bs) (hsm : zs.length ≤ 100000) :
    Calls Try.prog 40 #[v, v'] w fun e w' => ∃ u, e = .returned (.tuple #[u, .int .i64 (shiftE zs bs)]) ∧ Sep w w' [intsT .i64 2 u (shiftV zs bs)] := by
  have hle := h.le'
  have hle' := h'.le'
  obtain ⟨a, cap, rfl⟩ := h.shape
  obtain ⟨a', cap', rfl⟩ := h'.shape
  obtain ⟨i0, hi0, hz0, hz1, hz2⟩ := info_parts Try.infoI64
  by_cases hlen : zs.length = bs.length
  · have hn1 := nn hlen
    cases hm : mays zs
    · have H := Lib.hid (shift_bad (l := zs) (b := bs) (by simp [fitB, hm]))
      clear hlen
      go_enter Try.func40, Try.ntmps40
      go_wp2_with fail
      refine (right_any _ _ _ h).mono ?_
      rintro e w1 ⟨rfl, rfl⟩
      rw [hm]
      clear hm
      go_wp2_with fail
      go_ret2
      exact ⟨_, by rw [H.out.2]; rfl, by rw [H.out.1]; exact (Sep.start _).nilInts _ _⟩
    · cases he : evenB bs
      · have H := Lib.hid (shift_bad (l := zs) (b := bs) (by simp [fitB, he]))
        clear hlen
        go_enter Try.func40, Try.ntmps40
        go_wp2_with fail
        refine (right_any _ _ _ h).mono ?_
        rintro e w1 ⟨rfl, rfl⟩
        rw [hm]
        clear hm
        go_wp2_with fail
        refine (even_any _ _ _ h').mono ?_
        rintro e w1 ⟨rfl, rfl⟩
        rw [he]
        clear he
        go_wp2_with fail
        go_ret2
        exact ⟨_, by rw [H.out.2]; rfl, by rw [H.out.1]; exact (Sep.start _).nilInts _ _⟩
      · have hfit : fitB zs bs = true := by simp [fitB, hlen, hm, he]
        have hal := adds_length hlen
        have hnear : nears bs = true := ((fitB_iff _ _).1 hfit).2.2.1
        have HF := Lib.hid hfit
        have HL := Lib.hid hlen
        have HA := Lib.hid hal
        have HNE := Lib.hid hnear
        have HMA := Lib.hid hm
        clear hfit hlen hal hnear
        go_enter Try.func40, Try.ntmps40
        go_wp2_with fail
        refine (right_any _ _ _ h).mono ?_
        rintro e w1 ⟨rfl, rfl⟩
        rw [hm]
        clear hm
        go_wp2_with fail
        refine (even_any _ _ _ h').mono ?_
        rintro e w1 ⟨rfl, rfl⟩
        rw [he]
        clear he
        go_wp2_with fail
        have hs0 := (Sep.start w).nilInts .i64 2
        refine wp_loopM [none, none, none, none, some 4, some 5, some 6, some 7, some 8, some 9, none, none, none, none, none, none, none, none, none, none, none, none, none, none, none, none, none, some 27, some 28, some 29, some 30, some 31, some 32, some 33, some 34, some 35, some 36, some 37, some 38, some 39, some 40, some 41, some 42, some 43, some 44, some 45, some 46, some 47, some 48, some 49, none, none, none, none] (fun (n : Nat) (f : Nat → Value) (wr : World) => (fun (v vo ve : Value) => ∃ i : Nat, v = .int .i64 i ∧ i ≤ zs.length ∧ n = zs.length - i ∧ Sep w wr [intsT .i64 2 vo ((adds zs bs).take i)] ∧ (∀ j, j < i → 0 ≤ (adds zs bs).getD j 0) ∧ ((ve = .int .i64 0 ∧ mays ((adds zs bs).take i) = true) ∨ (ve = .int .i64 13 ∧ ∃ j, j < i ∧ 4503599627370496 < (adds zs bs).getD j 0))) (f 27) (f 6) (f 7)) (zs.length) (by kernel_rfl) ?atStart1 ?round1
        case' atStart1 => (try dsimp only [nthV])
        case' round1 =>
          intro gk f wr l hl hrel J1 K1 hJ1 hK1
          (try simp only [mask] at hl)
          generalize f 27 = u27 at hl hrel
          generalize f 6 = u6 at hl hrel
          generalize f 7 = u7 at hl hrel
          subst hl
          (try dsimp only at hrel)
        case atStart1 => exact ⟨0, rfl, Nat.zero_le _, rfl, hs0, by simp, .inl ⟨rfl, rfl⟩⟩
        case round1 =>
          clear hs0
          obtain ⟨i, rfl, hi, rfl, hs, hlo, hve⟩ := hrel
          have HLO := Lib.hid hlo
          clear hlo
          by_cases hlt : i < zs.length
          · have hlb : i < bs.length := by rw [← HL.out]; exact hlt
            have hla : i < (adds zs bs).length := by rw [HA.out]; exact hlt
            obtain ⟨b1, off1, rfl, hb1, hc1⟩ := (hs.rd h).at i hlt
            obtain ⟨b2, off2, rfl, hb2, hc2⟩ := (hs.rd h').at i hlb
            have hx := mays_at HMA.out hlt
            have hy := nears_at HNE.out hlb
            have hxy := adds_getD hlt hlb
            have HST := Lib.hid (snoc_take hla)
            obtain ⟨x, hxe⟩ : ∃ x, x = zs.getD i 0 := ⟨_, rfl⟩
            obtain ⟨y, hye⟩ : ∃ y, y = bs.getD i 0 := ⟨_, rfl⟩
            rw [← hxe] at hc1 hx hxy
            rw [← hye] at hc2 hy hxy
            have HXY := Lib.hid hxy
            obtain ⟨hx0, hx1⟩ := hx
            obtain ⟨hy0, hy1⟩ := hy
            clear hxe hye hxy
            have htl : ((adds zs bs).take i).length = i := by simp; rw [HA.out]; omega
            have HTL := Lib.hid htl
            clear htl
            by_cases hneg : x + y < 0
            · have H := Lib.hid (shift_low HF.out hla (by rw [HXY.out]; exact hneg))
              clear hve
              go_wp2_with fail
              go_ret2
              exact ⟨_, by rw [H.out.2]; rfl, by rw [H.out.1]; exact hs.tail.nilInts _ _⟩
            · have hlo' : ∀ j, j < i + 1 → 0 ≤ (adds zs bs).getD j 0 := by
                intro j hj
                by_cases hji : j = i
                · subst hji; rw [HXY.out]; omega
                · exact HLO.out j (by omega)
              have HLO' := Lib.hid hlo'
              clear hlo'
              go_wp2_with fail
              refine (may_any _ _).mono ?_
              rintro e w1 ⟨rfl, rfl⟩
              cases hb : mayB (x + y)
              · have H1 := Lib.hid ((mayB_no _).1 hb)
                clear hb hve
                go_wp2_with (at_builtin; refine wpList_appInt rfl (.tmp 45) (.tmp 47) 35 rfl 2 i0 _ 8 Try.underlying35 hi0 hz0 hz1 hz2 rfl _ ((adds zs bs).take i) .i64 (x + y) hs 0 rfl rfl rfl ?c3 ?c4 ?grow)
                case c3 => unfold maxLen; rw [HTL.out]; omega
                case c4 => rw [HTL.out]; omega
                case grow =>
                  intro vo' w2 hs2 _
                  clear hs
                  go_wp2_with fail
                  refine Round.intro (zs.length - (i + 1)) ?measure2 (by kernel_rfl) (hJ1 _ _ _ ?rel2)
                  case' rel2 => (try dsimp only [nthV])
                  case measure2 => omega
                  case rel2 => exact ⟨i + 1, by go_num, hlt, rfl, by rw [← HST.out, HXY.out]; exact hs2, HLO'.out, .inr ⟨rfl, i, Nat.lt_succ_self i, by rw [HXY.out]; have := H1.out; omega⟩⟩
              · have H1 := Lib.hid ((mayB_iff _).1 hb)
                have HVE := Lib.hid hve
                clear hb hve
                go_wp2_with (at_builtin; refine wpList_appInt rfl (.tmp 45) (.tmp 47) 35 rfl 2 i0 _ 8 Try.underlying35 hi0 hz0 hz1 hz2 rfl _ ((adds zs bs).take i) .i64 (x + y) hs 0 rfl rfl rfl ?d3 ?d4 ?grow2)
                case d3 => unfold maxLen; rw [HTL.out]; omega
                case d4 => rw [HTL.out]; omega
                case grow2 =>
                  intro vo' w2 hs2 _
                  clear hs
                  go_wp2_with fail
                  refine Round.intro (zs.length - (i + 1)) ?measure3 (by kernel_rfl) (hJ1 _ _ _ ?rel3)
                  case' rel3 => (try dsimp only [nthV])
                  case measure3 => omega
                  case rel3 =>
                    refine ⟨i + 1, by go_num, hlt, rfl, by rw [← HST.out, HXY.out]; exact hs2, HLO'.out, ?_⟩
                    rcases HVE.out with ⟨h1, h2⟩ | ⟨h1, j, h2, h3⟩
                    · exact .inl ⟨h1, mays_step hla h2 (by rw [HXY.out]; exact (mayB_iff _).2 H1.out)⟩
                    · exact .inr ⟨h1, j, by omega, h3⟩
          · have he : i = zs.length := by omega
            have hall : ∀ j, j < (adds zs bs).length → 0 ≤ (adds zs bs).getD j 0 := fun j hj => HLO.out j (by rw [he]; rw [HA.out] at hj; exact hj)
            have htk : (adds zs bs).take i = adds zs bs := List.take_of_length_le (by rw [HA.out]; omega)
            rw [htk] at hs hve
            rcases hve with ⟨rfl, h2⟩ | ⟨rfl, j, h2, h3⟩
            · have H := Lib.hid (shift_ok HF.out h2)
              clear hall htk he h2
              go_wp2_with fail
              go_ret2
              exact ⟨_, by rw [H.out.2]; rfl, by rw [H.out.1]; exact hs⟩
            · have H := Lib.hid (shift_high HF.out hall (i := j) (by rw [HA.out]; omega) h3)
              clear hall htk he h2 h3
              go_wp2_with fail
              go_ret2
              exact ⟨_, by rw [H.out.2]; rfl, by rw [H.out.1]; exact hs.tail.nilInts _ _⟩
  · have hn1 := nn' hlen
    have hn2 := nb hlen
    have H := Lib.hid (shift_bad (l := zs) (b := bs) (by simp [fitB, hlen]))
    clear hlen
    go_enter Try.func40, Try.ntmps40
    go_wp2_with fail
    go_ret2
    exact ⟨_, by rw [H.out.2]; rfl, by rw [H.out.1]; exact (Sep.start _).nilInts _ _⟩
end Go.Proofs.Ytlpfojpfepfdgaa
