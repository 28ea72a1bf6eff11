/-
  The reference's Right, walked.
-/
import Derived.Test.YtlbpkfjebaelpaaBW2
namespace Go.Proofs.Ytlbpkfjebaelpaa
open Go Go.RowKit Go.Mem Go.MoneyP Go.NetP Go.BuildP
theorem Try.infoI64b : (Try.prog.info? 2).map (fun i => (i.zero, i.size, i.bytes)) = some (some (.int .i64 0), 1, 8) := by kernel_rfl
set_option maxHeartbeats 2000000 in
set_option maxRecDepth 100000 in
theorem brright_any (rooms : List Int) (l : List Du) (vr vl : Value) (w : World) (hr : Rd .i64 w vr rooms) (h : RdG duR w vl l) :
    Calls Try.prog 16 #[vr, vl] w fun en w' => en = .returned (.bool (rightR rooms l)) ∧ Below w.heap.size w w' := by
  obtain ⟨i0, hi0, hz0, hz1, hz2⟩ := info_parts Try.infoI64b
  obtain ⟨ar, cr, rfl⟩ := hr.shape
  obtain ⟨a, c, rfl⟩ := h.shape
  have hle := hr.le'
  have hle2 := h.le'
  by_cases h16 : rooms.length ≤ 16
  rotate_left
  · have d16 : decide ((16 : Int) < (rooms.length : Int)) = true := decide_eq_true (by omega)
    have HE := Lib.hid (show rightR rooms l = false by simp [rightR, h16])
    clear h16
    go_enter Try.func16, Try.ntmps16
    go_wp2_with fail
    go_ret
    exact ⟨by rw [HE.out]; rfl, Below.refl _ _⟩
  have d16 : decide ((16 : Int) < (rooms.length : Int)) = false := decide_eq_false (by omega)
  by_cases h64 : l.length ≤ 64
  rotate_left
  · have d64 : decide ((64 : Int) < (l.length : Int)) = true := decide_eq_true (by omega)
    have HE := Lib.hid (show rightR rooms l = false by simp [rightR, h64])
    clear h16 h64
    go_enter Try.func16, Try.ntmps16
    go_wp2_with fail
    go_ret
    exact ⟨by rw [HE.out]; rfl, Below.refl _ _⟩
  have d64 : decide ((64 : Int) < (l.length : Int)) = false := decide_eq_false (by omega)
  go_enter Try.func16, Try.ntmps16
  go_wp2_with fail
  refine wp_loopM [none, none, none, none, some 4, none, some 6, none, none, none, none, none, none, none, none, none, none, none, some 18, some 19, some 20, some 21, some 22, some 23, some 24, some 25, some 26, some 27, some 28, some 29, none, none, none, none, none, none, none, none, none, none, none, none, none, none, none, none, none, none, none, none, none, none, none, none, none, none, none, none, none, none, none, none, none, none, none, none, none, none, none, none, none, none, none, none, none, none, none] (fun (r : Nat) (f : Nat → Value) (wr : World) => (fun (v : Value) => ∃ i : Nat, v = .int .i64 i ∧ i ≤ rooms.length ∧ r = rooms.length - i ∧ Hid (mays (rooms.take i) = true) ∧ wr = w) (f 6)) (rooms.length) (by kernel_rfl) ?atStart1 ?round1
  case' atStart1 => (try dsimp only [nthV])
  case' round1 =>
    intro gk f wr l hl hrel J1 K1 hJ1 hK1
    (try simp only [mask] at hl)
    generalize f 6 = u6 at hl hrel
    subst hl
    (try dsimp only at hrel)
  case atStart1 => exact ⟨0, rfl, Nat.zero_le _, rfl, Lib.hid (by rfl), rfl⟩
  case round1 =>
    obtain ⟨i, rfl, hi, rfl, HA, rfl⟩ := hrel
    by_cases hlt : i < rooms.length
    · obtain ⟨b1, o1, e1, hb1, hc1⟩ := hr.at i hlt
      subst e1
      obtain ⟨X, hX⟩ : ∃ X, X = rooms.getD i 0 := ⟨_, rfl⟩
      rw [← hX] at hc1
      have HX := Lib.hid hX
      clear hX
      go_wp2_with fail
      refine (rmay_any X _).mono ?_
      rintro en w1 ⟨rfl, rfl⟩
      cases hm : mayB X
      · have HE := Lib.hid (show rightR rooms l = false by
          have := mays_stop hlt (by rw [← HX.out]; exact hm)
          simp [rightR, this])
        clear hm
        go_wp2_with fail
        go_ret
        exact ⟨by rw [HE.out]; rfl, Below.refl _ _⟩
      · have HA2 := Lib.hid (mays_step hlt HA.out (by rw [← HX.out]; exact hm))
        clear hm
        go_wp2_with fail
        refine Round.intro (rooms.length - (i + 1)) ?measure2 (by kernel_rfl) (hJ1 _ _ _ ?rel2)
        case' rel2 => (try dsimp only [nthV])
        case measure2 => omega
        case rel2 => exact ⟨i + 1, by go_num, hlt, rfl, HA2, rfl⟩
    · have HM := Lib.hid (mays_full (by omega : i = rooms.length) HA.out)
      clear HA
      go_wp2_with fail
      refine wp_loopM [none, none, none, none, some 4, some 5, none, some 7, none, none, none, none, none, none, none, none, none, none, none, none, none, none, none, none, none, none, none, none, none, none, some 30, some 31, some 32, some 33, some 34, some 35, some 36, some 37, some 38, some 39, some 40, some 41, some 42, some 43, some 44, some 45, some 46, some 47, some 48, some 49, some 50, some 51, some 52, some 53, some 54, some 55, some 56, some 57, some 58, some 59, some 60, some 61, some 62, some 63, some 64, some 65, some 66, some 67, some 68, some 69, none, none, none, none, none, none, none] (fun (r2 : Nat) (f : Nat → Value) (wq : World) => (fun (vo v : Value) => ∃ j : Nat, v = .int .i64 j ∧ j ≤ l.length ∧ r2 = l.length - j ∧ Hid ((l.take j).all (goodD rooms.length) = true) ∧ Sep wr wq [intsT .i64 2 vo ((l.take j).map (·.x))]) (f 5) (f 7)) (l.length) (by kernel_rfl) ?atStart3 ?round3
      case' atStart3 => (try dsimp only [nthV])
      case' round3 =>
        intro gk f wr l hl hrel J2 K2 hJ2 hK2
        (try simp only [mask] at hl)
        generalize f 5 = u5 at hl hrel
        generalize f 7 = u7 at hl hrel
        subst hl
        (try dsimp only at hrel)
      case atStart3 => exact ⟨0, rfl, Nat.zero_le _, rfl, Lib.hid (by rfl), (Sep.start _).nilInts .i64 _⟩
      case round3 =>
        obtain ⟨j, rfl, hj, rfl, HA, hs⟩ := hrel
        obtain ⟨AM, hAM⟩ : ∃ A, A = (l.take j).map (·.x) := ⟨_, rfl⟩
        have hml : AM.length = j := by rw [hAM]; simp [hj]
        rw [← hAM] at hs
        have HAM := Lib.hid hAM
        clear hAM
        obtain ⟨al, cl, rfl⟩ := (hs.rdInts 0 rfl).shape
        rw [hml] at hs ⊢
        by_cases hlt : j < l.length
        · obtain ⟨b1, o1, e1, hb1, hc1⟩ := (hs.rdG h).at j hlt
          subst e1
          obtain ⟨x, hx⟩ : ∃ x, x = l[j] := ⟨_, rfl⟩
          rw [← hx] at hc1
          have HX := Lib.hid hx
          have HML := Lib.hid hml
          have HAS := Lib.hid (amt_step hlt)
          rw [← hx] at HAS
          clear hx hml
          have RM := Lib.hid (rmayD_any x wr)
          obtain ⟨id, f, t, xx, we, u, hh⟩ := x
          have x0 := hc1 0 (by decide)
          have x1 := hc1 1 (by decide)
          have x2 := hc1 2 (by decide)
          have x3 := hc1 3 (by decide)
          have x4 := hc1 4 (by decide)
          have x5 := hc1 5 (by decide)
          have x6 := hc1 6 (by decide)
          simp only [duR, Nat.add_zero, List.getElem?_cons_zero, List.getElem?_cons_succ] at x0 x1 x2 x3 x4 x5 x6
          clear hc1
          dsimp only [Du.val] at RM
          cases hm : mayD ⟨id, f, t, xx, we, u, hh⟩
          · have HE := Lib.hid (good_stop (rooms := rooms) hlt (by rw [← HX.out]; simp [goodD, inD, hm]))
            rw [hm] at RM
            clear hm
            go_wp2_with fail
            refine (RM.out).mono ?_
            rintro en w1 ⟨rfl, hb⟩
            go_wp2_with fail
            go_ret
            exact ⟨by rw [HE.out]; rfl, (hs.belowStep hb).below⟩
          rw [hm] at RM
          by_cases hf : f < (rooms.length : Int)
          rotate_left
          · have HE := Lib.hid (good_stop (rooms := rooms) hlt (by rw [← HX.out]; simp [goodD, inD, hf]))
            have e1 : decide ((rooms.length : Int) ≤ f) = true := decide_eq_true (by omega)
            go_wp2_with fail
            refine (RM.out).mono ?_
            rintro en w1 ⟨rfl, hb⟩
            have hs2 := hs.belowStep hb
            have y1 := (hb.cell (p := ⟨b1, o1 + j * 7 + 1, none⟩) (Nat.lt_of_lt_of_le hb1 (Nat.le_refl _))).trans x1
            go_wp2_with fail
            go_ret
            exact ⟨by rw [HE.out]; rfl, hs2.below⟩
          have e1 : decide ((rooms.length : Int) ≤ f) = false := decide_eq_false (by omega)
          by_cases ht : t < (rooms.length : Int)
          rotate_left
          · have HE := Lib.hid (good_stop (rooms := rooms) hlt (by rw [← HX.out]; simp [goodD, inD, ht]))
            have e2 : decide ((rooms.length : Int) ≤ t) = true := decide_eq_true (by omega)
            go_wp2_with fail
            refine (RM.out).mono ?_
            rintro en w1 ⟨rfl, hb⟩
            have hs2 := hs.belowStep hb
            have y1 := (hb.cell (p := ⟨b1, o1 + j * 7 + 1, none⟩) (Nat.lt_of_lt_of_le hb1 (Nat.le_refl _))).trans x1
            have y2 := (hb.cell (p := ⟨b1, o1 + j * 7 + 2, none⟩) (Nat.lt_of_lt_of_le hb1 (Nat.le_refl _))).trans x2
            go_wp2_with fail
            go_ret
            exact ⟨by rw [HE.out]; rfl, hs2.below⟩
          have e2 : decide ((rooms.length : Int) ≤ t) = false := decide_eq_false (by omega)
          have HA2 := Lib.hid (good_step hlt HA.out (by rw [← HX.out]; simp [goodD, inD, hm, hf, ht]))
          clear hm hf ht
          go_wp2_with fail
          refine (RM.out).mono ?_
          rintro en w1 ⟨rfl, hb⟩
          replace hs := hs.belowStep hb
          have y1 := (hb.cell (p := ⟨b1, o1 + j * 7 + 1, none⟩) (Nat.lt_of_lt_of_le hb1 (Nat.le_refl _))).trans x1
          have y2 := (hb.cell (p := ⟨b1, o1 + j * 7 + 2, none⟩) (Nat.lt_of_lt_of_le hb1 (Nat.le_refl _))).trans x2
          have y3 := (hb.cell (p := ⟨b1, o1 + j * 7 + 3, none⟩) (Nat.lt_of_lt_of_le hb1 (Nat.le_refl _))).trans x3
          clear x0 x1 x2 x3 x4 x5 x6 RM hb hb1
          go_wp2_with (at_builtin; refine wpList_appInt rfl (.tmp 62) (.tmp 68) 22 rfl 2 i0 _ 8 Try.underlying22 hi0 hz0 hz1 hz2 rfl _ AM .i64 xx hs 0 rfl rfl rfl ?c3 ?c4 ?grow)
          case c3 => rw [HML.out]; unfold maxLen; omega
          case c4 => rw [HML.out]; omega
          case grow =>
            intro v' w5 hs5 hsh
            obtain ⟨g, cap, rfl⟩ := hsh.out
            rw [HML.out] at hs5 ⊢
            (try simp only [List.set_cons_zero] at hs5)
            clear hs hsh y1 y2 y3
            go_wp2_with fail
            refine Round.intro (l.length - (j + 1)) ?measure4 (by kernel_rfl) (hJ2 _ _ _ ?rel4)
            case' rel4 => (try dsimp only [nthV])
            case measure4 => omega
            case rel4 => exact ⟨j + 1, by go_num, hlt, rfl, HA2, by rw [HAS.out, ← HAM.out]; exact hs5⟩
        · obtain rfl : j = l.length := by omega
          have hAM := HAM.out
          rw [List.take_length] at hAM
          have HR := Lib.hid (right_end h16 h64 HM.out (by have := HA.out; rwa [List.take_length] at this))
          rw [← hAM] at HR
          have HRD := Lib.hid (hs.rdInts 0 rfl)
          clear hml hAM
          go_wp2_with fail
          refine (rsum_any _ AM _ HRD.out).mono ?_
          rintro en w5 ⟨rfl, rfl⟩
          go_wp2_with fail
          go_ret
          exact ⟨by rw [HR.out]; rfl, hs.below⟩
end Go.Proofs.Ytlbpkfjebaelpaa
