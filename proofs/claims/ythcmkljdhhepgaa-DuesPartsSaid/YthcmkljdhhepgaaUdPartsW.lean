/-
  DuesParts, walked.
-/
import Derived.Test.YthcmkljdhhepgaaUdParts
set_option linter.unusedVariables false
set_option linter.unusedSimpArgs false
namespace Go.DuesP
open Go Go.Mem Go.BuildP Go.MoneyP
/-- A truth value as it lies in a slice. -/
def boR : Rec Bool where
  m := 1
  cells b := [.bool b]
  len _ := rfl
  one p u hu := by simp only [List.mem_cons, List.not_mem_nil, or_false] at hu; subst hu; rfl
  pos := by decide
end Go.DuesP
namespace Go.Proofs.Ythcmkljdhhepgaa
open Go Go.RowKit Go.Mem Go.MoneyP Go.NetP Go.BuildP Go.DuesP Go.Maps Go.Shelf
attribute [local go_sem] Oper.semAt_some
theorem ne_selfP (x : Int) : (x != x) = false := by simp
/-- What DuesParts keeps from round to round. -/
structure ParI (xs : List Du) (i : Nat) : Prop where
  good : GoodS xs ((i : Int) + 1)
  sum : sumX xs ≤ i * 65536
  len : xs.length ≤ i
set_option maxRecDepth 100000 in
set_option maxHeartbeats 16000000 in
theorem lawParts_any (A P : List Int) (Hs : List Bool) (day : Int) (va vp vh : Value) (w : World) (ha : Rd .u16 w va A) (hp : Rd .u8 w vp P) (hh : RdG boR w vh Hs)
    (hA : ∀ z ∈ A, 0 ≤ z ∧ z ≤ 65535) (hP : ∀ z ∈ P, 0 ≤ z ∧ z ≤ 255) (hday : 0 ≤ day ∧ day ≤ 255) :
    Calls Try.prog 3 #[va, vp, vh, .int .u8 day] w fun en w' => en = .returned (.bool true) ∧ Below w.heap.size w w' := by
  obtain ⟨aa, ca, rfl⟩ := ha.shape
  obtain ⟨ap, cp, rfl⟩ := hp.shape
  obtain ⟨ah, ch, rfl⟩ := hh.shape
  have la := ha.le'
  have lp := hp.le'
  have lh := hh.le'
  obtain ⟨NA, hNA⟩ : ∃ n, n = A.length := ⟨_, rfl⟩
  obtain ⟨NP, hNP⟩ : ∃ n, n = P.length := ⟨_, rfl⟩
  obtain ⟨NH, hNH⟩ : ∃ n, n = Hs.length := ⟨_, rfl⟩
  have HNA := Lib.hid hNA
  have HNP := Lib.hid hNP
  have HNH := Lib.hid hNH
  have RA := Lib.hid ha
  have RP := Lib.hid hp
  have RH := Lib.hid hh
  have HA := Lib.hid hA
  have HP := Lib.hid hP
  rw [← hNA] at la ⊢
  rw [← hNP] at lp ⊢
  rw [← hNH] at lh ⊢
  obtain ⟨hd0, hd1⟩ := hday
  clear ha hp hh hA hP hNA hNP hNH
  by_cases b1 : 30 < NA
  · have e1 : decide ((30 : Int) < (NA : Int)) = true := decide_eq_true (by omega)
    go_enter Try.func3, Try.ntmps3
    go_wp2_with fail
    refine (works_any _).mono ?_
    rintro en w1 ⟨rfl, hb⟩
    go_wp2_with fail
    go_ret
    exact ⟨rfl, hb⟩
  have e1 : decide ((30 : Int) < (NA : Int)) = false := decide_eq_false (by omega)
  by_cases b2 : 60 < NP
  · have e2 : decide ((60 : Int) < (NP : Int)) = true := decide_eq_true (by omega)
    go_enter Try.func3, Try.ntmps3
    go_wp2_with fail
    refine (works_any _).mono ?_
    rintro en w1 ⟨rfl, hb⟩
    go_wp2_with fail
    go_ret
    exact ⟨rfl, hb⟩
  have e2 : decide ((60 : Int) < (NP : Int)) = false := decide_eq_false (by omega)
  by_cases b3 : 30 < NH
  · have e3 : decide ((30 : Int) < (NH : Int)) = true := decide_eq_true (by omega)
    go_enter Try.func3, Try.ntmps3
    go_wp2_with fail
    refine (works_any _).mono ?_
    rintro en w1 ⟨rfl, hb⟩
    go_wp2_with fail
    go_ret
    exact ⟨rfl, hb⟩
  have e3 : decide ((30 : Int) < (NH : Int)) = false := decide_eq_false (by omega)
  go_enter Try.func3, Try.ntmps3
  go_wp2_with fail
  refine (duesNew_any (Sep.start w)).mono ?_
  rintro en w1 ⟨b, rfl, hs⟩
  go_wp2_with fail
  refine wp_loopM [none, none, none, none, none, none, none, none, some 8, none, some 10, some 11, some 12, some 13, some 14, some 15, some 16, some 17, some 18, some 19, some 20, some 21, some 22, none, none, none, none, none, none, none, none, none, none, none, none, none, none, none, none, none, none, none, none, none, some 44, some 45, some 46, some 47, some 48, some 49, some 50, some 51, some 52, some 53, some 54, some 55, some 56, some 57, some 58, some 59, some 60, some 61, some 62, some 63, some 64, some 65, some 66, some 67, some 68, some 69, some 70, some 71, some 72, some 73, some 74, some 75, some 76, some 77, some 78, some 79, some 80, some 81, some 82, some 83, some 84, some 85, some 86, some 87, some 88, some 89, some 90, some 91, some 92, some 93, some 94, some 95, some 96, some 97, some 98, some 99, some 100, some 101, some 102, some 103, some 104, some 105, some 106, some 107, some 108, some 109, some 110, some 111, some 112, some 113, some 114, some 115, some 116, some 117, some 118, some 119, some 120, some 121, some 122, some 123, some 124, some 125, some 126, some 127, some 128, some 129, some 130, some 131, some 132, some 133, some 134, some 135, some 136, some 137, some 138, some 139, some 140, some 141, some 142, some 143, some 144, some 145, some 146, some 147, some 148, some 149, some 150, none, none, none, none, none, none, none, none, none, none, none, none, none, none, none, none, none, none, none, none, none, none, none, none, none, none, none, none, none, none, none, none, none, none, none, none, none, none, none, none, none, none, none, none, none, none, none, none, none, none, none, none, none, none, none, none, none, none, none, none, none, none, none, none, none, none] (fun (r : Nat) (f : Nat → Value) (wr : World) => (fun (vl vg vi : Value) => ∃ (i : Nat) (xs : List Du), vi = .int .i64 i ∧ vl = .int .u64 i ∧ vg = .int .i64 (sumX xs) ∧ i ≤ NA ∧ r = NA - i ∧ Hid (ParI xs i) ∧ Sep w wr [duesT b xs ((i : Int) + 1)]) (f 10) (f 11) (f 12)) (NA) (by kernel_rfl) ?atStart1 ?round1
  case' atStart1 => (try dsimp only [nthV])
  case' round1 =>
    intro gk f wr l hl hrel J1 K1 hJ1 hK1
    (try simp only [mask] at hl)
    generalize f 10 = u10 at hl hrel
    generalize f 11 = u11 at hl hrel
    generalize f 12 = u12 at hl hrel
    subst hl
    (try dsimp only at hrel)
  case atStart1 => exact ⟨0, [], rfl, rfl, rfl, Nat.zero_le _, rfl, Lib.hid ⟨GoodS.nil, by decide, Nat.le_refl _⟩, hs⟩
  case round1 =>
    clear hs
    obtain ⟨i, xs, rfl, rfl, rfl, hiN, rfl, HI, hs⟩ := hrel
    obtain ⟨S, hS⟩ : ∃ S, S = sumX xs := ⟨_, rfl⟩
    have HS := Lib.hid hS
    have hS0 : 0 ≤ S := by rw [hS]; exact HI.out.good.s0
    have hS1 : S ≤ i * 65536 := by rw [hS]; exact HI.out.sum
    rw [← hS]
    clear hS
    have hi30 : i ≤ 30 := by omega
    by_cases hi : i < NA
    · have hiI : (i : Int) < (NA : Int) := by omega
      have hiA : i < A.length := by rw [← HNA.out]; exact hi
      obtain ⟨bq, oq, eq, hbq, z0⟩ := RA.out.at i hiA
      replace z0 := (hs.cell hbq).trans z0
      obtain ⟨X, hX⟩ : ∃ X, X = A.getD i 0 := ⟨_, rfl⟩
      have hXb : 0 ≤ X ∧ X ≤ 65535 := by rw [hX]; exact HA.out _ (getD_mem hiA)
      rw [← hX] at z0
      clear hX hiA hbq
      subst eq
      have m1 : 0 ≤ (i : Int) % 16 ∧ (i : Int) % 16 < 16 := by omega
      have m2 : 0 ≤ ((i : Int) + 1) % 16 ∧ ((i : Int) + 1) % 16 < 16 := by omega
      have m3 : 0 ≤ (i : Int) % 8 ∧ (i : Int) % 8 < 8 := by omega
      have HADD := Lib.hid (duesAdd_any hs (i := 0) rfl HI.out.good ((i : Int) % 16) (((i : Int) + 1) % 16) (1 + X) 1 ((i : Int) % 8))
      obtain ⟨d, hd⟩ : ∃ d : Du, d = ⟨(i : Int) + 1, (i : Int) % 16, ((i : Int) + 1) % 16, 1 + X, 1, (i : Int) % 8, false⟩ := ⟨_, rfl⟩
      have hmd : MayD d := by rw [hd]; exact ⟨m1.1, m1.2, m2.1, m2.2, by show (i : Int) % 16 ≠ ((i : Int) + 1) % 16; omega, by show 1 ≤ 1 + X; omega, by show 1 + X ≤ _; omega, by simp, by simp, m3.1⟩
      have hlen := HI.out.len
      have hgo : addE xs ((i : Int) + 1) d = 0 := add_goes HI.out.good hmd (by omega) (by omega) (by rw [← HS.out, hd]; show S + (1 + X) ≤ _; omega)
      obtain ⟨a1, a2, a3⟩ := add_is hgo
      unfold AddD at HADD
      rw [← hd, hgo, a1, a2, a3] at HADD
      have HG2 := Lib.hid (show GoodS (xs ++ [d]) ((i : Int) + 1 + 1) from HI.out.good.add (by rw [hd]) hgo)
      have HLO := Lib.hid (show ∀ e ∈ xs, e.id < (i : Int) + 1 from fun e he => (HI.out.good.ok e he).2.2)
      have HDI := Lib.hid (show d.id = (i : Int) + 1 by rw [hd])
      have HDX := Lib.hid (show d.x = 1 + X by rw [hd])
      have HDH := Lib.hid (show d.h = false by rw [hd])
      have HDC := Lib.hid hd
      clear hs hmd hgo a1 a2 a3 hd
      go_wp2_with fail
      refine HADD.out.mono ?_
      rintro en w2 ⟨rfl, hs⟩
      have hs : Sep w w2 [duesT b (xs ++ [d]) ((i : Int) + 1 + 1)] := hs
      have hx0 : d.x ≠ 0 := by rw [HDX.out]; omega
      rw [cur_start hx0 HDH.out, HDX.out] at hs
      have hnl : ¬ (i : Int) + 1 ≤ (i : Int) := by omega
      obtain ⟨H, hH⟩ : ∃ H, H = (decide (i < NH) && Hs.getD i false) := ⟨_, rfl⟩
      have HH := Lib.hid hH
      have HX0 := Lib.hid hx0
      clear z0 HADD hH hx0
      have HS1 := Lib.hid hs
      clear hs
      go_upto_region 14 with fail
      refine wp_cutM [none, none, none, none, none, none, none, none, none, none, none, none, none, none, none, none, some 16, none, none, none, none, none, none, none, none, none, none, none, none, none, none, none, none, none, none, none, none, none, none, none, none, none, none, none, none, none, none, none, none, none, none, none, none, none, none, none, none, none, none, none, none, none, none, none, none, none, none, none, none, none, none, none, none, none, none, none, none, some 77, some 78, some 79, some 80, some 81, some 82, some 83, some 84, some 85, some 86, none, none, none, none, none, none, none, none, none, none, none, none, none, none, none, none, none, none, none, none, none, none, none, none, none, none, none, none, none, none, none, none, none, none, none, none, none, none, none, none, none, none, none, none, none, none, none, none, none, none, none, none, none, none, none, none, none, none, none, none, none, none, none, none, none, none, none, none, none, none, none, none, none, none, none, none, none, none, none, none, none, none, none, none, none, none, none, none, none, none, none, none, none, none, none, none, none, none, none, none, none, none, none, none, none, none, none, none, none, none, none, none, none, none, none, none, none, none, none, none, none, none, none, none, none, none, none, none, none, none] (fun (f : Nat → Value) (wq : World) => (fun (vh : Value) => vh = .bool H ∧ wq = w2) (f 16)) ?first2 ?rest2
      case' first2 => intro JC KC hJC hKC
      case' rest2 =>
        intro f wr l hl hrel
        (try simp only [mask] at hl)
        generalize f 16 = u16 at hl hrel
        subst hl
        (try dsimp only at hrel)
      case first2 =>
        by_cases ih : i < NH
        · have ihI : (i : Int) < (NH : Int) := by omega
          have ihx : i < Hs.length := by rw [← HNH.out]; exact ih
          obtain ⟨bh, oh, eh, hbh, hcell⟩ := RH.out.at i ihx
          have y0 := (HS1.out.cell hbh).trans (hcell 0 (by decide))
          obtain ⟨Y, hY⟩ : ∃ Y, Y = Hs[i]'ihx := ⟨_, rfl⟩
          have HHY := Lib.hid (show H = Y by rw [HH.out, decide_eq_true ih, Bool.true_and, hY, List.getD_eq_getElem?_getD, List.getElem?_eq_getElem ihx]; rfl)
          simp only [boR, List.getElem?_cons_zero, Nat.add_zero, Nat.mul_one, ← hY] at y0
          clear hcell hY ihx hbh
          subst eh
          go_wp2_with fail
          refine Meet.intro (by kernel_rfl) (hJC _ _ ?rel3)
          case' rel3 => (try dsimp only [nthV])
          exact ⟨by rw [HHY.out], rfl⟩
        · have ihI : decide ((i : Int) < (NH : Int)) = false := decide_eq_false (by omega)
          have HHY := Lib.hid (show H = false by rw [HH.out, decide_eq_false ih, Bool.false_and])
          go_wp2_with fail
          refine Meet.intro (by kernel_rfl) (hJC _ _ ?rel4)
          case' rel4 => (try dsimp only [nthV])
          exact ⟨by rw [HHY.out], rfl⟩
      case rest2 =>
        obtain ⟨rfl, rfl⟩ := hrel
        go_upto_region 15 with fail
        refine wp_cutM [none, none, none, none, none, none, none, none, none, none, none, none, none, none, none, none, some 16, none, none, none, none, none, none, none, none, none, none, none, none, none, none, none, none, none, none, none, none, none, none, none, none, none, none, none, none, none, none, none, none, none, none, none, none, none, none, none, none, none, none, none, none, none, none, none, none, none, none, none, none, none, none, none, none, none, none, none, none, none, none, none, none, none, none, none, none, none, none, some 87, some 88, some 89, some 90, some 91, some 92, some 93, none, none, none, none, none, none, none, none, none, none, none, none, none, none, none, none, none, none, none, none, none, none, none, none, none, none, none, none, none, none, none, none, none, none, none, none, none, none, none, none, none, none, none, none, none, none, none, none, none, none, none, none, none, none, none, none, none, none, none, none, none, none, none, none, none, none, none, none, none, none, none, none, none, none, none, none, none, none, none, none, none, none, none, none, none, none, none, none, none, none, none, none, none, none, none, none, none, none, none, none, none, none, none, none, none, none, none, none, none, none, none, none, none, none, none, none, none, none, none, none, none, none, none] (fun (f : Nat → Value) (wq : World) => (fun (vt vh : Value) => vt = .bool false ∧ vh = .bool H ∧ Sep w wq [duesT b (curL xs d (1 + X) H) ((i : Int) + 1 + 1)]) (f 93) (f 16)) ?first5 ?rest5
        case' first5 => intro JC KC hJC hKC
        case' rest5 =>
          intro f wr l hl hrel
          (try simp only [mask] at hl)
          generalize f 93 = u93 at hl hrel
          generalize f 16 = u16 at hl hrel
          subst hl
          (try dsimp only at hrel)
        case first5 =>
          cases H
          · go_wp2_with fail
            refine Meet.intro (by kernel_rfl) (hJC _ _ ?rel6)
            case' rel6 => (try dsimp only [nthV])
            exact ⟨rfl, rfl, HS1.out⟩
          · have hg0 := HG2.out
            rw [cur_start HX0.out HDH.out, HDX.out] at hg0
            have HC := Lib.hid (hold_u HS1.out (i := 0) rfl hg0 ((i : Int) + 1) (by omega) (by omega))
            obtain ⟨q1, q2⟩ := held_cur HDI.out HLO.out HX0.out HDH.out
            rw [cur_start HX0.out HDH.out, HDX.out] at q1 q2
            unfold TurnD at HC
            rw [q1, q2] at HC
            clear q1 q2 hg0
            go_wp2_with fail
            refine HC.out.mono ?_
            rintro en w3 ⟨rfl, hs⟩
            have HS3 := Lib.hid (show Sep w w3 [duesT b (curL xs d (1 + X) true) ((i : Int) + 1 + 1)] from hs)
            clear hs HC
            go_wp2_with fail
            refine Meet.intro (by kernel_rfl) (hJC _ _ ?rel7)
            case' rel7 => (try dsimp only [nthV])
            exact ⟨rfl, rfl, HS3.out⟩
        case rest5 =>
          clear HS1 HH
          obtain ⟨rfl, rfl, hs⟩ := hrel
          obtain ⟨X0, hX0⟩ : ∃ Y, Y = 1 + X := ⟨_, rfl⟩
          have hX0b : 1 ≤ X0 ∧ X0 ≤ 65536 := by omega
          rw [← hX0] at hs HDX ⊢
          clear hX0 hXb HDC
          go_wp2_with fail
          refine wp_loopM [none, none, none, none, none, none, none, none, some 8, none, none, none, none, some 13, none, none, none, some 17, some 18, some 19, some 20, none, none, none, none, none, none, none, none, none, none, none, none, none, none, none, none, none, none, none, none, none, none, none, none, none, none, none, none, none, none, none, none, none, none, none, none, none, none, none, none, none, none, none, none, none, none, none, none, none, none, none, none, none, none, none, none, none, none, none, none, none, none, none, none, none, none, none, none, none, none, none, none, none, some 94, some 95, some 96, some 97, some 98, some 99, some 100, some 101, some 102, some 103, some 104, some 105, some 106, some 107, some 108, some 109, some 110, some 111, some 112, some 113, some 114, some 115, some 116, some 117, some 118, some 119, some 120, some 121, some 122, none, none, none, none, none, none, none, none, none, none, none, none, none, none, none, none, none, none, none, none, none, none, none, none, none, none, none, none, none, none, none, none, none, none, none, none, none, none, none, none, none, none, none, none, none, none, none, none, none, none, none, none, none, none, none, none, none, none, none, none, none, none, none, none, none, none, none, none, none, none, none, none, none, none, none, none, none, none, none, none, none, none, none, none, none, none, none, none, none, none, none, none, none, none] (fun (r : Nat) (f : Nat → Value) (wr : World) => (fun (vx vk : Value) => ∃ (k : Nat) (x : Int), vk = .int .i64 k ∧ vx = .int .i64 x ∧ 0 ≤ x ∧ x ≤ X0 ∧ k ≤ NP ∧ r = NP - k ∧ Sep w wr [duesT b (curL xs d x H) ((i : Int) + 1 + 1)]) (f 13) (f 17)) (NP) (by kernel_rfl) ?atStart8 ?round8
          case' atStart8 => (try dsimp only [nthV])
          case' round8 =>
            intro gk f wr l hl hrel J2 K2 hJ2 hK2
            (try simp only [mask] at hl)
            generalize f 13 = u13 at hl hrel
            generalize f 17 = u17 at hl hrel
            subst hl
            (try dsimp only at hrel)
          case atStart8 => exact ⟨0, X0, rfl, rfl, by omega, Int.le_refl _, Nat.zero_le _, rfl, hs⟩
          case round8 =>
            clear hs
            obtain ⟨k, x, rfl, rfl, hx0, hx1, hkN, rfl, hs⟩ := hrel
            have HGC := Lib.hid (show GoodS (curL xs d x H) ((i : Int) + 1 + 1) from cur_good HG2.out hx0 (by rw [HDX.out]; exact hx1))
            by_cases hk : k < NP
            · have hkI : (k : Int) < (NP : Int) := by omega
              have hkP : k < P.length := by rw [← HNP.out]; exact hk
              obtain ⟨bp, op, ep, hbp, z0⟩ := RP.out.at k hkP
              replace z0 := (hs.cell hbp).trans z0
              obtain ⟨Y, hY⟩ : ∃ Y, Y = P.getD k 0 := ⟨_, rfl⟩
              have hYb : 0 ≤ Y ∧ Y ≤ 255 := by rw [hY]; exact HP.out _ (getD_mem hkP)
              rw [← hY] at z0
              clear hY hkP hbp
              subst ep
              have HC := Lib.hid (pay_u hs (i := 0) rfl HGC.out ((i : Int) + 1) (by omega) (by omega) Y)
              obtain ⟨q1, q2⟩ := pay_cur (x := x) (p := Y) (h := H) HDI.out HLO.out hYb.1
              unfold TurnD at HC
              rw [q1, q2] at HC
              obtain ⟨n0, n1⟩ := next_ok (x := x) (h := H) (p := Y) hx0 hYb.1
              clear hs q1 q2
              go_wp2_with fail
              refine HC.out.mono ?_
              rintro en w3 ⟨rfl, hs⟩
              have HS3 := Lib.hid (show Sep w w3 [duesT b (curL xs d (nextX x H Y) H) ((i : Int) + 1 + 1)] from hs)
              clear hs HC z0
              by_cases c1 : x = 0
              · have HW := Lib.hid (show wantE x H Y = 11 ∧ nextX x H Y = x by
                  have h1 : wantE x H Y = 11 := by unfold wantE; rw [if_pos c1]
                  exact ⟨h1, by unfold nextX; rw [h1]; rfl⟩)
                have c1b : (x == 0) = true := by simpa using c1
                rw [HW.out.1]
                clear c1
                go_wp2_with fail
                refine Round.intro ((NP - (k + 1))) ?measure9 (by kernel_rfl) (hJ2 _ _ _ ?rel9)
                case' rel9 => (try dsimp only [nthV])
                case measure9 => omega
                case rel9 => exact ⟨k + 1, x, by go_num, rfl, hx0, hx1, by omega, rfl, by have := HS3.out; rwa [HW.out.2] at this⟩
              · have c1b : (x == 0) = false := by simpa using c1
                cases H
                · by_cases c2 : x < Y
                  · have HW := Lib.hid (show wantE x false Y = 12 ∧ nextX x false Y = x by
                      have h1 : wantE x false Y = 12 := by unfold wantE; rw [if_neg c1, if_neg (by simp), if_pos c2]
                      exact ⟨h1, by unfold nextX; rw [h1]; rfl⟩)
                    have c2b : decide (x < Y) = true := decide_eq_true c2
                    rw [HW.out.1]
                    clear c1 c2
                    go_wp2_with fail
                    refine Round.intro ((NP - (k + 1))) ?measure10 (by kernel_rfl) (hJ2 _ _ _ ?rel10)
                    case' rel10 => (try dsimp only [nthV])
                    case measure10 => omega
                    case rel10 => exact ⟨k + 1, x, by go_num, rfl, hx0, hx1, by omega, rfl, by have := HS3.out; rwa [HW.out.2] at this⟩
                  · have HW := Lib.hid (show wantE x false Y = 0 ∧ nextX x false Y = x - Y by
                      have h1 : wantE x false Y = 0 := by unfold wantE; rw [if_neg c1, if_neg (by simp), if_neg c2]
                      exact ⟨h1, by unfold nextX; rw [h1]; rfl⟩)
                    have c2b : decide (x < Y) = false := decide_eq_false c2
                    rw [HW.out.1]
                    rw [HW.out.2] at n0 n1
                    clear c1 c2
                    go_wp2_with fail
                    refine Round.intro ((NP - (k + 1))) ?measure11 (by kernel_rfl) (hJ2 _ _ _ ?rel11)
                    case' rel11 => (try dsimp only [nthV])
                    case measure11 => omega
                    case rel11 => exact ⟨k + 1, x - Y, by go_num, rfl, n0, by omega, by omega, rfl, by have := HS3.out; rwa [HW.out.2] at this⟩
                · have HW := Lib.hid (show wantE x true Y = 14 ∧ nextX x true Y = x by
                    have h1 : wantE x true Y = 14 := by unfold wantE; rw [if_neg c1, if_pos rfl]
                    exact ⟨h1, by unfold nextX; rw [h1]; rfl⟩)
                  rw [HW.out.1]
                  clear c1
                  go_wp2_with fail
                  refine Round.intro ((NP - (k + 1))) ?measure12 (by kernel_rfl) (hJ2 _ _ _ ?rel12)
                  case' rel12 => (try dsimp only [nthV])
                  case measure12 => omega
                  case rel12 => exact ⟨k + 1, x, by go_num, rfl, hx0, hx1, by omega, rfl, by have := HS3.out; rwa [HW.out.2] at this⟩
            · obtain rfl : NP = k := by omega
              have HC := Lib.hid (duesGet_any hs (i := 0) rfl ((i : Int) + 1) (by omega) (by omega))
              obtain ⟨g1, g2⟩ := get_cur (x := x) (h := H) HDI.out HLO.out
              have HPI := Lib.hid (show ParI (curL xs d x H) (i + 1) from ⟨by
                  have := HGC.out
                  rwa [show (((i + 1 : Nat) : Int) + 1) = (i : Int) + 1 + 1 by omega], by
                  rw [cur_sum, ← HS.out]; omega, by
                  have := cur_len (xs := xs) (d := d) (x := x) (h := H)
                  omega⟩)
              have HSC := Lib.hid (show sumX (curL xs d x H) = S + x by rw [cur_sum, ← HS.out])
              have HNX := Lib.hid (show (((i + 1 : Nat) : Int) + 1) = (i : Int) + 1 + 1 by omega)
              clear hs
              by_cases c1 : x = 0
              · obtain ⟨q1, q2⟩ := g1 c1
                have hpos : decide ((0 : Int) < x) = false := decide_eq_false (by omega)
                rw [q1, q2] at HC
                simp only [Du.val, default] at HC
                clear q1 q2 g1 g2 c1
                go_wp2_with fail
                refine HC.out.mono ?_
                rintro en w3 ⟨rfl, hs⟩
                have HS3 := Lib.hid hs
                clear hs HC
                go_wp2_with fail
                refine Round.intro ((NA - (i + 1))) ?measure13 (by kernel_rfl) (hJ1 _ _ _ ?rel13)
                case' rel13 => (try dsimp only [nthV])
                case measure13 => omega
                case rel13 => exact ⟨i + 1, curL xs d x H, by go_num, by go_num, by rw [HSC.out], by omega, rfl, HPI, by rw [HNX.out]; exact HS3.out.alloc _⟩
              · obtain ⟨q1, q2⟩ := g2 c1
                have hpos : decide ((0 : Int) < x) = true := decide_eq_true (by omega)
                have NX := ne_selfP
                rw [q1, q2] at HC
                dsimp only [Du.val] at HC
                clear q1 q2 g1 g2 c1
                go_wp2_with fail
                refine HC.out.mono ?_
                rintro en w3 ⟨rfl, hs⟩
                have HS3 := Lib.hid hs
                clear hs HC
                go_wp2_with fail
                refine Round.intro ((NA - (i + 1))) ?measure14 (by kernel_rfl) (hJ1 _ _ _ ?rel14)
                case' rel14 => (try dsimp only [nthV])
                case measure14 => omega
                case rel14 => exact ⟨i + 1, curL xs d x H, by go_num, by go_num, by rw [HSC.out], by omega, rfl, HPI, by rw [HNX.out]; exact HS3.out.alloc _⟩
    · obtain rfl : NA = i := by omega
      have HGR := Lib.hid (duesGross_any hs (i := 0) rfl (by have := HI.out.len; omega))
      rw [HI.out.good.gx, ← HS.out] at HGR
      have HNX := Lib.hid (fun (W : World) (h : Sep w W [duesT b xs ((NA : Int) + 1)]) => duesNext_any h (i := 0) rfl)
      have NX := ne_selfP
      clear hs
      go_wp2_with fail
      refine HGR.out.mono ?_
      rintro en w3 ⟨rfl, hs⟩
      clear HGR
      go_wp2_with fail
      refine (HNX.out _ hs).mono ?_
      rintro en w4 ⟨rfl, rfl⟩
      have HL := Lib.hid (duesList_any hs (i := 0) rfl HI.out.good)
      clear HNX hs
      go_wp2_with fail
      refine HL.out.mono ?_
      rintro en w5 ⟨vl, rfl, hs⟩
      obtain ⟨al, cl, rfl⟩ := (hs.rdRecs 0 rfl).shape
      obtain ⟨n, hn⟩ : ∃ n, n = xs.length := ⟨_, rfl⟩
      have HN := Lib.hid hn
      have hn30 : n ≤ 30 := by have := HI.out.len; omega
      rw [← hn] at hs ⊢
      have hs0 : Sep w w5 [recT duR 36 (.slice al n cl) xs, duesT b xs ((NA : Int) + 1)] := hs
      clear hs HL hn
      go_wp2_with fail
      refine wp_loopM [none, none, none, none, none, none, none, none, none, none, none, none, none, none, none, none, none, none, none, none, none, none, none, none, some 24, some 25, none, none, none, none, none, none, none, none, none, none, none, none, none, none, none, none, none, none, none, none, none, none, none, none, none, none, none, none, none, none, none, none, none, none, none, none, none, none, none, none, none, none, none, none, none, none, none, none, none, none, none, none, none, none, none, none, none, none, none, none, none, none, none, none, none, none, none, none, none, none, none, none, none, none, none, none, none, none, none, none, none, none, none, none, none, none, none, none, none, none, none, none, none, none, none, none, none, none, none, none, none, none, none, none, none, none, none, none, none, none, none, none, none, none, none, none, none, none, none, none, none, none, none, none, none, none, none, none, none, none, none, none, none, none, none, none, none, none, some 164, some 165, some 166, some 167, some 168, some 169, some 170, some 171, some 172, some 173, some 174, some 175, some 176, some 177, some 178, some 179, none, none, none, none, none, none, none, none, none, none, none, none, none, none, none, none, none, none, none, none, none, none, none, none, none, none, none, none, none, none, none, none, none, none, none, none, none] (fun (r : Nat) (f : Nat → Value) (wr : World) => (fun (vo vj : Value) => ∃ j : Nat, vj = .int .i64 j ∧ vo = .int .i64 (overN xs day j : Nat) ∧ j ≤ n ∧ r = n - j ∧ Sep w wr [recT duR 36 (.slice al n cl) xs, duesT b xs ((NA : Int) + 1)]) (f 24) (f 25)) (n) (by kernel_rfl) ?atStart15 ?round15
      case' atStart15 => (try dsimp only [nthV])
      case' round15 =>
        intro gk f wr l hl hrel J3 K3 hJ3 hK3
        (try simp only [mask] at hl)
        generalize f 24 = u24 at hl hrel
        generalize f 25 = u25 at hl hrel
        subst hl
        (try dsimp only at hrel)
      case atStart15 => exact ⟨0, rfl, rfl, Nat.zero_le _, rfl, hs0⟩
      case round15 =>
        clear hs0
        obtain ⟨j, rfl, rfl, hjn, rfl, hs⟩ := hrel
        obtain ⟨O, hO⟩ : ∃ O, O = overN xs day j := ⟨_, rfl⟩
        have hO30 : O ≤ 30 := by
          rw [hO]
          have h1 := exp_len_eq (xs.take j) day
          rw [List.length_take] at h1
          unfold overN
          have := HN.out
          omega
        rw [← hO]
        have HO := Lib.hid hO
        clear hO
        by_cases hj : j < n
        · have hjI : (j : Int) < (n : Int) := by omega
          have hjx : j < xs.length := by rw [← HN.out]; exact hj
          obtain ⟨bx1, ox1, ex1, _, hcx⟩ := (hs.rdRecs 0 rfl).at j hjx
          have x5 := hcx 5 (by decide)
          have HST := Lib.hid (over_step (day := day) hjx)
          obtain ⟨D, hD⟩ : ∃ D : Du, D = xs[j]'hjx := ⟨_, rfl⟩
          simp only [duR, List.getElem?_cons_zero, List.getElem?_cons_succ, Nat.add_zero, ← hD] at x5
          rw [← hD] at HST
          clear hD hjx hcx
          subst ex1
          have HS0 := Lib.hid hs
          clear hs
          by_cases hd : D.u < day
          · have hdb : decide (D.u < day) = true := decide_eq_true hd
            have HSQ := Lib.hid (show overN xs day (j + 1) = O + 1 by rw [HST.out, if_pos hd, HO.out])
            clear hd
            go_wp2_with fail
            refine Round.intro ((n - (j + 1))) ?measure16 (by kernel_rfl) (hJ3 _ _ _ ?rel16)
            case' rel16 => (try dsimp only [nthV])
            case measure16 => omega
            case rel16 => exact ⟨j + 1, by go_num, by rw [HSQ.out]; go_num, by omega, rfl, HS0.out⟩
          · have hdb : decide (D.u < day) = false := decide_eq_false hd
            have HSQ := Lib.hid (show overN xs day (j + 1) = O by rw [HST.out, if_neg hd, HO.out]; rfl)
            clear hd
            go_wp2_with fail
            refine Round.intro ((n - (j + 1))) ?measure17 (by kernel_rfl) (hJ3 _ _ _ ?rel17)
            case' rel17 => (try dsimp only [nthV])
            case measure17 => omega
            case rel17 => exact ⟨j + 1, by go_num, by rw [HSQ.out], by omega, rfl, HS0.out⟩
        · obtain rfl : n = j := by omega
          have HOI := Lib.hid (show (expI xs day).length = O by rw [HO.out, HN.out]; unfold overN; rw [List.take_length])
          have HC := Lib.hid (duesExpire_any hs (i := 1) rfl HI.out.good day)
          clear hs
          go_wp2_with fail
          refine HC.out.mono ?_
          rintro en w6 ⟨vg, rfl, hs⟩
          obtain ⟨ag, cg, rfl⟩ := (hs.rdInts 0 rfl).shape
          rw [HOI.out] at hs ⊢
          obtain ⟨ys, hys⟩ : ∃ ys, ys = expS xs day := ⟨_, rfl⟩
          have HGY := Lib.hid (show GoodS ys ((NA : Int) + 1) by rw [hys]; exact HI.out.good.exp day)
          have hyl : ys.length + O = n := by rw [hys, ← HOI.out, HN.out]; exact exp_len_eq xs day
          have hyS : sumX ys ≤ S := by
            rw [hys, exp_sum, ← HS.out]
            have := (HI.out.good.expG day).s0
            omega
          have hs : Sep w w6 [intsT .u64 28 (.slice ag O cg) (expI xs day), recT duR 36 (.slice al n cl) xs, duesT b ys ((NA : Int) + 1)] := by rw [hys]; exact hs
          have HADD := Lib.hid (duesAdd_any hs (i := 2) rfl HGY.out 0 1 1 1 1000)
          obtain ⟨d, hd⟩ : ∃ d : Du, d = ⟨(NA : Int) + 1, 0, 1, 1, 1, 1000, false⟩ := ⟨_, rfl⟩
          have hmd : MayD d := by rw [hd]; exact ⟨by simp, by simp, by simp, by simp, by simp, by simp, by simp, by simp, by simp, by simp⟩
          have hgo : addE ys ((NA : Int) + 1) d = 0 := add_goes HGY.out hmd (by omega) (by omega) (by rw [hd]; show sumX ys + 1 ≤ _; omega)
          obtain ⟨a1, a2, a3⟩ := add_is hgo
          unfold AddD at HADD
          rw [← hd, hgo, a1, a2, a3] at HADD
          have HG3 := Lib.hid (show GoodS (ys ++ [d]) ((NA : Int) + 1 + 1) from HGY.out.add (by rw [hd]) hgo)
          clear HC hs hys hmd hgo a1 a2 a3 hd hyS
          go_wp2_with fail
          refine HADD.out.mono ?_
          rintro en w7 ⟨rfl, hs⟩
          have hs : Sep w w7 [intsT .u64 28 (.slice ag O cg) (expI xs day), recT duR 36 (.slice al n cl) xs, duesT b (ys ++ [d]) ((NA : Int) + 1 + 1)] := hs
          have HL := Lib.hid (duesList_any hs (i := 2) rfl HG3.out)
          clear HADD hs
          go_wp2_with fail
          refine HL.out.mono ?_
          rintro en w8 ⟨vq, rfl, hs⟩
          obtain ⟨aq, cq, rfl⟩ := (hs.rdRecs 0 rfl).shape
          rw [List.length_append, List.length_singleton]
          have HB := Lib.hid hs.below
          have hEO : ((n : Int) - (O : Int)) = (ys.length : Int) := by omega
          obtain ⟨YL, hYL⟩ : ∃ YL, YL = ys.length := ⟨_, rfl⟩
          rw [← hYL] at hEO hyl ⊢
          clear HL hs hYL hyl
          go_wp2_with fail
          refine (works_any _).mono ?_
          rintro en w9 ⟨rfl, hb⟩
          have HB2 := Lib.hid (HB.out.trans (hb.mono HB.out.size))
          clear hb
          go_wp2_with fail
          go_ret
          exact ⟨rfl, HB2.out⟩
end Go.Proofs.Ythcmkljdhhepgaa
