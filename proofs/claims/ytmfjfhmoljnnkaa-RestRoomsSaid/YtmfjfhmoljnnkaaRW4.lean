/-
  Package rest: Along, walked.
-/
import Derived.Test.YtmfjfhmoljnnkaaRW3
namespace Go.Proofs.Ytmfjfhmoljnnkaa
open Go Go.RowKit Go.Mem Go.NetP Go.RestP

set_option maxHeartbeats 2000000 in
theorem along_any (n : Int) (a : Option Addr) (c : Nat) (es : List Ed) (v : Value) (fl : List Int) (va : Value) (arcs : List Int) (b : Int) (w : World) (h : RdG edR w (.slice a es.length c) es) (h' : Rd .i64 w v fl) (ha : Rd .i64 w va arcs) (hsm : es.length ≤ 100000) :
    Calls Try.prog 21 #[.agg #[.int .i64 n, .slice a es.length c], v, va, .int .i64 b] w fun en w' => ∃ u, en = .returned (.tuple #[u, .int .i64 (alongE n es fl arcs b)]) ∧ Sep w w' [intsT .i64 2 u (alongV n es fl arcs b)] := by
  have hs := (Sep.start w).newCells #[.int .i64 n, .slice a es.length c] 24
  have hle := ha.le'
  obtain ⟨a', c', rfl⟩ := h'.shape
  obtain ⟨a2, c2, rfl⟩ := ha.shape
  by_cases hb0 : b < 0
  · have HE := Lib.hid (along_bad (n := n) (es := es) (fl := fl) (arcs := arcs) (b := b) (by simp [alongBad, hb0]))
    go_enter Try.func21, Try.ntmps21
    go_wp2_with fail
    go_step3
    go_wp2_with fail
    (repeat rw [Exit.noGoto_ret]); go_ret2
    exact ⟨_, by rw [HE.out.1]; rfl, by rw [HE.out.2]; exact hs.tail.nilInts _ _⟩
  · go_enter Try.func21, Try.ntmps21
    go_wp2_with fail
    go_step3
    go_wp2_with fail
    refine (way_any n a c es _ arcs _ (hs.rdG h) (hs.rd ha) hsm).mono ?_
    rintro en w1 ⟨rfl, hb⟩
    replace hs := hs.belowStep hb
    clear hb; (try clear n0 n1)
    cases hw : wayB n es arcs
    · have HE := Lib.hid (along_bad (n := n) (es := es) (fl := fl) (arcs := arcs) (b := b) (by simp [alongBad, hw]))
      clear hw
      go_wp2_with fail
      (repeat rw [Exit.noGoto_ret]); go_ret2
      exact ⟨_, by rw [HE.out.1]; rfl, by rw [HE.out.2]; exact hs.tail.nilInts _ _⟩
    · have n0 := cell_of (hs.cells 0 rfl) 0
      have n1 := cell_of (hs.cells 0 rfl) 1
      simp only [List.getElem?_toArray, List.getElem?_cons_zero, List.getElem?_cons_succ] at n0 n1
      go_wp2_with fail
      refine (within_any n a c es _ fl _ (hs.rdG h) (hs.rd h')).mono ?_
      rintro en w2 ⟨rfl, hb⟩
      replace hs := hs.belowStep hb
      clear hb; (try clear n0 n1)
      cases hr : withinB n es fl
      · have HE := Lib.hid (along_bad (n := n) (es := es) (fl := fl) (arcs := arcs) (b := b) (by simp [alongBad, hr]))
        clear hw hr
        go_wp2_with fail
        (repeat rw [Exit.noGoto_ret]); go_ret2
        exact ⟨_, by rw [HE.out.1]; rfl, by rw [HE.out.2]; exact hs.tail.nilInts _ _⟩
      · have HBAD := Lib.hid (show alongBad n es fl arcs b = false by simp [alongBad, hw, hr]; omega)
        have HW := Lib.hid hw
        have HR := Lib.hid hr
        have hfl : fl.length ≤ 1000000 := by have := (within_cap hr).1; omega
        clear hw hr
        go_wp2_with fail
        refine (clone_any _ fl _ (hs.rd h') hfl).mono ?_
        rintro en w4 ⟨u, rfl, hs4⟩
        replace hs := hs.join hs4
        clear hs4
        simp only [List.cons_append, List.nil_append] at hs
        go_wp2_with fail
        go_step3
        go_wp2_with fail
        refine wp_loopM [none, none, none, none, none, none, none, none, some 8, some 9, none, some 11, none, none, none, none, none, none, none, none, none, none, none, none, none, none, none, none, none, none, some 30, some 31, some 32, some 33, some 34, some 35, some 36, some 37, some 38, some 39, some 40, some 41, some 42, some 43, some 44, none, none] (fun (r : Nat) (f : Nat → Value) (wr : World) => (fun (v vo ve : Value) => ∃ (i : Nat) (l : List Int), v = .int .i64 i ∧ ve = .int .i64 0 ∧ i ≤ arcs.length ∧ r = arcs.length - i ∧ alongF es fl b (arcs.take i) = some l ∧ withinB n es l = true ∧ Sep w wr [intsT .i64 2 vo l, cellsT w.heap.size #[.int .i64 n, .slice a es.length c] 24]) (f 30) (f 8) (f 9)) (arcs.length) (by kernel_rfl) ?atStart1 ?round1
        case' atStart1 => (try dsimp only [nthV])
        case' round1 =>
          intro gk f wr l hl hrel J1 K1 hJ1 hK1
          (try simp only [mask] at hl)
          generalize f 30 = u30 at hl hrel
          generalize f 8 = u8 at hl hrel
          generalize f 9 = u9 at hl hrel
          subst hl
          (try dsimp only at hrel)
        case atStart1 => exact ⟨0, fl, rfl, rfl, Nat.zero_le _, rfl, rfl, HR.out, hs⟩
        case round1 =>
          clear hs
          obtain ⟨i, l, rfl, rfl, hi, rfl, hal, hwl, hs⟩ := hrel
          have HAL := Lib.hid hal
          have HWL := Lib.hid hwl
          clear hal hwl
          by_cases hlt : i < arcs.length
          · obtain ⟨b2, o2, e2, hb2, x0⟩ := (hs.rd ha).at i hlt
            subst e2
            have hst := step_has ((way_cap HW.out).2.2 i hlt)
            obtain ⟨I, hI⟩ : ∃ I : Nat, arcs.getD i 0 = I := ⟨_, has_cast hst⟩
            rw [hI] at x0 hst
            have HI := Lib.hid hI
            have HH := Lib.hid hst
            have hI2 := (hasB_iff _ _).1 hst
            have hI3 : I ≤ 1000000 := by omega
            have HSU := Lib.hid (along_succ (es := es) (fl := fl) (b := b) hlt)
            clear hI hst hI2
            have n0 := cell_of (hs.cells 1 rfl) 0
            have n1 := cell_of (hs.cells 1 rfl) 1
            simp only [List.getElem?_toArray, List.getElem?_cons_zero, List.getElem?_cons_succ] at n0 n1
            have hrl := hs.rdInts 0 rfl
            go_wp2_with fail
            refine (room_any n a c es _ l I _ (hs.rdG h) hrl HH.out HWL.out).mono ?_
            rintro en w5 ⟨rfl, hb⟩
            clear hrl
            replace hs := hs.belowStep hb
            clear hb; (try clear n0 n1)
            have hrb := room_bound HWL.out HH.out
            obtain ⟨Rm, hRm⟩ : ∃ Rm, Rm = roomE es l I := ⟨_, rfl⟩
            rw [← hRm] at hrb ⊢
            have HRM := Lib.hid hRm
            clear hRm
            obtain ⟨rb0, rb1⟩ := hrb
            by_cases hbr : Rm < b
            · have HE := Lib.hid (along_full (n := n) HBAD.out (along_stop (i := i + 1) (by rw [HSU.out, HAL.out, HI.out]; simp [alongO, ← HRM.out, hbr])))
              go_wp2_with fail
              (repeat rw [Exit.noGoto_ret]); go_ret2
              exact ⟨_, by rw [HE.out.1]; rfl, by rw [HE.out.2]; exact hs.tail.tail.nilInts _ _⟩
            · have HN := Lib.hid (show alongF es fl b (arcs.take (i + 1)) = some (pushL l I b) by rw [HSU.out, HAL.out, HI.out]; simp [alongO, ← HRM.out, hbr])
              have HWN := Lib.hid (push_within HWL.out HH.out (by omega) (by rw [← HRM.out]; omega : b ≤ roomE es l I))
              have hhalf := has_half HH.out
              have hlen := (within_cap HWL.out).1
              obtain ⟨y0, y1⟩ := within_at HWL.out hhalf
              have he := (edgeB_iff _ _).1 ((right_cap (within_cap HWL.out).2.1).2.2.2.2 _ (List.getElem_mem hhalf))
              have HP := Lib.hid (⟨by omega, by omega, by omega, by omega⟩ : I / 2 < l.length ∧ (0 ≤ b ∧ b ≤ 4503599627370496) ∧ 0 ≤ l.getD (I / 2) 0 ∧ l.getD (I / 2) 0 ≤ 4503599627370496)
              clear hhalf hlen y0 y1 he
              go_wp2_with fail
              refine (push_sep hs 0 _ l rfl I HP.out.1 hI3 b HP.out.2.1 ⟨HP.out.2.2.1, HP.out.2.2.2⟩).mono ?_
              rintro en w6 ⟨⟨vv, rfl⟩, hs5⟩
              simp only [List.set_cons_zero] at hs5
              clear hs
              go_wp2_with fail
              refine Round.intro (arcs.length - (i + 1)) ?measure2 (by kernel_rfl) (hJ1 _ _ _ ?rel2)
              case' rel2 => (try dsimp only [nthV])
              case measure2 => omega
              case rel2 => exact ⟨i + 1, _, by go_num, rfl, hlt, rfl, HN.out, HWN.out, hs5⟩
          · obtain rfl : i = arcs.length := by omega
            rw [List.take_length] at HAL
            have HE := Lib.hid (along_ok (n := n) HBAD.out HAL.out)
            go_wp2_with fail
            (repeat rw [Exit.noGoto_ret]); go_ret2
            exact ⟨_, by rw [HE.out.1]; rfl, by rw [HE.out.2]; exact hs.takeN 1⟩
end Go.Proofs.Ytmfjfhmoljnnkaa
