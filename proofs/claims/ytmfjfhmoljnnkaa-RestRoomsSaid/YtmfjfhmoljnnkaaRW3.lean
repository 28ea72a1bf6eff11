/-
  Package rest: Push, way, Along, walked.
-/
import Derived.Test.YtmfjfhmoljnnkaaRW2
import Derived.Test.YtmfjfhmoljnnkaaRPlain2
namespace Go.Proofs.Ytmfjfhmoljnnkaa
open Go Go.RowKit Go.Mem Go.NetP Go.RestP

set_option maxHeartbeats 2000000 in
theorem pushX_any (n : Int) (a : Option Addr) (c : Nat) (es : List Ed) (v : Value) (fl : List Int) (i b : Int) (w : World) (h : RdG edR w (.slice a es.length c) es) (h' : Rd .i64 w v fl) (hsm : es.length ≤ 100000) :
    Calls Try.prog 17 #[.agg #[.int .i64 n, .slice a es.length c], v, .int .i64 i, .int .i64 b] w fun en w' => ∃ u, en = .returned (.tuple #[u, .int .i64 (pushE n es fl i b)]) ∧ Sep w w' [intsT .i64 2 u (pushV n es fl i b)] := by
  have hs := (Sep.start w).newCells #[.int .i64 n, .slice a es.length c] 24
  obtain ⟨a', c', rfl⟩ := h'.shape
  by_cases hb0 : b < 0
  · have HE := Lib.hid (pushE_no (n := n) (es := es) (fl := fl) (a := i) (b := b) (.inl hb0))
    go_enter Try.func17, Try.ntmps17
    go_wp2_with fail
    go_ret2
    exact ⟨_, by rw [HE.out.1]; rfl, by rw [HE.out.2]; exact hs.tail.nilInts _ _⟩
  · go_enter Try.func17, Try.ntmps17
    go_wp2_with fail
    refine (has_any n a es.length c i _ (by omega)).mono ?_
    rintro en w1 ⟨rfl, hb⟩
    replace hs := hs.belowStep hb
    clear hb; (try clear n0 n1)
    cases hh : hasB es.length i
    · have HE := Lib.hid (pushE_no (n := n) (es := es) (fl := fl) (a := i) (b := b) (.inr (.inl hh)))
      clear hh
      go_wp2_with fail
      go_ret2
      exact ⟨_, by rw [HE.out.1]; rfl, by rw [HE.out.2]; exact hs.tail.nilInts _ _⟩
    · have n0 := cell_of (hs.cells 0 rfl) 0
      have n1 := cell_of (hs.cells 0 rfl) 1
      simp only [List.getElem?_toArray, List.getElem?_cons_zero, List.getElem?_cons_succ] at n0 n1
      go_wp2_with fail
      refine (within_any n a c es _ fl _ (hs.rdG h) (hs.rd h')).mono ?_
      rintro en w2 ⟨rfl, hb⟩
      replace hs := hs.belowStep hb
      clear hb; (try clear n0 n1)
      cases hr : withinB n es fl
      · have HE := Lib.hid (pushE_no (n := n) (es := es) (fl := fl) (a := i) (b := b) (.inr (.inr hr)))
        clear hh hr
        go_wp2_with fail
        go_ret2
        exact ⟨_, by rw [HE.out.1]; rfl, by rw [HE.out.2]; exact hs.tail.nilInts _ _⟩
      · have hi := (hasB_iff _ _).1 hh
        obtain ⟨I, rfl⟩ : ∃ I : Nat, i = I := ⟨i.toNat, by omega⟩
        have HR := Lib.hid hr
        have HH := Lib.hid hh
        have hI : I ≤ 1000000 := by omega
        clear hi hh hr
        have n0 := cell_of (hs.cells 0 rfl) 0
        have n1 := cell_of (hs.cells 0 rfl) 1
        simp only [List.getElem?_toArray, List.getElem?_cons_zero, List.getElem?_cons_succ] at n0 n1
        go_wp2_with fail
        refine (room_any n a c es _ fl I _ (hs.rdG h) (hs.rd h') HH.out HR.out).mono ?_
        rintro en w3 ⟨rfl, hb⟩
        replace hs := hs.belowStep hb
        clear hb; (try clear n0 n1)
        by_cases hbr : roomE es fl I < b
        · have HE := Lib.hid (pushE_full (n := n) (es := es) (fl := fl) (a := I) (b := b) (by omega) HH.out HR.out (by simpa using hbr))
          go_wp2_with fail
          go_ret2
          exact ⟨_, by rw [HE.out.1]; rfl, by rw [HE.out.2]; exact hs.tail.nilInts _ _⟩
        · have HE := Lib.hid (pushE_ok (n := n) (es := es) (fl := fl) (a := I) (b := b) (by omega) HH.out HR.out (by simpa using hbr))
          have hlen := (within_cap HR.out).1
          have hl2 := (right_cap (within_cap HR.out).2.1).2.2.1
          have hhalf := has_half HH.out
          have hrb := room_bound HR.out HH.out
          obtain ⟨y0, y1⟩ := within_at HR.out hhalf
          have he := (edgeB_iff _ _).1 ((right_cap (within_cap HR.out).2.1).2.2.2.2 _ (List.getElem_mem hhalf))
          have HP := Lib.hid (⟨by omega, by omega, by omega, by omega, by omega⟩ : I / 2 < fl.length ∧ (0 ≤ b ∧ b ≤ 4503599627370496) ∧ 0 ≤ fl.getD (I / 2) 0 ∧ fl.getD (I / 2) 0 ≤ 4503599627370496 ∧ fl.length ≤ 1000000)
          clear hlen hhalf hrb y0 y1 he hl2
          go_wp2_with fail
          refine (clone_any _ fl _ (hs.rd h') HP.out.2.2.2.2).mono ?_
          rintro en w4 ⟨u, rfl, hs4⟩
          replace hs := hs.join hs4
          clear hs4
          simp only [List.cons_append, List.nil_append] at hs
          go_wp2_with fail
          refine (push_sep hs 0 u fl rfl I HP.out.1 hI b HP.out.2.1 ⟨HP.out.2.2.1, HP.out.2.2.2.1⟩).mono ?_
          rintro en w5 ⟨⟨vv, rfl⟩, hs5⟩
          simp only [List.set_cons_zero] at hs5
          clear hs
          go_wp2_with fail
          go_ret2
          exact ⟨_, by rw [HE.out.1]; rfl, by rw [HE.out.2]; exact hs5.takeN 1⟩

set_option maxHeartbeats 2000000 in
theorem way_any (n : Int) (a : Option Addr) (c : Nat) (es : List Ed) (v : Value) (arcs : List Int) (w : World) (h : RdG edR w (.slice a es.length c) es) (h' : Rd .i64 w v arcs) (hsm : es.length ≤ 100000) :
    Calls Try.prog 39 #[.agg #[.int .i64 n, .slice a es.length c], v] w fun en w' => en = .returned (.bool (wayB n es arcs)) ∧ Below w.heap.size w w' := by
  have hs := (Sep.start w).newCells #[.int .i64 n, .slice a es.length c] 24
  have hle := h'.le'
  obtain ⟨a', c', rfl⟩ := h'.shape
  by_cases hz : arcs.length = 0
  · have HE := Lib.hid (show wayB n es arcs = false by simp [wayB, hz])
    have d0 : ((arcs.length : Int) == 0) = true := by rw [hz]; rfl
    clear hz
    go_enter Try.func39, Try.ntmps39
    go_wp2_with fail
    go_ret
    exact ⟨by rw [HE.out]; rfl, hs.below⟩
  · have d0 : ((arcs.length : Int) == 0) = false := by rw [beq_eq_false_iff_ne]; omega
    have hz0 : 0 < arcs.length := by omega
    clear hz
    go_enter Try.func39, Try.ntmps39
    go_wp2_with fail
    refine (right_any n a c es _ (hs.rdG h)).mono ?_
    rintro en w1 ⟨rfl, hb⟩
    replace hs := hs.belowStep hb
    clear hb; (try clear n0 n1)
    cases hr : rightB n es
    · have HE := Lib.hid (show wayB n es arcs = false by simp [wayB, hr])
      clear hr
      go_wp2_with fail
      go_ret
      exact ⟨by rw [HE.out]; rfl, hs.below⟩
    · have HR := Lib.hid hr
      clear hr
      go_wp2_with fail
      refine wp_loopM [none, none, none, none, some 4, some 5, some 6, some 7, some 8, some 9, some 10, none, none, none, none, none, none, none, none, none, none, some 21, some 22, some 23, some 24, some 25, some 26, some 27, some 28, some 29, some 30, some 31, some 32, some 33, some 34, some 35, some 36, some 37, some 38, some 39, some 40, some 41, some 42, some 43, some 44, some 45] (fun (r : Nat) (f : Nat → Value) (wr : World) => (fun (v vl : Value) => ∃ i : Nat, v = .int .i64 i ∧ i ≤ arcs.length ∧ r = arcs.length - i ∧ vl = .int .i64 (lastV es arcs i) ∧ okW es arcs i = true ∧ Sep w wr [cellsT w.heap.size #[.int .i64 n, .slice a es.length c] 24]) (f 21) (f 5)) (arcs.length) (by kernel_rfl) ?atStart1 ?round1
      case' atStart1 => (try dsimp only [nthV])
      case' round1 =>
        intro gk f wr l hl hrel J1 K1 hJ1 hK1
        (try simp only [mask] at hl)
        generalize f 21 = u21 at hl hrel
        generalize f 5 = u5 at hl hrel
        subst hl
        (try dsimp only at hrel)
      case atStart1 => exact ⟨0, rfl, Nat.zero_le _, rfl, rfl, rfl, hs⟩
      case round1 =>
        clear hs
        obtain ⟨i, rfl, hi, rfl, rfl, hok, hs⟩ := hrel
        have HOK := Lib.hid hok
        clear hok
        by_cases hlt : i < arcs.length
        · obtain ⟨b2, o2, e2, hb2, x0⟩ := (hs.rd h').at i hlt
          subst e2
          obtain ⟨x, hx⟩ : ∃ x, x = arcs.getD i 0 := ⟨_, rfl⟩
          rw [← hx] at x0
          have HX := Lib.hid hx
          clear hx
          have n0 := cell_of (hs.cells 0 rfl) 0
          have n1 := cell_of (hs.cells 0 rfl) 1
          simp only [List.getElem?_toArray, List.getElem?_cons_zero, List.getElem?_cons_succ] at n0 n1
          go_wp2_with fail
          refine (has_any n a es.length c x _ (by omega)).mono ?_
          rintro en w2 ⟨rfl, hb⟩
          replace hs := hs.belowStep hb
          clear hb; (try clear n0 n1)
          clear x0
          cases hh : hasB es.length x
          · have HE := Lib.hid (way_step (n := n) (es := es) hlt (by unfold stepB; rw [← HX.out, hh]; rfl))
            clear hh
            go_wp2_with fail
            go_ret
            exact ⟨by rw [HE.out]; rfl, hs.below⟩
          · have hi2 := (hasB_iff _ _).1 hh
            obtain ⟨I, rfl⟩ : ∃ I : Nat, x = I := ⟨x.toNat, by omega⟩
            have HH := Lib.hid hh
            have HI := Lib.hid (show arcAt arcs i = I by unfold arcAt; rw [← HX.out]; simp)
            clear hi2 hh
            have n0 := cell_of (hs.cells 0 rfl) 0
            have n1 := cell_of (hs.cells 0 rfl) 1
            simp only [List.getElem?_toArray, List.getElem?_cons_zero, List.getElem?_cons_succ] at n0 n1
            go_wp2_with fail
            refine (ends_any n a c es I _ (hs.rdG h) HH.out hsm (fun e he => by have := (edgeB_iff _ _).1 ((right_cap HR.out).2.2.2.2 e he); omega)).mono ?_
            rintro en w3 ⟨rfl, hb⟩
            replace hs := hs.belowStep hb
            clear hb; (try clear n0 n1)
            obtain ⟨F, hF⟩ : ∃ F, F = (endsE es I).1 := ⟨_, rfl⟩
            obtain ⟨T, hT⟩ : ∃ T, T = (endsE es I).2.1 := ⟨_, rfl⟩
            obtain ⟨Z, hZ⟩ : ∃ Z, Z = lastV es arcs i := ⟨_, rfl⟩
            rw [← hF, ← hT, ← hZ]
            have HT := Lib.hid hT
            have HF := Lib.hid hF
            have HZ := Lib.hid hZ
            clear hT hF hZ
            have HL := Lib.hid (show lastV es arcs (i + 1) = T by unfold lastV; rw [if_neg (by omega), Nat.add_sub_cancel, HI.out, HT.out])
            by_cases hi0 : i = 0
            · have HS := Lib.hid (show okW es arcs (i + 1) = true by rw [okW_succ, HOK.out]; unfold stepB; rw [← HX.out, HH.out, hi0]; rfl)
              have hd : decide (0 < (i : Int)) = false := by simp; omega
              go_wp2_with fail
              refine Round.intro (arcs.length - (i + 1)) ?measure2 (by kernel_rfl) (hJ1 _ _ _ ?rel2)
              case' rel2 => (try dsimp only [nthV])
              case measure2 => omega
              case rel2 => exact ⟨i + 1, by go_num, hlt, rfl, by rw [HL.out], HS.out, hs⟩
            · have hd : decide (0 < (i : Int)) = true := by simp; omega
              have HLZ := Lib.hid (show (endsE es (arcAt arcs (i - 1))).2.1 = Z by rw [HZ.out]; unfold lastV; rw [if_neg hi0])
              by_cases hfz : F = Z
              · have HS := Lib.hid (show okW es arcs (i + 1) = true by rw [okW_succ, HOK.out]; unfold stepB; rw [← HX.out, HH.out, HI.out, HLZ.out, ← HF.out, hfz]; simp)
                have hd2 : (F != Z) = false := by simpa using hfz
                clear hfz
                go_wp2_with fail
                refine Round.intro (arcs.length - (i + 1)) ?measure3 (by kernel_rfl) (hJ1 _ _ _ ?rel3)
                case' rel3 => (try dsimp only [nthV])
                case measure3 => omega
                case rel3 => exact ⟨i + 1, by go_num, hlt, rfl, by rw [HL.out], HS.out, hs⟩
              · have HE := Lib.hid (way_step (n := n) (es := es) hlt (by unfold stepB; rw [← HX.out, HH.out, HI.out, HLZ.out, ← HF.out]; simp [hi0, hfz]))
                have hd2 : (F != Z) = true := by simpa using hfz
                clear hfz
                go_wp2_with fail
                go_ret
                exact ⟨by rw [HE.out]; rfl, hs.below⟩
        · obtain rfl : i = arcs.length := by omega
          have HE := Lib.hid (show wayB n es arcs = true by simp [wayB, HR.out, HOK.out, hz0])
          go_wp2_with fail
          go_ret
          exact ⟨by rw [HE.out]; rfl, hs.below⟩
end Go.Proofs.Ytmfjfhmoljnnkaa
