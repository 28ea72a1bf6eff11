/-
  The reference's nets (gabletref11), walked: Flows.
-/
import Derived.Test.YtlbpkfjebaelpaaNRef4W
namespace Go.Proofs.Ytlbpkfjebaelpaa
open Go Go.RowKit Go.Mem Go.NetP

set_option maxHeartbeats 2000000 in
theorem rflows_any (n : Int) (a : Option Addr) (c : Nat) (es : List Ed) (v : Value) (fl : List Int) (w : World) (h : RdG edR w (.slice a es.length c) es) (h' : Rd .i64 w v fl) :
    Calls Try.prog 18 #[.agg #[.int .i64 n, .slice a es.length c], v] w fun en w' => en = .returned (.bool (flowsB n es fl)) ∧ Below w.heap.size w w' := by
  obtain ⟨a', c', rfl⟩ := h'.shape
  have hs0 := (Sep.start w).newCells #[.int .i64 n, .slice a es.length c] 28
  go_enter Try.func18, Try.ntmps18
  go_wp2_with fail
  refine (rwithin_any _ _ _ es _ fl _ (hs0.rdG h) (hs0.rd h')).mono ?_
  rintro en w1 ⟨rfl, hb1⟩
  have hs1 := hs0.belowStep hb1
  clear hs0 hb1
  cases hr : withinB n es fl
  · have H := Lib.hid (show flowsB n es fl = false by simp [flowsB, hr])
    clear hr
    go_wp2_with fail
    go_ret
    exact ⟨by rw [H.out]; rfl, hs1.below⟩
  · have HF := Lib.hid (show flowsB n es fl = (overV n es fl).all (fun x => x == 0) by simp [flowsB, hr])
    clear hr
    have n0 := cell_of (hs1.cells 0 rfl) 0
    have n1 := cell_of (hs1.cells 0 rfl) 1
    simp only [List.getElem?_toArray, List.getElem?_cons_zero, List.getElem?_cons_succ] at n0 n1
    go_wp2_with fail
    refine (rover_any _ _ _ es _ fl _ (hs1.rdG h) (hs1.rd h')).mono ?_
    rintro en w2 ⟨u, rfl, hs2'⟩
    have hs2 := (hs1.join hs2').takeN 1
    clear hs1 hs2' n0 n1
    (try simp only [List.cons_append, List.nil_append, List.take_succ_cons, List.take_zero] at hs2)
    have hle := (hs2.rdInts 0 rfl).le'
    obtain ⟨au, cu, hu⟩ := (hs2.rdInts 0 rfl).shape
    subst hu
    generalize overV n es fl = ol at *
    go_wp2_with fail
    refine wp_loopM [none, none, none, none, some 4, none, some 6, none, none, none, none, none, none, none, some 14, some 15, some 16, some 17, some 18, some 19, some 20, some 21, some 22, some 23, some 24] (fun (r : Nat) (f : Nat → Value) (wr : World) => (fun (v : Value) => ∃ i : Nat, v = .int .i64 i ∧ i ≤ ol.length ∧ r = ol.length - i ∧ (∀ j, j < i → ol.getD j 0 = 0) ∧ Sep w wr [intsT .i64 2 (.slice au ol.length cu) ol]) (f 6)) (ol.length) (by kernel_rfl) ?atStart1 ?round1
    case' atStart1 => (try dsimp only [nthV])
    case' round1 =>
      intro gk f wr l hl hrel J1 K1 hJ1 hK1
      (try simp only [mask] at hl)
      generalize f 6 = u6 at hl hrel
      subst hl
      (try dsimp only at hrel)
    case atStart1 => exact ⟨0, rfl, Nat.zero_le _, rfl, by simp, hs2⟩
    case round1 =>
      clear hs2
      obtain ⟨i, rfl, hi, rfl, hq, hs⟩ := hrel
      have HQ := Lib.hid hq
      clear hq
      by_cases hlt : i < ol.length
      · obtain ⟨b1, o1, e1, hb1, hc1⟩ := (hs.rdInts 0 rfl).at i hlt
        subst e1
        obtain ⟨x, hx⟩ : ∃ x, x = ol.getD i 0 := ⟨_, rfl⟩
        rw [← hx] at hc1
        by_cases hx0 : x = 0
        · have HX := Lib.hid (show ol.getD i 0 = 0 by rw [← hx, hx0])
          rw [hx0] at hc1
          clear hx hx0
          go_wp2_with fail
          refine Round.intro (ol.length - (i + 1)) ?measure2 (by kernel_rfl) (hJ1 _ _ _ ?rel2)
          case' rel2 => (try dsimp only [nthV])
          case measure2 => omega
          case rel2 =>
            refine ⟨i + 1, by go_num, hlt, rfl, fun j hj => ?_, hs⟩
            by_cases hji : j = i
            · subst hji; exact HX.out
            · exact HQ.out j (by omega)
        · have H := Lib.hid (zero_no hlt (by rw [← hx]; exact hx0))
          have hd : (x != 0) = true := by simpa using hx0
          clear hx hx0
          go_wp2_with fail
          go_ret
          exact ⟨by rw [HF.out, H.out]; rfl, hs.below⟩
      · have H := Lib.hid (zero_all (l := ol) (fun j hj => HQ.out j (by omega)))
        go_wp2_with fail
        go_ret
        exact ⟨by rw [HF.out, H.out]; rfl, hs.below⟩
end Go.Proofs.Ytlbpkfjebaelpaa
