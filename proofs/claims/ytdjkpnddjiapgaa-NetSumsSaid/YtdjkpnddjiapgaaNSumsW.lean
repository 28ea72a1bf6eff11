/-
  The law NetSums, walked.
-/
import Derived.Test.YtdjkpnddjiapgaaNW6
import Derived.Test.YtdjkpnddjiapgaaNSums
namespace Go.Proofs.Ytdjkpnddjiapgaa
open Go Go.RowKit Go.Mem Go.NetP

set_option maxRecDepth 100000 in
set_option maxHeartbeats 4000000 in
theorem netSums_any (n : Int) (a : Option Addr) (c : Nat) (es : List Ed) (v : Value) (fl : List Int) (w : World) (h : RdG edR w (.slice a es.length c) es) (h' : Rd .i64 w v fl) :
    Calls Try.prog 4 #[.agg #[.int .i64 n, .slice a es.length c], v] w fun e w' => e = .returned (.bool true) ∧ Below w.heap.size w w' := by
  have hle := h.le
  unfold maxLen at hle
  obtain ⟨a', c', rfl⟩ := h'.shape
  have hs := (Sep.start w).newCells #[.int .i64 n, .slice a es.length c] 24
  cases HV : (decide (2000 < es.length) || decide (2000 < fl.length))
  · have HV := Lib.hid HV
    go_enter Try.func4, Try.ntmps4
    go_wp2_with fail
    refine (vast_any n a c es a' fl.length c' _ hle).mono ?_
    rintro en w1 ⟨rfl, hb⟩
    rw [HV.out]
    replace hs := hs.belowStep hb
    clear hb
    have n0 := cell_of (hs.cells 0 rfl) 0
    have n1 := cell_of (hs.cells 0 rfl) 1
    simp only [List.getElem?_toArray, List.getElem?_cons_zero, List.getElem?_cons_succ] at n0 n1
    go_wp2_with fail
    refine (within_any n a c es _ fl _ (hs.rdG h) (hs.rd h')).mono ?_
    rintro en w2 ⟨rfl, hb⟩
    replace hs := hs.belowStep hb
    clear hb
    clear n0 n1
    cases hr : withinB n es fl
    · go_wp2_with fail
      refine (works_any _).mono ?_
      rintro en w3 ⟨rfl, hb⟩
      go_wp2_with fail
      go_ret
      exact ⟨rfl, (hs.belowStep hb).below⟩
    · have HR := Lib.hid hr
      obtain ⟨hlen, hright, _⟩ := within_cap hr
      obtain ⟨k1, k2, k3, _, _⟩ := right_cap hright
      obtain ⟨N, rfl⟩ : ∃ N : Nat, n = N := ⟨n.toNat, by omega⟩
      have HO := Lib.hid (show overV N es fl = overL N es fl by simp [overV, hr])
      have HF := Lib.hid (show flowsB N es fl = (overL N es fl).all (fun x => x == 0) by simp [flowsB, overV, hr])
      have HC := Lib.hid (show costV N es fl = flowCost es fl fl.length by simp [costV, hr])
      clear hr hlen hright
      have n0 := cell_of (hs.cells 0 rfl) 0
      have n1 := cell_of (hs.cells 0 rfl) 1
      simp only [List.getElem?_toArray, List.getElem?_cons_zero, List.getElem?_cons_succ] at n0 n1
      go_wp2_with fail
      refine (over_any N a c es _ fl _ (hs.rdG h) (hs.rd h')).mono ?_
      rintro en w3 ⟨u, rfl, hs3⟩
      replace hs := hs.join hs3
      rw [HO.out] at hs
      clear hs3 n0 n1
      simp only [List.cons_append, List.nil_append] at hs
      obtain ⟨au, cu, hu⟩ := (hs.rdInts 0 rfl).shape
      rw [over_len] at hu
      subst hu
      have n0 := cell_of (hs.cells 1 rfl) 0
      have n1 := cell_of (hs.cells 1 rfl) 1
      simp only [List.getElem?_toArray, List.getElem?_cons_zero, List.getElem?_cons_succ] at n0 n1
      go_wp2_with fail
      refine wp_loopM [none, none, none, none, none, none, some 6, some 7, some 8, none, none, none, none, none, none, none, none, none, none, none, none, none, none, none, none, none, none, none, some 28, some 29, some 30, some 31, some 32, some 33, some 34, some 35, some 36, some 37, some 38, some 39, some 40, some 41, some 42, some 43, some 44, some 45, some 46, some 47, none, none, none, none, none, none, none, none, none, none, none, none, none, none, none, none, none, none, none, none, none, none, none] (fun (r : Nat) (f : Nat → Value) (wr : World) => (fun (vs vn v : Value) => ∃ i : Nat, v = .int .i64 i ∧ i ≤ N ∧ r = N - i ∧ vs = .int .i64 ((overL N es fl).take i).sum ∧ vn = .bool (((overL N es fl).take i).all (fun x => x == 0)) ∧ Sep w wr [intsT .i64 2 (.slice au N cu) (overL N es fl), cellsT w.heap.size #[.int .i64 N, .slice a es.length c] 24]) (f 6) (f 7) (f 8)) (N) (by kernel_rfl) ?atStart1 ?round1
      case' atStart1 => (try dsimp only [nthV])
      case' round1 =>
        intro gk f wr l hl hrel J1 K1 hJ1 hK1
        (try simp only [mask] at hl)
        generalize f 6 = u6 at hl hrel
        generalize f 7 = u7 at hl hrel
        generalize f 8 = u8 at hl hrel
        subst hl
        (try dsimp only at hrel)
      case atStart1 => exact ⟨0, rfl, Nat.zero_le _, rfl, rfl, rfl, hs⟩
      case round1 =>
        clear hs n0 n1
        obtain ⟨i, rfl, hi, rfl, rfl, rfl, hs⟩ := hrel
        by_cases hlt : i < N
        · obtain ⟨b1, o1, e1, hb1, hc1⟩ := (hs.rdInts 0 rfl).at i (by rw [over_len]; exact hlt)
          subst e1
          obtain ⟨s0, s1⟩ := sums_bound HR.out (i := i) hi
          obtain ⟨x0, x1⟩ := over_at_bound HR.out i hlt
          have HS := Lib.hid (sum_take_succ (overL N es fl) (i := i) (by rw [over_len]; exact hlt))
          have HZ := Lib.hid (zero_take_succ (overL N es fl) (i := i) (by rw [over_len]; exact hlt))
          generalize (overL N es fl).getD i 0 = x at *
          generalize ((overL N es fl).take i).sum = s at *
          generalize ((overL N es fl).take i).all (fun x => x == 0) = z at *
          cases z
          · go_wp2_with fail
            refine Round.intro (N - (i + 1)) ?measure2 (by kernel_rfl) (hJ1 _ _ _ ?rel2)
            case' rel2 => (try dsimp only [nthV])
            case measure2 => omega
            case rel2 => exact ⟨i + 1, by go_num, hlt, rfl, by rw [HS.out], by rw [HZ.out]; rfl, hs⟩
          · go_wp2_with fail
            refine Round.intro (N - (i + 1)) ?measure3 (by kernel_rfl) (hJ1 _ _ _ ?rel3)
            case' rel3 => (try dsimp only [nthV])
            case measure3 => omega
            case rel3 => exact ⟨i + 1, by go_num, hlt, rfl, by rw [HS.out], by rw [HZ.out]; rfl, hs⟩
        · obtain rfl : i = N := by omega
          rw [List.take_of_length_le (by rw [over_len]; exact Nat.le_refl _)]
          rw [sums_zero HR.out]
          rw [← HF.out]
          have n0 := cell_of (hs.cells 1 rfl) 0
          have n1 := cell_of (hs.cells 1 rfl) 1
          simp only [List.getElem?_toArray, List.getElem?_cons_zero, List.getElem?_cons_succ] at n0 n1
          go_wp2_with fail
          refine (cost_any i a c es _ fl _ (hs.rdG h) (hs.rd h')).mono ?_
          rintro en w4 ⟨rfl, hb⟩
          replace hs := hs.belowStep hb
          clear hb
          clear n0 n1
          have n0 := cell_of (hs.cells 1 rfl) 0
          have n1 := cell_of (hs.cells 1 rfl) 1
          simp only [List.getElem?_toArray, List.getElem?_cons_zero, List.getElem?_cons_succ] at n0 n1
          rw [HC.out]
          have hl := (within_cap HR.out).1
          obtain ⟨c0, c1⟩ := flowCost_bound HR.out (i := fl.length) (by omega)
          clear hl
          generalize flowCost es fl fl.length = C at *
          go_wp2_with fail
          refine (flows_any i a c es _ fl _ (hs.rdG h) (hs.rd h')).mono ?_
          rintro en w5 ⟨rfl, hb⟩
          replace hs := hs.belowStep hb
          clear hb
          clear n0 n1
          go_wp2_with fail
          refine (works_any _).mono ?_
          rintro en w6 ⟨rfl, hb⟩
          go_wp2_with fail
          go_ret
          exact ⟨rfl, (hs.belowStep hb).below⟩
  · have HV := Lib.hid HV
    go_enter Try.func4, Try.ntmps4
    go_wp2_with fail
    refine (vast_any n a c es a' fl.length c' _ hle).mono ?_
    rintro en w1 ⟨rfl, hb⟩
    rw [HV.out]
    replace hs := hs.belowStep hb
    clear hb
    go_wp2_with fail
    refine (works_any _).mono ?_
    rintro en w2 ⟨rfl, hb⟩
    go_wp2_with fail
    go_ret
    exact ⟨rfl, (hs.belowStep hb).below⟩
end Go.Proofs.Ytdjkpnddjiapgaa
