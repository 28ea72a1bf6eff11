/-
  Package cert, walked: within, tight; Few.
-/
import Derived.Test.YtfnkmkfkomhhnaaCPlain
import Derived.Test.YtfnkmkfkomhhnaaRW1
import Derived.Test.YtfnkmkfkomhhnaaNFl
import Derived.Test.YtfnkmkfkomhhnaaNW3
namespace Go.Proofs.Ytfnkmkfkomhhnaa
open Go Go.RowKit Go.Mem Go.NetP Go.RestP Go.CertP

def fewN (n : Int) (l : Nat) : Bool := decide (l ≤ 300) && decide (n ≤ 100)
set_option maxHeartbeats 1000000 in
theorem cwithin_any (n : Int) (a : Option Addr) (l c : Nat) (v : Value) (pot : List Int) (w : World) (h : Rd .i64 w v pot) :
    Calls Try.prog 44 #[.agg #[.int .i64 n, .slice a l c], v] w fun en w' => en = .returned (.bool (potB n pot)) ∧ Below w.heap.size w w' := by
  obtain ⟨ap, cp, rfl⟩ := h.shape
  have hle := h.le'
  have hs := (Sep.start w).newCells #[.int .i64 n, .slice a l c] 34
  go_enter Try.func44, Try.ntmps44
  go_wp2_with fail
  refine wp_loopM [none, none, none, none, some 4, none, some 6, none, none, some 9, some 10, some 11, some 12, some 13, some 14, some 15, some 16, some 17, some 18, some 19, none, none, none, none, none] (fun (r : Nat) (f : Nat → Value) (wr : World) => (fun (v : Value) => ∃ (i : Nat), v = .int .i64 i ∧ i ≤ pot.length ∧ r = pot.length - i ∧ Hid ((pot.take i).all farB = true) ∧ Sep w wr [cellsT w.heap.size #[.int .i64 n, .slice a l c] 34]) (f 9)) (pot.length) (by kernel_rfl) ?atStart1 ?round1
  case' atStart1 => (try dsimp only [nthV])
  case' round1 =>
    intro gk f wr l hl hrel J1 K1 hJ1 hK1
    (try simp only [mask] at hl)
    generalize f 9 = u9 at hl hrel
    subst hl
    (try dsimp only at hrel)
  case atStart1 => exact ⟨0, rfl, Nat.zero_le _, rfl, Lib.hid (by simp), hs⟩
  case round1 =>
    clear hs
    obtain ⟨i, rfl, hi, rfl, HA, hs⟩ := hrel
    by_cases hlt : i < pot.length
    · obtain ⟨b1, o1, e1, hb1, hc1⟩ := (hs.rd h).at i hlt
      subst e1
      have hst := far_step (pot := pot) hlt HA.out
      have hsp := far_stop (pot := pot) hlt
      obtain ⟨X, hX⟩ : ∃ X, X = pot.getD i 0 := ⟨_, rfl⟩
      rw [← hX] at hc1 hst hsp
      clear hX
      cases hf : farB X
      · have HE := Lib.hid (show potB n pot = false by simp [potB, hsp hf])
        rcases (farB_no X).1 hf with q | q
        · clear hst hsp hf
          go_wp2_with fail
          go_ret
          exact ⟨by rw [HE.out]; rfl, hs.below⟩
        · have d1 : decide (X < -1099511627776) = false := decide_eq_false (by omega)
          clear hst hsp hf
          go_wp2_with fail
          go_ret
          exact ⟨by rw [HE.out]; rfl, hs.below⟩
      · have HST := Lib.hid (hst hf)
        have hq := (farB_iff X).1 hf
        have d1 : decide (X < -1099511627776) = false := decide_eq_false (by omega)
        have d2 : decide (1099511627776 < X) = false := decide_eq_false (by omega)
        clear hst hsp hf
        go_wp2_with fail
        refine Round.intro (pot.length - (i + 1)) ?measure2 (by kernel_rfl) (hJ1 _ _ _ ?rel2)
        case' rel2 => (try dsimp only [nthV])
        case measure2 => omega
        case rel2 => exact ⟨i + 1, by go_num, hlt, rfl, HST, hs⟩
    · obtain rfl : i = pot.length := by omega
      have n0 := cell_of (hs.cells 0 rfl) 0
      simp only [List.getElem?_toArray, List.getElem?_cons_zero] at n0
      have HE := Lib.hid (show potB n pot = ((pot.length : Int) == n) by
        have := HA.out
        rw [List.take_length] at this
        rw [potB, this, Bool.true_and, Bool.eq_iff_iff, decide_eq_true_eq, beq_iff_eq])
      have HBL := Lib.hid hs.below
      clear hs
      go_wp2_with fail
      go_ret
      exact ⟨by rw [HE.out]; rfl, HBL.out⟩
set_option maxRecDepth 100000 in
set_option maxHeartbeats 2000000 in
theorem tight_any (n : Int) (a : Option Addr) (c : Nat) (es : List Ed) (vf : Value) (fl : List Int) (vp : Value) (pot : List Int) (w : World) (h : RdG edR w (.slice a es.length c) es) (hf : Rd .i64 w vf fl) (hp : Rd .i64 w vp pot) (hr : rightB n es = true) (hw : withinB n es fl = true) (hpot : potB n pot = true) :
    Calls Try.prog 46 #[.agg #[.int .i64 n, .slice a es.length c], .agg #[vf, vp]] w fun en w' => en = .returned (.bool (tightB es fl pot)) ∧ Below w.heap.size w w' := by
  obtain ⟨af, cf, rfl⟩ := hf.shape
  obtain ⟨ap, cp, rfl⟩ := hp.shape
  have he : es.length ≤ 200 := (right_cap hr).2.2.1
  have HR := Lib.hid hr
  have HW := Lib.hid hw
  have HP := Lib.hid (pot_cap hpot)
  have hs := ((Sep.start w).newCells #[.int .i64 n, .slice a es.length c] 34).newCells #[.slice af fl.length cf, .slice ap pot.length cp] 37
  simp only [World.size_alloc] at hs
  clear hr hw hpot
  go_enter Try.func46, Try.ntmps46
  go_wp2_with fail
  refine wp_loopM [none, none, none, none, some 4, some 5, some 6, some 7, some 8, none, none, none, none, some 13, some 14, some 15, some 16, some 17, some 18, some 19, some 20, some 21, some 22, some 23, some 24, some 25, some 26, some 27, some 28, some 29, some 30, some 31, some 32, some 33, some 34, some 35, some 36, some 37, some 38, some 39, some 40, some 41, some 42, some 43, some 44, some 45] (fun (r : Nat) (f : Nat → Value) (wr : World) => (fun (v : Value) => ∃ (i : Nat), v = .int .i64 i ∧ i ≤ 2 * es.length ∧ r = 2 * es.length - i ∧ Hid ((List.range i).all (tightS es fl pot) = true) ∧ Sep w wr [cellsT (w.heap.size + 1) #[.slice af fl.length cf, .slice ap pot.length cp] 37, cellsT w.heap.size #[.int .i64 n, .slice a es.length c] 34]) (f 13)) (2 * es.length) (by kernel_rfl) ?atStart3 ?round3
  case' atStart3 => (try dsimp only [nthV])
  case' round3 =>
    intro gk f wr l hl hrel J1 K1 hJ1 hK1
    (try simp only [mask] at hl)
    generalize f 13 = u13 at hl hrel
    subst hl
    (try dsimp only at hrel)
  case atStart3 => exact ⟨0, by go_num, Nat.zero_le _, rfl, Lib.hid (by simp), hs⟩
  case round3 =>
    clear hs
    obtain ⟨i, rfl, hi, rfl, HA, hs⟩ := hrel
    by_cases hlt : i < 2 * es.length
    · have hh : hasB es.length (i : Int) = true := by rw [hasB_iff]; omega
      have hend := ends_in HW.out hh
      have hroom := room_in HW.out hh
      have hnode := ends_node HR.out hlt
      obtain ⟨hpl, hpb⟩ := HP.out
      obtain ⟨f, hf'⟩ : ∃ f : Nat, (endsE es i).1 = f := ⟨(endsE es i).1.toNat, by omega⟩
      obtain ⟨t, ht'⟩ : ∃ t : Nat, (endsE es i).2.1 = t := ⟨(endsE es i).2.1.toNat, by omega⟩
      obtain ⟨K, hK'⟩ : ∃ K, (endsE es i).2.2 = K := ⟨_, rfl⟩
      have hlen : lenA es pot i = K + pot.getD f 0 - pot.getD t 0 := by
        unfold lenA potAt
        rw [hf', ht', hK', Int.toNat_natCast, Int.toNat_natCast]
      rw [hf', ht', hK'] at hnode
      have hfl : f < pot.length := by omega
      have htl : t < pot.length := by omega
      have hk0 : -1000 ≤ K := by omega
      have hk1 : K ≤ 1000 := by omega
      have hP := hpb f
      have hQ := hpb t
      have HEND := Lib.hid (show endsV n es i = ((f : Int), (t : Int), K) by rw [hend, ← hf', ← ht', ← hK'])
      have HROOM := Lib.hid hroom
      have n0 := cell_of (hs.cells 1 rfl) 0
      have n1 := cell_of (hs.cells 1 rfl) 1
      simp only [List.getElem?_toArray, List.getElem?_cons_zero, List.getElem?_cons_succ] at n0 n1
      obtain ⟨b1, o1, e1, hb1, hc1⟩ := hp.at f hfl
      obtain ⟨b2, o2, e2, hb2, hc2⟩ := hp.at t htl
      subst e1
      injection e2 with e2
      injection e2 with e2 e3
      subst e2
      subst e3
      obtain ⟨P, hPn⟩ : ∃ P, P = pot.getD f 0 := ⟨_, rfl⟩
      obtain ⟨Q, hQn⟩ : ∃ Q, Q = pot.getD t 0 := ⟨_, rfl⟩
      rw [← hPn] at hlen hc1 hP
      rw [← hQn] at hlen hc2 hQ
      have HLEN := Lib.hid hlen
      clear hh hend hroom hnode hpl hpb hf' ht' hK' hlen hPn hQn
      obtain ⟨hP0, hP1⟩ := hP
      obtain ⟨hQ0, hQ1⟩ := hQ
      go_wp2_with fail
      refine (endsX_any n a c es i _ (hs.rdG h) (by omega)).mono ?_
      rintro en w2 ⟨rfl, hb⟩
      rw [HEND.out]
      replace hs := hs.belowStep hb
      clear hb n0 n1
      have x1 := (hs.cell hb1).trans hc1
      have x2 := (hs.cell hb1).trans hc2
      have n0 := cell_of (hs.cells 1 rfl) 0
      have n1 := cell_of (hs.cells 1 rfl) 1
      have n2 := cell_of (hs.cells 0 rfl) 0
      have n3 := cell_of (hs.cells 0 rfl) 1
      simp only [List.getElem?_toArray, List.getElem?_cons_zero, List.getElem?_cons_succ] at n0 n1 n2 n3
      go_wp2_with fail
      by_cases hL : K + P - Q < 0
      · have d1 : decide (K + P - Q < 0) = true := decide_eq_true hL
        have d2 : decide (K + P < Q) = true := decide_eq_true (by omega)
        have HL := Lib.hid hL
        clear hL
        obtain ⟨R, hRR⟩ : ∃ R, R = roomE es fl i := ⟨_, rfl⟩
        rw [← hRR] at HROOM
        have HRR := Lib.hid hRR
        clear hRR
        refine Mix.region [0, 0, 0, 0, 0, 0, 0, 0, 0, 0, 0, 0, 0, 0, 0, 0, 0, 0, 0, 2, 0, 0] (fun _ => True) (by kernel_rfl) (by kernel_rfl) trivial ?_
        simp only [List.zip_cons_cons, List.zip_nil_right]
        iterate 15 (refine Mix.step0 fun K hK => ?_; go_simp; (try (go_bits; try go_simp)); first | ((with_reducible refine hK _ _ ?_); clear hK K) | ((try (simp only [IntWalk.iteOmega]; try go_simp)); (try go_bits); (with_reducible refine hK _ _ ?_); clear hK K))
        iterate 4 (first | (refine Mix.stepS rfl fun K hK => ?_; go_simp; (with_reducible refine hK _ _ ?_); clear hK K) | (refine Mix.step0 fun K hK => ?_; go_simp; (try (go_bits; try go_simp)); first | ((with_reducible refine hK _ _ ?_); clear hK K) | ((try (simp only [IntWalk.iteOmega]; try go_simp)); (try go_bits); (with_reducible refine hK _ _ ?_); clear hK K)))
        refine Mix.step2n (by first | rfl | simp [Region.wanted, yielded]) fun K hK => ?_
        go_wp2_with fail
        replace hs := hs.drew
        refine (roomX_any n a c es _ fl i _ (hs.rdG h) (hs.rd hf) (by omega)).mono ?_
        rintro en w3 ⟨rfl, hb⟩
        rw [HROOM.out]
        replace hs := hs.belowStep hb
        clear hb
        go_wp2_with fail
        refine Mix.post_mk (C := (fun _ => True)) trivial (hK _ _ ?_)
        clear hK K
        iterate 1 (first | (refine Mix.stepS rfl fun K hK => ?_; go_simp; (with_reducible refine hK _ _ ?_); clear hK K) | (refine Mix.step0 fun K hK => ?_; go_simp; (try (go_bits; try go_simp)); first | ((with_reducible refine hK _ _ ?_); clear hK K) | ((try (simp only [IntWalk.iteOmega]; try go_simp)); (try go_bits); (with_reducible refine hK _ _ ?_); clear hK K)))
        iterate 1 (refine Mix.step0 fun K hK => ?_; go_simp; (try (go_bits; try go_simp)); first | ((with_reducible refine hK _ _ ?_); clear hK K) | ((try (simp only [IntWalk.iteOmega]; try go_simp)); (try go_bits); (with_reducible refine hK _ _ ?_); clear hK K))
        refine Mix.done ?_
        by_cases hR0 : 0 < R
        · have HE := Lib.hid (show tightB es fl pot = false from tight_stop hlt (by simp only [tightS, HLEN.out, ← HRR.out]; simp [HL.out, hR0]))
          have d3 : decide (0 < R) = true := decide_eq_true hR0
          go_wp2_with fail
          go_ret
          exact ⟨by rw [HE.out]; rfl, hs.below⟩
        · have HST := Lib.hid (show (List.range (i + 1)).all (tightS es fl pot) = true by
            rw [List.range_succ, List.all_append, HA.out]
            simp only [List.all_cons, List.all_nil, Bool.and_true, Bool.true_and, tightS, HLEN.out, ← HRR.out]
            simp [hR0])
          have d3 : decide (0 < R) = false := decide_eq_false hR0
          go_wp2_with fail
          refine Round.intro (2 * es.length - (i + 1)) ?measure4 (by kernel_rfl) (hJ1 _ _ _ ?rel4)
          case' rel4 => (try dsimp only [nthV])
          case measure4 => omega
          case rel4 => exact ⟨i + 1, by go_num, hlt, rfl, HST, hs⟩
      · have d1 : decide (K + P - Q < 0) = false := decide_eq_false hL
        have d2 : decide (K + P < Q) = false := decide_eq_false (by omega)
        have HST := Lib.hid (show (List.range (i + 1)).all (tightS es fl pot) = true by
          rw [List.range_succ, List.all_append, HA.out]
          simp only [List.all_cons, List.all_nil, Bool.and_true, Bool.true_and, tightS, HLEN.out]
          simp [hL])
        clear hL
        refine Mix.region [0, 0, 0, 0, 0, 0, 0, 0, 0, 0, 0, 0, 0, 0, 0, 0, 0, 0, 0, 2, 0, 0] (fun _ => True) (by kernel_rfl) (by kernel_rfl) trivial ?_
        simp only [List.zip_cons_cons, List.zip_nil_right]
        iterate 15 (refine Mix.step0 fun K hK => ?_; go_simp; (try (go_bits; try go_simp)); first | ((with_reducible refine hK _ _ ?_); clear hK K) | ((try (simp only [IntWalk.iteOmega]; try go_simp)); (try go_bits); (with_reducible refine hK _ _ ?_); clear hK K))
        iterate 4 (first | (refine Mix.stepS rfl fun K hK => ?_; go_simp; (with_reducible refine hK _ _ ?_); clear hK K) | (refine Mix.step0 fun K hK => ?_; go_simp; (try (go_bits; try go_simp)); first | ((with_reducible refine hK _ _ ?_); clear hK K) | ((try (simp only [IntWalk.iteOmega]; try go_simp)); (try go_bits); (with_reducible refine hK _ _ ?_); clear hK K)))
        refine Mix.step2s (by first | rfl | simp [Region.wanted, yielded]) ?_
        iterate 1 (first | (refine Mix.stepS rfl fun K hK => ?_; go_simp; (with_reducible refine hK _ _ ?_); clear hK K) | (refine Mix.step0 fun K hK => ?_; go_simp; (try (go_bits; try go_simp)); first | ((with_reducible refine hK _ _ ?_); clear hK K) | ((try (simp only [IntWalk.iteOmega]; try go_simp)); (try go_bits); (with_reducible refine hK _ _ ?_); clear hK K)))
        iterate 1 (refine Mix.step0 fun K hK => ?_; go_simp; (try (go_bits; try go_simp)); first | ((with_reducible refine hK _ _ ?_); clear hK K) | ((try (simp only [IntWalk.iteOmega]; try go_simp)); (try go_bits); (with_reducible refine hK _ _ ?_); clear hK K))
        refine Mix.done ?_
        go_wp2_with fail
        refine Round.intro (2 * es.length - (i + 1)) ?measure5 (by kernel_rfl) (hJ1 _ _ _ ?rel5)
        case' rel5 => (try dsimp only [nthV])
        case measure5 => omega
        case rel5 => exact ⟨i + 1, by go_num, hlt, rfl, HST, hs.drew⟩
    · obtain rfl : i = 2 * es.length := by omega
      have HE := Lib.hid (show tightB es fl pot = true from HA.out)
      go_wp2_with fail
      go_ret
      exact ⟨by rw [HE.out]; rfl, hs.below⟩
end Go.Proofs.Ytfnkmkfkomhhnaa
