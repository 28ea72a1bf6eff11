/-
  The reference's nets (gabletref11), walked: Cost.
-/
import Derived.Test.YtlbpkfjebaelpaaNRef2W
namespace Go.Proofs.Ytlbpkfjebaelpaa
open Go Go.RowKit Go.Mem Go.NetP

set_option maxHeartbeats 2000000 in
theorem rcost_any (n : Int) (a : Option Addr) (c : Nat) (es : List Ed) (v : Value) (fl : List Int) (w : World) (h : RdG edR w (.slice a es.length c) es) (h' : Rd .i64 w v fl) :
    Calls Try.prog 19 #[.agg #[.int .i64 n, .slice a es.length c], v] w fun en w' => en = .returned (.int .i64 (costV n es fl)) ∧ Below w.heap.size w w' := by
  have hle := h'.le'
  obtain ⟨a', c', rfl⟩ := h'.shape
  have hs0 := (Sep.start w).newCells #[.int .i64 n, .slice a es.length c] 28
  have fin : ∀ W, Sep w W [cellsT w.heap.size #[.int .i64 n, .slice a es.length c] 28] → W.cell? ⟨w.heap.size, 0, none⟩ = some (.int .i64 n) ∧ W.cell? ⟨w.heap.size, 1, none⟩ = some (.slice a es.length c) :=
    fun W h => ⟨cell_of (h.cells 0 rfl) 0, cell_of (h.cells 0 rfl) 1⟩
  have FIN := Lib.hid fin
  obtain ⟨n0, n1⟩ := fin _ hs0
  clear fin
  go_enter Try.func19, Try.ntmps19
  go_wp2_with fail
  refine (rwithin_any _ _ _ es _ fl _ (hs0.rdG h) (hs0.rd h')).mono ?_
  rintro en w1 ⟨rfl, hb1⟩
  have hs1 := hs0.belowStep hb1
  clear hs0 hb1 n0 n1
  cases hr : withinB n es fl
  · have H := Lib.hid (show costV n es fl = 0 by simp [costV, hr])
    clear hr
    go_wp2_with fail
    go_ret
    exact ⟨by rw [H.out]; rfl, hs1.below⟩
  · have HR := Lib.hid hr
    have HL := Lib.hid (within_cap hr).1
    have HV := Lib.hid (show costV n es fl = flowCost es fl fl.length by simp [costV, hr])
    clear hr
    go_wp2_with fail
    refine wp_loopM [none, none, none, none, none, some 5, some 6, none, none, none, none, some 11, some 12, some 13, some 14, some 15, some 16, some 17, some 18, some 19, some 20, some 21, some 22, some 23, some 24, some 25, some 26, some 27, some 28, some 29, none] (fun (r : Nat) (f : Nat → Value) (wr : World) => (fun (v s : Value) => ∃ i : Nat, v = .int .i64 i ∧ s = .int .i64 (flowCost es fl i) ∧ i ≤ fl.length ∧ r = fl.length - i ∧ Sep w wr [cellsT w.heap.size #[.int .i64 n, .slice a es.length c] 28]) (f 6) (f 5)) (fl.length) (by kernel_rfl) ?atStart1 ?round1
    case' atStart1 => (try dsimp only [nthV])
    case' round1 =>
      intro gk f wr l hl hrel J1 K1 hJ1 hK1
      (try simp only [mask] at hl)
      generalize f 6 = u6 at hl hrel
      generalize f 5 = u5 at hl hrel
      subst hl
      (try dsimp only at hrel)
    case atStart1 => exact ⟨0, rfl, rfl, Nat.zero_le _, rfl, hs1⟩
    case round1 =>
      clear hs1
      obtain ⟨i, rfl, rfl, hi, rfl, hs⟩ := hrel
      by_cases hlt : i < fl.length
      · have hle2 : i < es.length := by rw [← HL.out]; exact hlt
        obtain ⟨b1, o1, e1, hb1, hc1⟩ := (hs.rdG h).at i hle2
        obtain ⟨b2, o2, e2, hb2, hx⟩ := (hs.rd h').at i hlt
        subst e1; subst e2
        have c3 := hc1 3 (by decide)
        have HSS := Lib.hid (flowCost_succ es fl i)
        obtain ⟨q0, q1⟩ := flowCost_bound HR.out (i := i) (by omega)
        obtain ⟨q2, q3⟩ := flowCost_bound HR.out (i := i + 1) (by omega)
        obtain ⟨hp0, hp1⟩ := costP_bound HR.out hle2
        rw [flowCost_succ] at q2 q3
        rw [edAt_of hle2] at HSS q2 q3
        obtain ⟨e, hee⟩ : ∃ e, e = es[i] := ⟨_, rfl⟩
        rw [← hee] at c3 HSS q2 q3 hp0 hp1
        simp only [edR, Nat.add_zero, List.getElem?_cons_zero, List.getElem?_cons_succ] at c3
        obtain ⟨x, hxe⟩ : ∃ x, x = fl.getD i 0 := ⟨_, rfl⟩
        rw [← hxe] at hx HSS q2 q3 hp0 hp1
        generalize hS : flowCost es fl i = S at *
        have HS := Lib.hid hS
        obtain ⟨n0, n1⟩ := FIN.out _ hs
        clear hc1 hee hxe hS
        go_wp2_with fail
        refine Mix.region [0, 0, 0, 0, 0, 0, 0, 0, 0, 0, 0, 0, 0, 0] (fun _ => True) (by kernel_rfl) (by kernel_rfl) trivial ?_
        simp only [List.zip_cons_cons, List.zip_nil_right]
        iterate 14 (refine Mix.step0 fun K hK => ?_; go_simp; (try (go_bits; try go_simp)); first | ((with_reducible refine hK _ _ ?_); clear hK K) | ((try (simp only [IntWalk.iteOmega]; try go_simp)); (try go_bits); (with_reducible refine hK _ _ ?_); clear hK K))
        refine Mix.done ?_
        go_wp2_with fail
        refine Round.intro (fl.length - (i + 1)) ?measure2 (by kernel_rfl) (hJ1 _ _ _ ?rel2)
        case' rel2 => (try dsimp only [nthV])
        case measure2 => omega
        case rel2 => exact ⟨i + 1, by go_num, by rw [HSS.out], hlt, rfl, hs.drew⟩
      · have hif : i = fl.length := by omega
        have H := Lib.hid (show flowCost es fl i = costV n es fl by rw [HV.out, hif])
        clear hif
        go_wp2_with fail
        go_ret
        exact ⟨by rw [← H.out]; rfl, hs.below⟩
end Go.Proofs.Ytlbpkfjebaelpaa
