/-
  The reference's nets (gabletref11), walked: Within, Same.
-/
import Derived.Test.YtlbpkfjebaelpaaNRefW
namespace Go.Proofs.Ytlbpkfjebaelpaa
open Go Go.RowKit Go.Mem Go.NetP

set_option maxHeartbeats 2000000 in
theorem rwithin_any (n : Int) (a : Option Addr) (c : Nat) (es : List Ed) (v : Value) (fl : List Int) (w : World) (h : RdG edR w (.slice a es.length c) es) (h' : Rd .i64 w v fl) :
    Calls Try.prog 33 #[.agg #[.int .i64 n, .slice a es.length c], v] w fun en w' => en = .returned (.bool (withinB n es fl)) ∧ Below w.heap.size w w' := by
  have hle := h'.le'
  obtain ⟨a', c', rfl⟩ := h'.shape
  have hs0 := (Sep.start w).newCells #[.int .i64 n, .slice a es.length c] 28
  have fin : ∀ W, Sep w W [cellsT w.heap.size #[.int .i64 n, .slice a es.length c] 28] → W.cell? ⟨w.heap.size, 0, none⟩ = some (.int .i64 n) ∧ W.cell? ⟨w.heap.size, 1, none⟩ = some (.slice a es.length c) :=
    fun W h => ⟨cell_of (h.cells 0 rfl) 0, cell_of (h.cells 0 rfl) 1⟩
  have FIN := Lib.hid fin
  obtain ⟨n0, n1⟩ := fin _ hs0
  clear fin
  go_enter Try.func33, Try.ntmps33
  go_wp2_with fail
  refine (rright_any _ _ _ es _ (hs0.rdG h)).mono ?_
  rintro en w1 ⟨rfl, hb1⟩
  have hs1 := hs0.belowStep hb1
  clear hs0 hb1 n0 n1
  obtain ⟨n0, n1⟩ := FIN.out _ hs1
  cases hr : rightB n es
  · have H := Lib.hid (show withinB n es fl = false by simp [withinB, hr])
    clear hr
    go_wp2_with fail
    go_ret
    exact ⟨by rw [H.out]; rfl, hs1.below⟩
  · have HR := Lib.hid hr
    clear hr
    by_cases hl : fl.length = es.length
    · have d0 : ((fl.length : Int) != (es.length : Int)) = false := by rw [hl]; simp
      have HL := Lib.hid hl
      clear hl
      go_wp2_with fail
      refine wp_loopM [none, none, none, none, some 4, some 5, none, none, none, none, none, none, none, none, none, none, none, some 17, some 18, some 19, some 20, some 21, some 22, some 23, some 24, some 25, some 26, some 27, some 28, some 29, some 30, some 31, some 32, some 33, some 34, some 35, some 36, some 37, some 38, some 39, some 40] (fun (r : Nat) (f : Nat → Value) (wr : World) => (fun (v : Value) => ∃ i : Nat, v = .int .i64 i ∧ i ≤ fl.length ∧ r = fl.length - i ∧ (∀ j, j < i → capB es fl j = true) ∧ Sep w wr [cellsT w.heap.size #[.int .i64 n, .slice a es.length c] 28]) (f 5)) (fl.length) (by kernel_rfl) ?atStart1 ?round1
      case' atStart1 => (try dsimp only [nthV])
      case' round1 =>
        intro gk f wr l hl hrel J1 K1 hJ1 hK1
        (try simp only [mask] at hl)
        generalize f 5 = u5 at hl hrel
        subst hl
        (try dsimp only at hrel)
      case atStart1 => exact ⟨0, rfl, Nat.zero_le _, rfl, by simp, hs1⟩
      case round1 =>
        clear hs1 n0 n1
        obtain ⟨i, rfl, hi, rfl, hcp, hs⟩ := hrel
        have HCP := Lib.hid hcp
        clear hcp
        by_cases hlt : i < fl.length
        · have hle2 : i < es.length := by rw [← HL.out]; exact hlt
          obtain ⟨b1, o1, e1, hb1, hc1⟩ := (hs.rdG h).at i hle2
          obtain ⟨b2, o2, e2, hb2, hx⟩ := (hs.rd h').at i hlt
          subst e1; subst e2
          have c2 := hc1 2 (by decide)
          obtain ⟨e, hee⟩ : ∃ e, e = es[i] := ⟨_, rfl⟩
          rw [← hee] at c2
          simp only [edR, Nat.add_zero, List.getElem?_cons_zero, List.getElem?_cons_succ] at c2
          obtain ⟨x, hxe⟩ : ∃ x, x = fl.getD i 0 := ⟨_, rfl⟩
          rw [← hxe] at hx
          have hcap : capB es fl i = (decide (0 ≤ x) && decide (x ≤ e.c)) := by rw [hxe, hee]; exact capB_at hle2
          have HCAP := Lib.hid hcap
          obtain ⟨n0, n1⟩ := FIN.out _ hs
          clear hc1 hee hxe hcap
          by_cases k0 : x < 0
          · have H := Lib.hid (within_no (n := n) hlt hle2 (by rw [HCAP.out]; simp; omega))
            have d1 : decide (x < 0) = true := by simpa using k0
            go_wp2_with fail
            refine Mix.region [0, 0, 0, 0, 0, 0, 0, 0, 0, 0, 0, 0, 0, 0, 0, 0, 0, 0] (fun _ => True) (by kernel_rfl) (by kernel_rfl) trivial ?_
            simp only [List.zip_cons_cons, List.zip_nil_right]
            iterate 6 (refine Mix.step0 fun K hK => ?_; go_simp; (try (go_bits; try go_simp)); first | ((with_reducible refine hK _ _ ?_); clear hK K) | ((try (simp only [IntWalk.iteOmega]; try go_simp)); (try go_bits); (with_reducible refine hK _ _ ?_); clear hK K))
            iterate 11 (first | (refine Mix.stepS rfl fun K hK => ?_; go_simp; (with_reducible refine hK _ _ ?_); clear hK K) | (refine Mix.step0 fun K hK => ?_; go_simp; (try (go_bits; try go_simp)); first | ((with_reducible refine hK _ _ ?_); clear hK K) | ((try (simp only [IntWalk.iteOmega]; try go_simp)); (try go_bits); (with_reducible refine hK _ _ ?_); clear hK K)))
            iterate 1 (refine Mix.step0 fun K hK => ?_; go_simp; (try (go_bits; try go_simp)); first | ((with_reducible refine hK _ _ ?_); clear hK K) | ((try (simp only [IntWalk.iteOmega]; try go_simp)); (try go_bits); (with_reducible refine hK _ _ ?_); clear hK K))
            refine Mix.done ?_
            go_wp2_with fail
            go_ret
            exact ⟨by rw [H.out]; rfl, hs.drew.below⟩
          · have d0 : decide (x < 0) = false := by simp; omega
            by_cases k1 : e.c < x
            · have H := Lib.hid (within_no (n := n) hlt hle2 (by rw [HCAP.out]; simp; omega))
              have d1 : decide (e.c < x) = true := by simpa using k1
              go_wp2_with fail
              refine Mix.region [0, 0, 0, 0, 0, 0, 0, 0, 0, 0, 0, 0, 0, 0, 0, 0, 0, 0] (fun _ => True) (by kernel_rfl) (by kernel_rfl) trivial ?_
              simp only [List.zip_cons_cons, List.zip_nil_right]
              iterate 6 (refine Mix.step0 fun K hK => ?_; go_simp; (try (go_bits; try go_simp)); first | ((with_reducible refine hK _ _ ?_); clear hK K) | ((try (simp only [IntWalk.iteOmega]; try go_simp)); (try go_bits); (with_reducible refine hK _ _ ?_); clear hK K))
              iterate 11 (first | (refine Mix.stepS rfl fun K hK => ?_; go_simp; (with_reducible refine hK _ _ ?_); clear hK K) | (refine Mix.step0 fun K hK => ?_; go_simp; (try (go_bits; try go_simp)); first | ((with_reducible refine hK _ _ ?_); clear hK K) | ((try (simp only [IntWalk.iteOmega]; try go_simp)); (try go_bits); (with_reducible refine hK _ _ ?_); clear hK K)))
              iterate 1 (refine Mix.step0 fun K hK => ?_; go_simp; (try (go_bits; try go_simp)); first | ((with_reducible refine hK _ _ ?_); clear hK K) | ((try (simp only [IntWalk.iteOmega]; try go_simp)); (try go_bits); (with_reducible refine hK _ _ ?_); clear hK K))
              refine Mix.done ?_
              go_wp2_with fail
              go_ret
              exact ⟨by rw [H.out]; rfl, hs.drew.below⟩
            · have d1 : decide (e.c < x) = false := by simp; omega
              go_wp2_with fail
              refine Mix.region [0, 0, 0, 0, 0, 0, 0, 0, 0, 0, 0, 0, 0, 0, 0, 0, 0, 0] (fun _ => True) (by kernel_rfl) (by kernel_rfl) trivial ?_
              simp only [List.zip_cons_cons, List.zip_nil_right]
              iterate 6 (refine Mix.step0 fun K hK => ?_; go_simp; (try (go_bits; try go_simp)); first | ((with_reducible refine hK _ _ ?_); clear hK K) | ((try (simp only [IntWalk.iteOmega]; try go_simp)); (try go_bits); (with_reducible refine hK _ _ ?_); clear hK K))
              iterate 11 (first | (refine Mix.stepS rfl fun K hK => ?_; go_simp; (with_reducible refine hK _ _ ?_); clear hK K) | (refine Mix.step0 fun K hK => ?_; go_simp; (try (go_bits; try go_simp)); first | ((with_reducible refine hK _ _ ?_); clear hK K) | ((try (simp only [IntWalk.iteOmega]; try go_simp)); (try go_bits); (with_reducible refine hK _ _ ?_); clear hK K)))
              iterate 1 (refine Mix.step0 fun K hK => ?_; go_simp; (try (go_bits; try go_simp)); first | ((with_reducible refine hK _ _ ?_); clear hK K) | ((try (simp only [IntWalk.iteOmega]; try go_simp)); (try go_bits); (with_reducible refine hK _ _ ?_); clear hK K))
              refine Mix.done ?_
              go_wp2_with fail
              refine Round.intro (fl.length - (i + 1)) ?measure2 (by kernel_rfl) (hJ1 _ _ _ ?rel2)
              case' rel2 => (try dsimp only [nthV])
              case measure2 => omega
              case rel2 =>
                refine ⟨i + 1, by go_num, hlt, rfl, fun j hj => ?_, hs.drew⟩
                by_cases hji : j = i
                · subst hji; rw [HCAP.out]; simp; omega
                · exact HCP.out j (by omega)
        · have H := Lib.hid (within_ok HL.out HR.out (fun j hj => HCP.out j (by omega)))
          go_wp2_with fail
          go_ret
          exact ⟨by rw [H.out]; rfl, hs.below⟩
    · have d0 : ((fl.length : Int) != (es.length : Int)) = true := by rw [bne_iff_ne]; omega
      have d1 : ((fl.length : Int) == (es.length : Int)) = false := by rw [beq_eq_false_iff_ne]; omega
      have H := Lib.hid (show withinB n es fl = false by simp [withinB, hl])
      clear hl
      go_wp2_with fail
      go_ret
      exact ⟨by rw [H.out]; rfl, hs1.below⟩

theorem same_stop {xs ys : List Int} {i : Nat} (h : xs.length = ys.length) (hi : i < xs.length) (hx : xs.getD i 0 ≠ ys.getD i 0) : decide (xs = ys) = false := by
  rw [decide_eq_false_iff_not]
  intro e
  exact hx (by rw [e])
theorem same_all {xs ys : List Int} (h : xs.length = ys.length) (hx : ∀ j, j < xs.length → xs.getD j 0 = ys.getD j 0) : decide (xs = ys) = true := by
  rw [decide_eq_true_iff]
  apply List.ext_getElem h
  intro i h1 h2
  have := hx i h1
  simpa [h1, h2] using this

end Go.Proofs.Ytlbpkfjebaelpaa
