/-
  The reference of nets, walked.
-/
import Derived.Test.YtlbpkfjebaelpaaNB
import Derived.Test.YtlbpkfjebaelpaaNA
set_option linter.unusedVariables false
set_option linter.unusedSimpArgs false
namespace Go.Proofs.Ytlbpkfjebaelpaa
open Go Go.RowKit Go.Mem Go.NetP

set_option maxHeartbeats 400000 in
theorem rnode_any (n : Int) (a : Option Addr) (l c : Nat) (i : Int) (w : World) : Calls Try.prog 32 #[.agg #[.int .i64 n, .slice a l c], .int .i64 i] w fun e w' => e = .returned (.bool (nodeB n i)) ∧ Below w.heap.size w w' := by
  by_cases h0 : 0 ≤ i
  · have d0 : decide (0 ≤ i) = true := by simpa using h0
    have H := Lib.hid (show decide (i < n) = nodeB n i by simp [nodeB, h0])
    go_enter Try.func32, Try.ntmps32
    go_wp2_with fail
    go_ret
    exact ⟨by rw [← H.out]; rfl, (Below.refl _ _).alloc (Nat.le_refl _) _⟩
  · have d0 : decide (0 ≤ i) = false := by simpa using h0
    have H := Lib.hid (show false = nodeB n i by simp [nodeB, h0])
    clear h0
    go_enter Try.func32, Try.ntmps32
    go_wp2_with fail
    go_ret
    exact ⟨by rw [← H.out]; rfl, (Below.refl _ _).alloc (Nat.le_refl _) _⟩

set_option maxHeartbeats 4000000 in
theorem rright_any (n : Int) (a : Option Addr) (c : Nat) (es : List Ed) (w : World) (h : RdG edR w (.slice a es.length c) es) : Calls Try.prog 17 #[.agg #[.int .i64 n, .slice a es.length c]] w fun en w' => en = .returned (.bool (rightB n es)) ∧ Below w.heap.size w w' := by
  have hs0 := (Sep.start w).newCells #[.int .i64 n, .slice a es.length c] 28
  by_cases k0 : n < 1
  · have H := Lib.hid (right_n (n := n) (es := es) (.inl k0))
    go_enter Try.func17, Try.ntmps17
    go_wp2_with fail
    go_ret
    exact ⟨by rw [H.out]; rfl, hs0.below⟩
  · have d0 : decide (n < 1) = false := by simp; omega
    by_cases k1 : 40 < n
    · have H := Lib.hid (right_n (n := n) (es := es) (.inr (.inl k1)))
      go_enter Try.func17, Try.ntmps17
      go_wp2_with fail
      go_ret
      exact ⟨by rw [H.out]; rfl, hs0.below⟩
    · have d1 : decide (40 < n) = false := by simp; omega
      by_cases k2 : 200 < es.length
      · have H := Lib.hid (right_n (n := n) (es := es) (.inr (.inr k2)))
        go_enter Try.func17, Try.ntmps17
        go_wp2_with fail
        go_ret
        exact ⟨by rw [H.out]; rfl, hs0.below⟩
      · have d2 : decide (200 < (es.length : Int)) = false := by simp; omega
        have k3 : es.length ≤ 200 := by omega
        have fin0 : ∀ W, Sep w W [cellsT w.heap.size #[.int .i64 n, .slice a es.length c] 28] → W.cell? ⟨w.heap.size, 0, none⟩ = some (.int .i64 n) ∧ W.cell? ⟨w.heap.size, 1, none⟩ = some (.slice a es.length c) :=
          fun W h => ⟨cell_of (h.cells 0 rfl) 0, cell_of (h.cells 0 rfl) 1⟩
        have FIN0 := Lib.hid fin0
        clear fin0
        go_enter Try.func17, Try.ntmps17
        go_wp2_with fail
        refine wp_loopM [none, none, some 2, some 3, some 4, some 5, none, none, none, none, none, none, none, none, none, none, none, none, none, none, some 20, some 21, some 22, some 23, some 24, some 25, some 26, some 27, some 28, some 29, some 30, some 31, some 32, some 33, some 34, some 35, some 36, some 37, some 38, some 39, some 40, some 41, some 42, some 43, some 44, some 45, some 46, some 47, some 48, some 49, some 50, some 51, some 52, some 53, some 54, some 55, some 56, some 57, some 58, some 59, some 60, some 61, some 62, some 63, some 64, some 65, some 66, some 67, some 68, some 69, some 70, some 71, some 72, some 73, some 74, some 75, some 76, some 77, some 78, some 79, some 80] (fun (r : Nat) (f : Nat → Value) (wr : World) => (fun (v sm : Value) => ∃ (i : Nat), v = .int .i64 i ∧ sm = .int .i64 (costs (es.take i) : Nat) ∧ i ≤ es.length ∧ r = es.length - i ∧ edges n (es.take i) = true ∧ costs (es.take i) ≤ 4611686018427387904 ∧ Sep w wr [cellsT w.heap.size #[.int .i64 n, .slice a es.length c] 28]) (f 4) (f 3)) (es.length) (by kernel_rfl) ?atStart1 ?round1
        case' atStart1 => (try dsimp only [nthV])
        case' round1 =>
          intro gk f wr l hl hrel J1 K1 hJ1 hK1
          (try simp only [mask] at hl)
          generalize f 4 = u4 at hl hrel
          generalize f 3 = u3 at hl hrel
          subst hl
          (try dsimp only at hrel)
        case atStart1 => exact ⟨0, rfl, rfl, Nat.zero_le _, rfl, rfl, by simp [costs], hs0⟩
        case round1 =>
          clear hs0
          obtain ⟨i, rfl, rfl, hi, rfl, he, hm2, hs⟩ := hrel
          have HE := Lib.hid he
          clear he
          obtain ⟨g0, g1⟩ := FIN0.out _ hs
          by_cases hlt : i < es.length
          · obtain ⟨b1, o1, e1, hb1, hc1⟩ := (hs.rdG h).at i hlt
            subst e1
            have c0 := hc1 0 (by decide)
            have c1 := hc1 1 (by decide)
            have c2 := hc1 2 (by decide)
            have c3 := hc1 3 (by decide)
            obtain ⟨e, hee⟩ : ∃ e, e = es[i] := ⟨_, rfl⟩
            rw [← hee] at c0 c1 c2 c3
            simp only [edR, Nat.add_zero, List.getElem?_cons_zero, List.getElem?_cons_succ] at c0 c1 c2 c3
            have hsA := hs.newCells #[.int .i64 e.f, .int .i64 e.t, .int .i64 e.c, .int .i64 e.k] 52
            have fin : ∀ W, Sep w W [cellsT wr.heap.size #[.int .i64 e.f, .int .i64 e.t, .int .i64 e.c, .int .i64 e.k] 52, cellsT w.heap.size #[.int .i64 n, .slice (some ⟨b1, o1, none⟩) es.length c] 28] →
                W.cell? ⟨w.heap.size, 0, none⟩ = some (.int .i64 n) ∧ W.cell? ⟨w.heap.size, 1, none⟩ = some (.slice (some ⟨b1, o1, none⟩) es.length c) ∧ W.cell? ⟨wr.heap.size, 0, none⟩ = some (.int .i64 e.f) ∧ W.cell? ⟨wr.heap.size, 1, none⟩ = some (.int .i64 e.t) ∧ W.cell? ⟨wr.heap.size, 2, none⟩ = some (.int .i64 e.c) ∧ W.cell? ⟨wr.heap.size, 3, none⟩ = some (.int .i64 e.k) :=
              fun W h => ⟨cell_of (h.cells 1 rfl) 0, cell_of (h.cells 1 rfl) 1, cell_of (h.cells 0 rfl) 0, cell_of (h.cells 0 rfl) 1, cell_of (h.cells 0 rfl) 2, cell_of (h.cells 0 rfl) 3⟩
            have FIN := Lib.hid fin
            obtain ⟨n0, n1, f0, f1, f2, f3⟩ := fin _ hsA
            have HEE := Lib.hid hee
            clear hc1 hee fin
            go_wp2_with fail
            refine (rnode_any _ _ _ _ _ _).mono ?_
            rintro en w1 ⟨rfl, hb⟩
            have hsB := hsA.belowStep hb
            clear hsA hb n0 n1 f0 f1 f2 f3 g0 g1 c0 c1 c2 c3
            obtain ⟨n0, n1, f0, f1, f2, f3⟩ := FIN.out _ hsB
            cases q1 : nodeB n e.f
            · have H := Lib.hid (right_edge (n := n) hlt (by rw [← HEE.out]; simp [edgeB, q1]))
              clear q1
              go_wp2_with fail
              go_ret
              exact ⟨by rw [H.out]; rfl, hsB.below⟩
            · have Q1 := Lib.hid q1
              clear q1
              go_wp2_with fail
              refine (rnode_any _ _ _ _ _ _).mono ?_
              rintro en w2 ⟨rfl, hb⟩
              have hsC := hsB.belowStep hb
              clear hsB hb n0 n1 f0 f1 f2 f3
              obtain ⟨n0, n1, f0, f1, f2, f3⟩ := FIN.out _ hsC
              cases q2 : nodeB n e.t
              · have H := Lib.hid (right_edge (n := n) hlt (by rw [← HEE.out]; simp [edgeB, q2]))
                clear q2
                go_wp2_with fail
                go_ret
                exact ⟨by rw [H.out]; rfl, hsC.below⟩
              · have Q2 := Lib.hid q2
                clear q2
                by_cases r0 : e.c < 0
                · have H := Lib.hid (right_edge (n := n) hlt (by rw [← HEE.out, Bool.eq_false_iff, Ne, edgeB_iff]; omega))
                  go_wp2_with fail
                  go_ret
                  exact ⟨by rw [H.out]; rfl, hsC.below⟩
                · have t0 : decide (e.c < 0) = false := by simp; omega
                  by_cases r1 : 4503599627370496 < e.c
                  · have H := Lib.hid (right_edge (n := n) hlt (by rw [← HEE.out, Bool.eq_false_iff, Ne, edgeB_iff]; omega))
                    go_wp2_with fail
                    go_ret
                    exact ⟨by rw [H.out]; rfl, hsC.below⟩
                  · have t1 : decide (4503599627370496 < e.c) = false := by simp; omega
                    by_cases r2 : e.k < -1000
                    · have H := Lib.hid (right_edge (n := n) hlt (by rw [← HEE.out, Bool.eq_false_iff, Ne, edgeB_iff]; omega))
                      go_wp2_with fail
                      go_ret
                      exact ⟨by rw [H.out]; rfl, hsC.below⟩
                    · have t2 : decide (e.k < -1000) = false := by simp; omega
                      by_cases r3 : 1000 < e.k
                      · have H := Lib.hid (right_edge (n := n) hlt (by rw [← HEE.out, Bool.eq_false_iff, Ne, edgeB_iff]; omega))
                        go_wp2_with fail
                        go_ret
                        exact ⟨by rw [H.out]; rfl, hsC.below⟩
                      · have t3 : decide (1000 < e.k) = false := by simp; omega
                        have heb : edgeB n e = true := by
                          rw [edgeB_iff]
                          exact ⟨(nodeB_iff _ _).1 Q1.out, (nodeB_iff _ _).1 Q2.out, by omega, by omega, by omega, by omega⟩
                        have HST := Lib.hid (edges_snoc hlt HE.out (by rw [← HEE.out]; exact heb))
                        have HCS := Lib.hid (costs_snoc hlt)
                        rw [← HEE.out] at HCS
                        have hce := costE_le heb
                        obtain ⟨cn, hcn⟩ : ∃ cn : Nat, e.c = cn := ⟨e.c.toNat, by omega⟩
                        have hnxt : ∀ j, j < es.length → j = i + 1 → True := fun _ _ _ => trivial
                        clear heb hnxt
                        have hov : (4611686018427387904 < costs (es.take i) + costE e) → rightB n es = false := fun hh => right_cost (n := n) hlt (by rw [← HEE.out]; exact hh)
                        have HOV := Lib.hid hov
                        clear hov
                        rcases Int.lt_or_le e.k 0 with hk | hk
                        · have hp : (costE e : Int) = cn * -e.k := by
                            unfold costE absI; rw [hcn, Int.toNat_natCast, Int.natCast_mul]; congr 1; omega
                          rw [hcn] at f2 r0 r1 t0 t1
                          have hp0 : 0 ≤ (cn : Int) * -e.k := by rw [← hp]; omega
                          have hp1 : (cn : Int) * -e.k ≤ 4503599627370496000 := by rw [← hp]; omega
                          have HP := Lib.hid hp
                          have HCN := Lib.hid hcn
                          generalize hQ : costs (es.take i) = Q at *
                          have HQ := Lib.hid hQ
                          clear hp hcn hQ
                          by_cases ov : 4611686018427387904 < (Q : Int) + cn * -e.k
                          · have H := Lib.hid (HOV.out (by have := HP.out; omega))
                            go_wp2_with fail
                            go_ret
                            exact ⟨by rw [H.out]; rfl, hsC.below⟩
                          · have t4 : decide (4611686018427387904 < (Q : Int) + cn * -e.k) = false := by simp; omega
                            go_wp2_with fail
                            refine Round.intro (es.length - (i + 1)) ?measure2 (by kernel_rfl) (hJ1 _ _ _ ?rel2)
                            case' rel2 => (try dsimp only [nthV])
                            case measure2 => omega
                            case rel2 =>
                              refine ⟨i + 1, by go_num, ?_, hlt, rfl, HST.out, by rw [HCS.out]; have := HP.out; omega, hsC.tail⟩
                              rw [HCS.out, Int.natCast_add, HP.out]
                        · have hp : (costE e : Int) = cn * e.k := by
                            unfold costE absI; rw [hcn, Int.toNat_natCast, Int.natCast_mul]; congr 1; omega
                          rw [hcn] at f2 r0 r1 t0 t1
                          have hp0 : 0 ≤ (cn : Int) * e.k := by rw [← hp]; omega
                          have hp1 : (cn : Int) * e.k ≤ 4503599627370496000 := by rw [← hp]; omega
                          have HP := Lib.hid hp
                          have HCN := Lib.hid hcn
                          generalize hQ : costs (es.take i) = Q at *
                          have HQ := Lib.hid hQ
                          clear hp hcn hQ
                          by_cases ov : 4611686018427387904 < (Q : Int) + cn * e.k
                          · have H := Lib.hid (HOV.out (by have := HP.out; omega))
                            go_wp2_with fail
                            go_ret
                            exact ⟨by rw [H.out]; rfl, hsC.below⟩
                          · have t4 : decide (4611686018427387904 < (Q : Int) + cn * e.k) = false := by simp; omega
                            go_wp2_with fail
                            refine Round.intro (es.length - (i + 1)) ?measure3 (by kernel_rfl) (hJ1 _ _ _ ?rel3)
                            case' rel3 => (try dsimp only [nthV])
                            case measure3 => omega
                            case rel3 =>
                              refine ⟨i + 1, by go_num, ?_, hlt, rfl, HST.out, by rw [HCS.out]; have := HP.out; omega, hsC.tail⟩
                              rw [HCS.out, Int.natCast_add, HP.out]
          · have he : i = es.length := by omega
            have H := Lib.hid (right_ok (n := n) (es := es) (by omega) (by omega) k3 (by have := HE.out; rw [he, List.take_length] at this; exact this) (by rw [he, List.take_length] at hm2; exact hm2))
            clear he
            go_wp2_with fail
            go_ret
            exact ⟨by rw [H.out]; rfl, hs.below⟩
end Go.Proofs.Ytlbpkfjebaelpaa
namespace Go.Proofs.Ytlbpkfjebaelpaa
open Go Go.RowKit Go.Mem Go.NetP

set_option maxHeartbeats 2000000 in
theorem rwithin_any (n : Int) (a : Option Addr) (c : Nat) (es : List Ed) (v : Value) (fl : List Int) (w : World) (h : RdG edR w (.slice a es.length c) es) (h' : Rd .i64 w v fl) :
    Calls Try.prog 33 #[.agg #[.int .i64 n, .slice a es.length c], v] w fun en w' => en = .returned (.bool (withinB n es fl)) ∧ Below w.heap.size w w' := by
  have hle := h'.le'
  obtain ⟨a', c', rfl⟩ := h'.shape
  have hs0 := (Sep.start w).newCells #[.int .i64 n, .slice a es.length c] 28
  have fin : ∀ W, Sep w W [cellsT w.heap.size #[.int .i64 n, .slice a es.length c] 28] → W.cell? ⟨w.heap.size, 0, none⟩ = some (.int .i64 n) ∧ W.cell? ⟨w.heap.size, 1, none⟩ = some (.slice a es.length c) :=
    fun W h => ⟨cell_of (h.cells 0 rfl) 0, cell_of (h.cells 0 rfl) 1⟩
  have FIN := Lib.hid fin
  obtain ⟨n0, n1⟩ := fin _ hs0
  clear fin
  go_enter Try.func33, Try.ntmps33
  go_wp2_with fail
  refine (rright_any _ _ _ es _ (hs0.rdG h)).mono ?_
  rintro en w1 ⟨rfl, hb1⟩
  have hs1 := hs0.belowStep hb1
  clear hs0 hb1 n0 n1
  obtain ⟨n0, n1⟩ := FIN.out _ hs1
  cases hr : rightB n es
  · have H := Lib.hid (show withinB n es fl = false by simp [withinB, hr])
    clear hr
    go_wp2_with fail
    go_ret
    exact ⟨by rw [H.out]; rfl, hs1.below⟩
  · have HR := Lib.hid hr
    clear hr
    by_cases hl : fl.length = es.length
    · have d0 : ((fl.length : Int) != (es.length : Int)) = false := by rw [hl]; simp
      have HL := Lib.hid hl
      clear hl
      go_wp2_with fail
      refine wp_loopM [none, none, none, none, some 4, some 5, none, none, none, none, none, none, none, none, none, none, none, some 17, some 18, some 19, some 20, some 21, some 22, some 23, some 24, some 25, some 26, some 27, some 28, some 29, some 30, some 31, some 32, some 33, some 34, some 35, some 36, some 37, some 38, some 39, some 40] (fun (r : Nat) (f : Nat → Value) (wr : World) => (fun (v : Value) => ∃ i : Nat, v = .int .i64 i ∧ i ≤ fl.length ∧ r = fl.length - i ∧ (∀ j, j < i → capB es fl j = true) ∧ Sep w wr [cellsT w.heap.size #[.int .i64 n, .slice a es.length c] 28]) (f 5)) (fl.length) (by kernel_rfl) ?atStart4 ?round4
      case' atStart4 => (try dsimp only [nthV])
      case' round4 =>
        intro gk f wr l hl hrel J1 K1 hJ1 hK1
        (try simp only [mask] at hl)
        generalize f 5 = u5 at hl hrel
        subst hl
        (try dsimp only at hrel)
      case atStart4 => exact ⟨0, rfl, Nat.zero_le _, rfl, by simp, hs1⟩
      case round4 =>
        clear hs1 n0 n1
        obtain ⟨i, rfl, hi, rfl, hcp, hs⟩ := hrel
        have HCP := Lib.hid hcp
        clear hcp
        by_cases hlt : i < fl.length
        · have hle2 : i < es.length := by rw [← HL.out]; exact hlt
          obtain ⟨b1, o1, e1, hb1, hc1⟩ := (hs.rdG h).at i hle2
          obtain ⟨b2, o2, e2, hb2, hx⟩ := (hs.rd h').at i hlt
          subst e1; subst e2
          have c2 := hc1 2 (by decide)
          obtain ⟨e, hee⟩ : ∃ e, e = es[i] := ⟨_, rfl⟩
          rw [← hee] at c2
          simp only [edR, Nat.add_zero, List.getElem?_cons_zero, List.getElem?_cons_succ] at c2
          obtain ⟨x, hxe⟩ : ∃ x, x = fl.getD i 0 := ⟨_, rfl⟩
          rw [← hxe] at hx
          have hcap : capB es fl i = (decide (0 ≤ x) && decide (x ≤ e.c)) := by rw [hxe, hee]; exact capB_at hle2
          have HCAP := Lib.hid hcap
          obtain ⟨n0, n1⟩ := FIN.out _ hs
          clear hc1 hee hxe hcap
          by_cases k0 : x < 0
          · have H := Lib.hid (within_no (n := n) hlt hle2 (by rw [HCAP.out]; simp; omega))
            have d1 : decide (x < 0) = true := by simpa using k0
            go_wp2_with fail
            refine Mix.region [0, 0, 0, 0, 0, 0, 0, 0, 0, 0, 0, 0, 0, 0, 0, 0, 0, 0] (fun _ => True) (by kernel_rfl) (by kernel_rfl) trivial ?_
            simp only [List.zip_cons_cons, List.zip_nil_right]
            iterate 6 (refine Mix.step0 fun K hK => ?_; go_simp; (try (go_bits; try go_simp)); first | ((with_reducible refine hK _ _ ?_); clear hK K) | ((try (simp only [IntWalk.iteOmega]; try go_simp)); (try go_bits); (with_reducible refine hK _ _ ?_); clear hK K))
            iterate 11 (first | (refine Mix.stepS rfl fun K hK => ?_; go_simp; (with_reducible refine hK _ _ ?_); clear hK K) | (refine Mix.step0 fun K hK => ?_; go_simp; (try (go_bits; try go_simp)); first | ((with_reducible refine hK _ _ ?_); clear hK K) | ((try (simp only [IntWalk.iteOmega]; try go_simp)); (try go_bits); (with_reducible refine hK _ _ ?_); clear hK K)))
            iterate 1 (refine Mix.step0 fun K hK => ?_; go_simp; (try (go_bits; try go_simp)); first | ((with_reducible refine hK _ _ ?_); clear hK K) | ((try (simp only [IntWalk.iteOmega]; try go_simp)); (try go_bits); (with_reducible refine hK _ _ ?_); clear hK K))
            refine Mix.done ?_
            go_wp2_with fail
            go_ret
            exact ⟨by rw [H.out]; rfl, hs.drew.below⟩
          · have d0 : decide (x < 0) = false := by simp; omega
            by_cases k1 : e.c < x
            · have H := Lib.hid (within_no (n := n) hlt hle2 (by rw [HCAP.out]; simp; omega))
              have d1 : decide (e.c < x) = true := by simpa using k1
              go_wp2_with fail
              refine Mix.region [0, 0, 0, 0, 0, 0, 0, 0, 0, 0, 0, 0, 0, 0, 0, 0, 0, 0] (fun _ => True) (by kernel_rfl) (by kernel_rfl) trivial ?_
              simp only [List.zip_cons_cons, List.zip_nil_right]
              iterate 6 (refine Mix.step0 fun K hK => ?_; go_simp; (try (go_bits; try go_simp)); first | ((with_reducible refine hK _ _ ?_); clear hK K) | ((try (simp only [IntWalk.iteOmega]; try go_simp)); (try go_bits); (with_reducible refine hK _ _ ?_); clear hK K))
              iterate 11 (first | (refine Mix.stepS rfl fun K hK => ?_; go_simp; (with_reducible refine hK _ _ ?_); clear hK K) | (refine Mix.step0 fun K hK => ?_; go_simp; (try (go_bits; try go_simp)); first | ((with_reducible refine hK _ _ ?_); clear hK K) | ((try (simp only [IntWalk.iteOmega]; try go_simp)); (try go_bits); (with_reducible refine hK _ _ ?_); clear hK K)))
              iterate 1 (refine Mix.step0 fun K hK => ?_; go_simp; (try (go_bits; try go_simp)); first | ((with_reducible refine hK _ _ ?_); clear hK K) | ((try (simp only [IntWalk.iteOmega]; try go_simp)); (try go_bits); (with_reducible refine hK _ _ ?_); clear hK K))
              refine Mix.done ?_
              go_wp2_with fail
              go_ret
              exact ⟨by rw [H.out]; rfl, hs.drew.below⟩
            · have d1 : decide (e.c < x) = false := by simp; omega
              go_wp2_with fail
              refine Mix.region [0, 0, 0, 0, 0, 0, 0, 0, 0, 0, 0, 0, 0, 0, 0, 0, 0, 0] (fun _ => True) (by kernel_rfl) (by kernel_rfl) trivial ?_
              simp only [List.zip_cons_cons, List.zip_nil_right]
              iterate 6 (refine Mix.step0 fun K hK => ?_; go_simp; (try (go_bits; try go_simp)); first | ((with_reducible refine hK _ _ ?_); clear hK K) | ((try (simp only [IntWalk.iteOmega]; try go_simp)); (try go_bits); (with_reducible refine hK _ _ ?_); clear hK K))
              iterate 11 (first | (refine Mix.stepS rfl fun K hK => ?_; go_simp; (with_reducible refine hK _ _ ?_); clear hK K) | (refine Mix.step0 fun K hK => ?_; go_simp; (try (go_bits; try go_simp)); first | ((with_reducible refine hK _ _ ?_); clear hK K) | ((try (simp only [IntWalk.iteOmega]; try go_simp)); (try go_bits); (with_reducible refine hK _ _ ?_); clear hK K)))
              iterate 1 (refine Mix.step0 fun K hK => ?_; go_simp; (try (go_bits; try go_simp)); first | ((with_reducible refine hK _ _ ?_); clear hK K) | ((try (simp only [IntWalk.iteOmega]; try go_simp)); (try go_bits); (with_reducible refine hK _ _ ?_); clear hK K))
              refine Mix.done ?_
              go_wp2_with fail
              refine Round.intro (fl.length - (i + 1)) ?measure5 (by kernel_rfl) (hJ1 _ _ _ ?rel5)
              case' rel5 => (try dsimp only [nthV])
              case measure5 => omega
              case rel5 =>
                refine ⟨i + 1, by go_num, hlt, rfl, fun j hj => ?_, hs.drew⟩
                by_cases hji : j = i
                · subst hji; rw [HCAP.out]; simp; omega
                · exact HCP.out j (by omega)
        · have H := Lib.hid (within_ok HL.out HR.out (fun j hj => HCP.out j (by omega)))
          go_wp2_with fail
          go_ret
          exact ⟨by rw [H.out]; rfl, hs.below⟩
    · have d0 : ((fl.length : Int) != (es.length : Int)) = true := by rw [bne_iff_ne]; omega
      have d1 : ((fl.length : Int) == (es.length : Int)) = false := by rw [beq_eq_false_iff_ne]; omega
      have H := Lib.hid (show withinB n es fl = false by simp [withinB, hl])
      clear hl
      go_wp2_with fail
      go_ret
      exact ⟨by rw [H.out]; rfl, hs1.below⟩

theorem same_stop {xs ys : List Int} {i : Nat} (h : xs.length = ys.length) (hi : i < xs.length) (hx : xs.getD i 0 ≠ ys.getD i 0) : decide (xs = ys) = false := by
  rw [decide_eq_false_iff_not]
  intro e
  exact hx (by rw [e])
theorem same_all {xs ys : List Int} (h : xs.length = ys.length) (hx : ∀ j, j < xs.length → xs.getD j 0 = ys.getD j 0) : decide (xs = ys) = true := by
  rw [decide_eq_true_iff]
  apply List.ext_getElem h
  intro i h1 h2
  have := hx i h1
  simpa [h1, h2] using this

end Go.Proofs.Ytlbpkfjebaelpaa
namespace Go.Proofs.Ytlbpkfjebaelpaa
open Go Go.RowKit Go.Mem Go.NetP

set_option maxHeartbeats 2000000 in
theorem rcost_any (n : Int) (a : Option Addr) (c : Nat) (es : List Ed) (v : Value) (fl : List Int) (w : World) (h : RdG edR w (.slice a es.length c) es) (h' : Rd .i64 w v fl) :
    Calls Try.prog 19 #[.agg #[.int .i64 n, .slice a es.length c], v] w fun en w' => en = .returned (.int .i64 (costV n es fl)) ∧ Below w.heap.size w w' := by
  have hle := h'.le'
  obtain ⟨a', c', rfl⟩ := h'.shape
  have hs0 := (Sep.start w).newCells #[.int .i64 n, .slice a es.length c] 28
  have fin : ∀ W, Sep w W [cellsT w.heap.size #[.int .i64 n, .slice a es.length c] 28] → W.cell? ⟨w.heap.size, 0, none⟩ = some (.int .i64 n) ∧ W.cell? ⟨w.heap.size, 1, none⟩ = some (.slice a es.length c) :=
    fun W h => ⟨cell_of (h.cells 0 rfl) 0, cell_of (h.cells 0 rfl) 1⟩
  have FIN := Lib.hid fin
  obtain ⟨n0, n1⟩ := fin _ hs0
  clear fin
  go_enter Try.func19, Try.ntmps19
  go_wp2_with fail
  refine (rwithin_any _ _ _ es _ fl _ (hs0.rdG h) (hs0.rd h')).mono ?_
  rintro en w1 ⟨rfl, hb1⟩
  have hs1 := hs0.belowStep hb1
  clear hs0 hb1 n0 n1
  cases hr : withinB n es fl
  · have H := Lib.hid (show costV n es fl = 0 by simp [costV, hr])
    clear hr
    go_wp2_with fail
    go_ret
    exact ⟨by rw [H.out]; rfl, hs1.below⟩
  · have HR := Lib.hid hr
    have HL := Lib.hid (within_cap hr).1
    have HV := Lib.hid (show costV n es fl = flowCost es fl fl.length by simp [costV, hr])
    clear hr
    go_wp2_with fail
    refine wp_loopM [none, none, none, none, none, some 5, some 6, none, none, none, none, some 11, some 12, some 13, some 14, some 15, some 16, some 17, some 18, some 19, some 20, some 21, some 22, some 23, some 24, some 25, some 26, some 27, some 28, some 29, none] (fun (r : Nat) (f : Nat → Value) (wr : World) => (fun (v s : Value) => ∃ i : Nat, v = .int .i64 i ∧ s = .int .i64 (flowCost es fl i) ∧ i ≤ fl.length ∧ r = fl.length - i ∧ Sep w wr [cellsT w.heap.size #[.int .i64 n, .slice a es.length c] 28]) (f 6) (f 5)) (fl.length) (by kernel_rfl) ?atStart6 ?round6
    case' atStart6 => (try dsimp only [nthV])
    case' round6 =>
      intro gk f wr l hl hrel J1 K1 hJ1 hK1
      (try simp only [mask] at hl)
      generalize f 6 = u6 at hl hrel
      generalize f 5 = u5 at hl hrel
      subst hl
      (try dsimp only at hrel)
    case atStart6 => exact ⟨0, rfl, rfl, Nat.zero_le _, rfl, hs1⟩
    case round6 =>
      clear hs1
      obtain ⟨i, rfl, rfl, hi, rfl, hs⟩ := hrel
      by_cases hlt : i < fl.length
      · have hle2 : i < es.length := by rw [← HL.out]; exact hlt
        obtain ⟨b1, o1, e1, hb1, hc1⟩ := (hs.rdG h).at i hle2
        obtain ⟨b2, o2, e2, hb2, hx⟩ := (hs.rd h').at i hlt
        subst e1; subst e2
        have c3 := hc1 3 (by decide)
        have HSS := Lib.hid (flowCost_succ es fl i)
        obtain ⟨q0, q1⟩ := flowCost_bound HR.out (i := i) (by omega)
        obtain ⟨q2, q3⟩ := flowCost_bound HR.out (i := i + 1) (by omega)
        obtain ⟨hp0, hp1⟩ := costP_bound HR.out hle2
        rw [flowCost_succ] at q2 q3
        rw [edAt_of hle2] at HSS q2 q3
        obtain ⟨e, hee⟩ : ∃ e, e = es[i] := ⟨_, rfl⟩
        rw [← hee] at c3 HSS q2 q3 hp0 hp1
        simp only [edR, Nat.add_zero, List.getElem?_cons_zero, List.getElem?_cons_succ] at c3
        obtain ⟨x, hxe⟩ : ∃ x, x = fl.getD i 0 := ⟨_, rfl⟩
        rw [← hxe] at hx HSS q2 q3 hp0 hp1
        generalize hS : flowCost es fl i = S at *
        have HS := Lib.hid hS
        obtain ⟨n0, n1⟩ := FIN.out _ hs
        clear hc1 hee hxe hS
        go_wp2_with fail
        refine Mix.region [0, 0, 0, 0, 0, 0, 0, 0, 0, 0, 0, 0, 0, 0] (fun _ => True) (by kernel_rfl) (by kernel_rfl) trivial ?_
        simp only [List.zip_cons_cons, List.zip_nil_right]
        iterate 14 (refine Mix.step0 fun K hK => ?_; go_simp; (try (go_bits; try go_simp)); first | ((with_reducible refine hK _ _ ?_); clear hK K) | ((try (simp only [IntWalk.iteOmega]; try go_simp)); (try go_bits); (with_reducible refine hK _ _ ?_); clear hK K))
        refine Mix.done ?_
        go_wp2_with fail
        refine Round.intro (fl.length - (i + 1)) ?measure7 (by kernel_rfl) (hJ1 _ _ _ ?rel7)
        case' rel7 => (try dsimp only [nthV])
        case measure7 => omega
        case rel7 => exact ⟨i + 1, by go_num, by rw [HSS.out], hlt, rfl, hs.drew⟩
      · have hif : i = fl.length := by omega
        have H := Lib.hid (show flowCost es fl i = costV n es fl by rw [HV.out, hif])
        clear hif
        go_wp2_with fail
        go_ret
        exact ⟨by rw [← H.out]; rfl, hs.below⟩
end Go.Proofs.Ytlbpkfjebaelpaa
namespace Go.Proofs.Ytlbpkfjebaelpaa
open Go Go.RowKit Go.Mem Go.NetP

theorem Try.infoI64 : (Try.prog.info? 2).map (fun i => (i.zero, i.size, i.bytes)) = some (some (.int .i64 0), 1, 8) := by kernel_rfl

set_option maxRecDepth 100000 in
set_option maxHeartbeats 4000000 in
theorem rover_any (n : Int) (a : Option Addr) (c : Nat) (es : List Ed) (v : Value) (fl : List Int) (w : World) (h : RdG edR w (.slice a es.length c) es) (h' : Rd .i64 w v fl) :
    Calls Try.prog 34 #[.agg #[.int .i64 n, .slice a es.length c], v] w fun en w' => ∃ u, en = .returned u ∧ Sep w w' [intsT .i64 2 u (overV n es fl)] := by
  have hle := h'.le'
  obtain ⟨a', c', rfl⟩ := h'.shape
  obtain ⟨i0, hi0, hz0, hz1, hz2⟩ := info_parts Try.infoI64
  have hs0 := (Sep.start w).newCells #[.int .i64 n, .slice a es.length c] 28
  go_enter Try.func34, Try.ntmps34
  go_wp2_with fail
  refine (rwithin_any _ _ _ es _ fl _ (hs0.rdG h) (hs0.rd h')).mono ?_
  rintro en w1 ⟨rfl, hb1⟩
  have hs1 := hs0.belowStep hb1
  clear hs0 hb1
  cases hr : withinB n es fl
  · have H := Lib.hid (show overV n es fl = [] by simp [overV, hr])
    clear hr
    go_wp2_with fail
    go_ret
    exact ⟨_, rfl, by rw [H.out]; exact hs1.tail.nilInts _ _⟩
  · have HR := Lib.hid hr
    have HL := Lib.hid (within_cap hr).1
    obtain ⟨k1, k2, k3, _, _⟩ := right_cap (within_cap hr).2.1
    obtain ⟨N, rfl⟩ : ∃ N : Nat, n = N := ⟨n.toNat, by omega⟩
    have HV := Lib.hid (show overV N es fl = overL N es fl by simp [overV, hr])
    have kN : N ≤ 40 := by omega
    clear hr
    have fin : ∀ W L, Sep w W (L ++ [cellsT w.heap.size #[.int .i64 N, .slice a es.length c] 28]) → W.cell? ⟨w.heap.size, 0, none⟩ = some (.int .i64 N) ∧ W.cell? ⟨w.heap.size, 1, none⟩ = some (.slice a es.length c) :=
      fun W L h => by
        have hi : (L ++ [cellsT w.heap.size #[.int .i64 N, .slice a es.length c] 28])[L.length]? = some (cellsT w.heap.size #[.int .i64 N, .slice a es.length c] 28) := by simp
        exact ⟨cell_of (h.cells L.length hi) 0, cell_of (h.cells L.length hi) 1⟩
    have FIN := Lib.hid fin
    obtain ⟨n0, n1⟩ := fin _ [] hs1
    clear fin
    go_wp2_with (at_make; refine wpList_makeInts rfl (.tmp 13) (.tmp 13) 22 rfl 2 i0 .i64 8 Try.underlying22 hi0 hz0 hz1 hz2 N .i64 .i64 rfl rfl hs1 ?m1 ?m2 ?m3)
    case m1 => (try simp); (try simp only [maxLen]); (try omega)
    case m2 => (try simp); (try simp only [maxLen]); (try omega)
    case m3 =>
      intro w2 g hs2
      clear hs1 n0 n1
      go_wp2_with fail
      refine wp_loopM [none, none, none, none, none, none, some 6, some 7, none, none, none, none, none, none, none, some 15, some 16, some 17, some 18, some 19, some 20, some 21, some 22, some 23, some 24, some 25, some 26, some 27, some 28, some 29, some 30, some 31, some 32, some 33, some 34, some 35, some 36, some 37, some 38, some 39, some 40, some 41, some 42, some 43, some 44, some 45, some 46, some 47, some 48, some 49, some 50, some 51, some 52, some 53, some 54, some 55, some 56, some 57, some 58, some 59, some 60, some 61, some 62, some 63, some 64, some 65, some 66, none] (fun (r : Nat) (f : Nat → Value) (wr : World) => (fun (v : Value) => ∃ p : Nat, v = .int .i64 p ∧ p ≤ N ∧ r = N - p ∧ Sep w wr [intsT .i64 2 (.slice (some ⟨g, 0, none⟩) N N) (pre N es fl p), cellsT w.heap.size #[.int .i64 N, .slice a es.length c] 28]) (f 6)) (N) (by kernel_rfl) ?atStart8 ?round8
      case' atStart8 => (try dsimp only [nthV])
      case' round8 =>
        intro gk f wr l hl hrel J1 K1 hJ1 hK1
        (try simp only [mask] at hl)
        generalize f 6 = u6 at hl hrel
        subst hl
        (try dsimp only at hrel)
      case atStart8 => exact ⟨0, rfl, Nat.zero_le _, rfl, by simpa [pre] using hs2⟩
      case round8 =>
        clear hs2
        obtain ⟨p, rfl, hp, rfl, hs⟩ := hrel
        obtain ⟨n0, n1⟩ := FIN.out _ [_] hs
        by_cases hlt : p < N
        · rw [row_start hlt] at hs
          go_wp2_with fail
          refine wp_loopM [none, none, none, none, none, none, none, some 7, none, none, none, none, none, none, none, none, none, none, none, none, none, some 21, some 22, some 23, some 24, some 25, some 26, some 27, some 28, some 29, some 30, some 31, some 32, some 33, some 34, some 35, some 36, some 37, some 38, some 39, some 40, some 41, some 42, some 43, some 44, some 45, some 46, some 47, some 48, some 49, some 50, some 51, some 52, some 53, some 54, some 55, some 56, some 57, some 58, some 59, some 60, some 61, some 62, some 63, some 64, some 65, some 66, none] (fun (r : Nat) (f : Nat → Value) (wr : World) => (fun (v : Value) => ∃ i : Nat, v = .int .i64 i ∧ i ≤ fl.length ∧ r = fl.length - i ∧ Sep w wr [intsT .i64 2 (.slice (some ⟨g, 0, none⟩) N N) (row N es fl p (overAt es fl p i)), cellsT w.heap.size #[.int .i64 N, .slice a es.length c] 28]) (f 7)) (fl.length) (by kernel_rfl) ?atStart9 ?round9
          case' atStart9 => (try dsimp only [nthV])
          case' round9 =>
            intro gk f wr l hl hrel J2 K2 hJ2 hK2
            (try simp only [mask] at hl)
            generalize f 7 = u7 at hl hrel
            subst hl
            (try dsimp only at hrel)
          case atStart9 => exact ⟨0, rfl, Nat.zero_le _, rfl, hs⟩
          case round9 =>
            clear hs n0 n1
            obtain ⟨i, rfl, hi, rfl, hs⟩ := hrel
            obtain ⟨n0, n1⟩ := FIN.out _ [_] hs
            by_cases hlf : i < fl.length
            · have hle2 : i < es.length := by rw [← HL.out]; exact hlf
              obtain ⟨b1, o1, e1, hb1, hc1⟩ := (hs.rdG h).at i hle2
              obtain ⟨b2, o2, e2, hb2, hx⟩ := (hs.rd h').at i hlf
              subst e1; subst e2
              have c0 := hc1 0 (by decide)
              have c1 := hc1 1 (by decide)
              obtain ⟨x0, x1⟩ := within_at HR.out hle2
              obtain ⟨_, _, _, _, hed⟩ := right_cap (within_cap HR.out).2.1
              have hq := (edgeB_iff _ _).1 (hed _ (List.getElem_mem hle2))
              obtain ⟨_, _, q0, q1, _, _⟩ := hq
              have HSS := Lib.hid (overAt_succ es fl p i)
              rw [edAt_of hle2] at HSS
              obtain ⟨s0, s1⟩ := overAt_bound HR.out p i (by omega)
              obtain ⟨e, hee⟩ : ∃ e, e = es[i] := ⟨_, rfl⟩
              rw [← hee] at c0 c1 HSS x1 q0 q1
              simp only [edR, Nat.add_zero, List.getElem?_cons_zero, List.getElem?_cons_succ] at c0 c1
              obtain ⟨x, hxe⟩ : ∃ x, x = fl.getD i 0 := ⟨_, rfl⟩
              rw [← hxe] at hx HSS x0 x1
              generalize hS : overAt es fl p i = S at *
              have HS := Lib.hid hS
              have HEE := Lib.hid hee
              have HXE := Lib.hid hxe
              clear hc1 hee hxe hS hed
              have hrl : (row N es fl p S).length = N := row_length hlt
              obtain ⟨g2, cp, eg, hg, hcR, hfr⟩ := (hs.ints 0 rfl).get p (by rw [hrl]; exact hlt)
              injection eg with eg1 eg2 eg3
              clear eg2 eg3
              injection eg1 with eg1
              injection eg1 with eg1
              subst eg1
              have r0 := hcR p (by rw [hrl]; exact hlt)
              rw [row_get] at r0
              clear hcR hrl
              have hxb : x ≤ 4503599627370496 := by omega
              go_upto_if 34 with fail
              refine wp_cutM [none, none, none, none, none, none, none, none, none, none, none, none, none, none, none, none, none, none, none, none, none, none, none, none, none, none, none, some 27, some 28, some 29, some 30, some 31, some 32, some 33, some 34, some 35, some 36, some 37, some 38, some 39, some 40, some 41, some 42, some 43, some 44, some 45, some 46, none, none, none, none, none, none, none, none, none, none, none, none, none, none, none, none, none, none, none, none, none] (fun (f : Nat → Value) (W2 : World) => Sep w W2 [intsT .i64 2 (.slice (some ⟨g, 0, none⟩) N N) (row N es fl p (S + gain (decide (e.t = p)) x)), cellsT w.heap.size #[.int .i64 N, .slice (some ⟨b1, o1, none⟩) es.length c] 28]) ?first10 ?rest10
              case' first10 => intro JC KC hJC hKC
              case' rest10 =>
                intro f wr l hl hrel
                (try simp only [mask] at hl)
                subst hl
                (try dsimp only at hrel)
              case first10 =>
                by_cases ht : e.t = p
                · have HT := Lib.hid (show gain (decide (e.t = p)) x = x by simp [gain, ht])
                  have ht' : (e.t == (p : Int)) = true := by simpa using ht
                  clear ht
                  go_wp2_with fail
                  refine Mix.region [0, 0, 0, 0, 0, 0, 0, 0, 0, 0, 0, 0, 2] (fun _ => True) (by kernel_rfl) (by kernel_rfl) trivial ?_
                  simp only [List.zip_cons_cons, List.zip_nil_right]
                  iterate 12 (refine Mix.step0 fun K hK => ?_; go_simp; (try (go_bits; try go_simp)); first | ((with_reducible refine hK _ _ ?_); clear hK K) | ((try (simp only [IntWalk.iteOmega]; try go_simp)); (try go_bits); (with_reducible refine hK _ _ ?_); clear hK K))
                  refine Mix.step2n (by first | rfl | simp [Region.wanted, yielded]) fun K hK => ?_
                  go_wp2_with fail
                  generalize hW : World.drew _ = WB
                  have hsB : Sep w WB [intsT .i64 2 (.slice (some ⟨g, 0, none⟩) N N) ((row N es fl p S).set p (S + x)), cellsT w.heap.size #[.int .i64 N, .slice (some ⟨b1, o1, none⟩) es.length c] 28] := by rw [← hW]; exact (hs.setInts 0 rfl _).drew
                  rw [row_set] at hsB
                  clear hW hfr r0
                  refine Mix.post_mk (C := (fun _ => True)) trivial (hK _ _ ?_)
                  clear hK K
                  refine Mix.done ?_
                  go_wp2_with fail
                  refine Meet.intro (by kernel_rfl) (hJC _ _ ?rel11)
                  case' rel11 => (try dsimp only [nthV])
                  rw [HT.out]; exact hsB
                · have HT := Lib.hid (show gain (decide (e.t = p)) x = 0 by simp [gain, ht])
                  have ht' : (e.t == (p : Int)) = false := by simpa using ht
                  clear ht
                  go_wp2_with fail
                  refine Meet.intro (by kernel_rfl) (hJC _ _ ?rel12)
                  case' rel12 => (try dsimp only [nthV])
                  rw [HT.out, Int.add_zero]; exact hs
              case rest10 =>
                clear hs hx c0 c1 r0 hfr hg n0 n1
                have hs := hrel
                clear hrel
                obtain ⟨n0, n1⟩ := FIN.out _ [_] hs
                obtain ⟨p0, p1⟩ := gain_bound (decide (e.t = p)) x x0
                generalize hT : S + gain (decide (e.t = p)) x = T at *
                have HT := Lib.hid hT
                have t0 : -(i * 4503599627370496 : Int) ≤ T := by omega
                have t1 : T ≤ i * 4503599627370496 + 4503599627370496 := by omega
                clear hT
                have hrl : (row N es fl p T).length = N := row_length hlt
                obtain ⟨g2, cp, eg, hg, hcR, hfr⟩ := (hs.ints 0 rfl).get p (by rw [hrl]; exact hlt)
                injection eg with eg1 eg2 eg3
                clear eg2 eg3
                injection eg1 with eg1
                injection eg1 with eg1
                subst eg1
                have r0 := hcR p (by rw [hrl]; exact hlt)
                rw [row_get] at r0
                clear hcR hrl
                obtain ⟨b3, o3, e3, _, hc1⟩ := (hs.rdG h).at i hle2
                obtain ⟨b4, o4, e4, _, hx⟩ := (hs.rd h').at i hlf
                injection e3 with e3
                injection e3 with e3 e3'
                injection e4 with e4
                injection e4 with e4 e4'
                subst e3; subst e3'; subst e4; subst e4'
                have c0 := hc1 0 (by decide)
                rw [← HEE.out] at c0
                rw [← HXE.out] at hx
                simp only [edR, Nat.add_zero, List.getElem?_cons_zero, List.getElem?_cons_succ] at c0
                clear hc1
                by_cases hf : e.f = p
                · have HG := Lib.hid (show gain (decide (e.f = p)) x = x by simp [gain, hf])
                  have hf' : (e.f == (p : Int)) = true := by simpa using hf
                  clear hf
                  go_wp2_with fail
                  refine Mix.region [0, 0, 0, 0, 0, 0, 0, 0, 0, 0, 0, 0, 2] (fun _ => True) (by kernel_rfl) (by kernel_rfl) trivial ?_
                  simp only [List.zip_cons_cons, List.zip_nil_right]
                  iterate 12 (refine Mix.step0 fun K hK => ?_; go_simp; (try (go_bits; try go_simp)); first | ((with_reducible refine hK _ _ ?_); clear hK K) | ((try (simp only [IntWalk.iteOmega]; try go_simp)); (try go_bits); (with_reducible refine hK _ _ ?_); clear hK K))
                  refine Mix.step2n (by first | rfl | simp [Region.wanted, yielded]) fun K hK => ?_
                  go_wp2_with fail
                  generalize hW : World.drew _ = WB
                  have hsB : Sep w WB [intsT .i64 2 (.slice (some ⟨g, 0, none⟩) N N) ((row N es fl p T).set p (T - x)), cellsT w.heap.size #[.int .i64 N, .slice (some ⟨b1, o1, none⟩) es.length c] 28] := by rw [← hW]; exact (hs.setInts 0 rfl _).drew
                  rw [row_set] at hsB
                  clear hW hfr r0
                  refine Mix.post_mk (C := (fun _ => True)) trivial (hK _ _ ?_)
                  clear hK K
                  refine Mix.done ?_
                  go_wp2_with fail
                  refine Round.intro (fl.length - (i + 1)) ?measure13 (by kernel_rfl) (hJ2 _ _ _ ?rel13)
                  case' rel13 => (try dsimp only [nthV])
                  case measure13 => omega
                  case rel13 => exact ⟨i + 1, by go_num, hlf, rfl, by rw [HSS.out, HG.out]; exact hsB⟩
                · have HG := Lib.hid (show gain (decide (e.f = p)) x = 0 by simp [gain, hf])
                  have hf' : (e.f == (p : Int)) = false := by simpa using hf
                  clear hf
                  go_wp2_with fail
                  refine Round.intro (fl.length - (i + 1)) ?measure14 (by kernel_rfl) (hJ2 _ _ _ ?rel14)
                  case' rel14 => (try dsimp only [nthV])
                  case measure14 => omega
                  case rel14 => exact ⟨i + 1, by go_num, hlf, rfl, by rw [HSS.out, HG.out, Int.sub_zero]; exact hs⟩
            · have hif : i = fl.length := by omega
              rw [hif, row_end] at hs
              clear hif
              go_wp2_with fail
              refine Round.intro (N - (p + 1)) ?measure15 (by kernel_rfl) (hJ1 _ _ _ ?rel15)
              case' rel15 => (try dsimp only [nthV])
              case measure15 => omega
              case rel15 => exact ⟨p + 1, by go_num, hlt, rfl, hs⟩
        · obtain rfl : p = N := by omega
          rw [pre_end, ← HV.out] at hs
          have hs3 := hs.takeN 1
          go_wp2_with fail
          go_ret
          exact ⟨_, rfl, hs3⟩
end Go.Proofs.Ytlbpkfjebaelpaa
namespace Go.Proofs.Ytlbpkfjebaelpaa
open Go Go.RowKit Go.Mem Go.NetP

set_option maxHeartbeats 2000000 in
theorem rflows_any (n : Int) (a : Option Addr) (c : Nat) (es : List Ed) (v : Value) (fl : List Int) (w : World) (h : RdG edR w (.slice a es.length c) es) (h' : Rd .i64 w v fl) :
    Calls Try.prog 18 #[.agg #[.int .i64 n, .slice a es.length c], v] w fun en w' => en = .returned (.bool (flowsB n es fl)) ∧ Below w.heap.size w w' := by
  obtain ⟨a', c', rfl⟩ := h'.shape
  have hs0 := (Sep.start w).newCells #[.int .i64 n, .slice a es.length c] 28
  go_enter Try.func18, Try.ntmps18
  go_wp2_with fail
  refine (rwithin_any _ _ _ es _ fl _ (hs0.rdG h) (hs0.rd h')).mono ?_
  rintro en w1 ⟨rfl, hb1⟩
  have hs1 := hs0.belowStep hb1
  clear hs0 hb1
  cases hr : withinB n es fl
  · have H := Lib.hid (show flowsB n es fl = false by simp [flowsB, hr])
    clear hr
    go_wp2_with fail
    go_ret
    exact ⟨by rw [H.out]; rfl, hs1.below⟩
  · have HF := Lib.hid (show flowsB n es fl = (overV n es fl).all (fun x => x == 0) by simp [flowsB, hr])
    clear hr
    have n0 := cell_of (hs1.cells 0 rfl) 0
    have n1 := cell_of (hs1.cells 0 rfl) 1
    simp only [List.getElem?_toArray, List.getElem?_cons_zero, List.getElem?_cons_succ] at n0 n1
    go_wp2_with fail
    refine (rover_any _ _ _ es _ fl _ (hs1.rdG h) (hs1.rd h')).mono ?_
    rintro en w2 ⟨u, rfl, hs2'⟩
    have hs2 := (hs1.join hs2').takeN 1
    clear hs1 hs2' n0 n1
    (try simp only [List.cons_append, List.nil_append, List.take_succ_cons, List.take_zero] at hs2)
    have hle := (hs2.rdInts 0 rfl).le'
    obtain ⟨au, cu, hu⟩ := (hs2.rdInts 0 rfl).shape
    subst hu
    generalize overV n es fl = ol at *
    go_wp2_with fail
    refine wp_loopM [none, none, none, none, some 4, none, some 6, none, none, none, none, none, none, none, some 14, some 15, some 16, some 17, some 18, some 19, some 20, some 21, some 22, some 23, some 24] (fun (r : Nat) (f : Nat → Value) (wr : World) => (fun (v : Value) => ∃ i : Nat, v = .int .i64 i ∧ i ≤ ol.length ∧ r = ol.length - i ∧ (∀ j, j < i → ol.getD j 0 = 0) ∧ Sep w wr [intsT .i64 2 (.slice au ol.length cu) ol]) (f 6)) (ol.length) (by kernel_rfl) ?atStart16 ?round16
    case' atStart16 => (try dsimp only [nthV])
    case' round16 =>
      intro gk f wr l hl hrel J1 K1 hJ1 hK1
      (try simp only [mask] at hl)
      generalize f 6 = u6 at hl hrel
      subst hl
      (try dsimp only at hrel)
    case atStart16 => exact ⟨0, rfl, Nat.zero_le _, rfl, by simp, hs2⟩
    case round16 =>
      clear hs2
      obtain ⟨i, rfl, hi, rfl, hq, hs⟩ := hrel
      have HQ := Lib.hid hq
      clear hq
      by_cases hlt : i < ol.length
      · obtain ⟨b1, o1, e1, hb1, hc1⟩ := (hs.rdInts 0 rfl).at i hlt
        subst e1
        obtain ⟨x, hx⟩ : ∃ x, x = ol.getD i 0 := ⟨_, rfl⟩
        rw [← hx] at hc1
        by_cases hx0 : x = 0
        · have HX := Lib.hid (show ol.getD i 0 = 0 by rw [← hx, hx0])
          rw [hx0] at hc1
          clear hx hx0
          go_wp2_with fail
          refine Round.intro (ol.length - (i + 1)) ?measure17 (by kernel_rfl) (hJ1 _ _ _ ?rel17)
          case' rel17 => (try dsimp only [nthV])
          case measure17 => omega
          case rel17 =>
            refine ⟨i + 1, by go_num, hlt, rfl, fun j hj => ?_, hs⟩
            by_cases hji : j = i
            · subst hji; exact HX.out
            · exact HQ.out j (by omega)
        · have H := Lib.hid (zero_no hlt (by rw [← hx]; exact hx0))
          have hd : (x != 0) = true := by simpa using hx0
          clear hx hx0
          go_wp2_with fail
          go_ret
          exact ⟨by rw [HF.out, H.out]; rfl, hs.below⟩
      · have H := Lib.hid (zero_all (l := ol) (fun j hj => HQ.out j (by omega)))
        go_wp2_with fail
        go_ret
        exact ⟨by rw [HF.out, H.out]; rfl, hs.below⟩
end Go.Proofs.Ytlbpkfjebaelpaa
