/-
  The law SolveApart, walked.
-/
import Derived.Test.YtacbfpgijmpilaaSDoubW
import Derived.Test.YtacbfpgijmpilaaSCopy2
set_option linter.unusedVariables false
set_option linter.unusedSimpArgs false
namespace Go.SolveP
open Go Go.Mem Go.NetP Go.RestP Go.CertP
theorem turn_one {es : List Ed} {i : Nat} (h : i < es.length) : turnL (es.take (i + 1)) = turnL (es.take i) ++ [⟨(edAt es i).t, (edAt es i).f, (edAt es i).c, (edAt es i).k⟩] := by
  rw [tk_one h]; unfold turnL; rw [List.map_append]; rfl
theorem loop_one {es : List Ed} {i : Nat} (h : i < es.length) : loopL (es.take (i + 1)) = loopL (es.take i) ++ [⟨0, 0, (edAt es i).c, (edAt es i).k⟩] := by
  rw [tk_one h]; unfold loopL; rw [List.map_append]; rfl
theorem sh_one {N : Nat} {es : List Ed} {i : Nat} (h : i < es.length) : shL N (es.take (i + 1)) = shL N (es.take i) ++ [⟨(edAt es i).f + N, (edAt es i).t + N, (edAt es i).c, (edAt es i).k⟩] := by
  rw [tk_one h]; unfold shL; rw [List.map_append]; rfl
theorem gain_bound {n : Int} {es : List Ed} (hr : rightB n es = true) : ∀ m, m ≤ es.length → -4611686018427387904 ≤ gainS es m ∧ gainS es m ≤ 0 := by
  obtain ⟨_, _, _, hc, h5⟩ := right_cap hr
  have key : ∀ m, m ≤ es.length → -(costs (es.take m) : Int) ≤ gainS es m ∧ gainS es m ≤ 0 := by
    intro m
    induction m with
    | zero => intro _; simp [gainS, costs]
    | succ m ih =>
      intro hm
      obtain ⟨i1, i2⟩ := ih (by omega)
      have hlt : m < es.length := by omega
      have hE := (edgeB_iff _ _).1 (h5 _ (List.getElem_mem hlt))
      rw [gainS_succ, costs_snoc hlt]
      rw [← edAt_of hlt] at hE
      split
      · next q =>
        have e1 : (costE es[m] : Int) = -((edAt es m).c * (edAt es m).k) := by
          rw [← edAt_of hlt]
          unfold costE absI
          rw [Int.natCast_mul, Int.toNat_of_nonneg hE.2.2.1, show (((edAt es m).k.natAbs : Nat) : Int) = -(edAt es m).k by omega, Int.mul_neg]
        have e2 : (edAt es m).c * (edAt es m).k ≤ 0 := Int.mul_nonpos_of_nonneg_of_nonpos hE.2.2.1 (by omega)
        omega
      · omega
  intro m hm
  have h1 := key m hm
  have h2 := costs_take es m
  omega
theorem perm4 {α : Type _} (x y p q : α) (r : List α) : (x :: y :: p :: q :: r).Perm (x :: q :: y :: p :: r) :=
  .cons _ (List.perm_middle (l₁ := [y, p]) (a := q) (l₂ := r))
end Go.SolveP
namespace Go.Proofs.Ytacbfpgijmpilaa
open Go Go.RowKit Go.Mem Go.NetP Go.RestP Go.CertP Go.PathP Go.SolveP Go.Shelf
set_option maxRecDepth 100000 in
set_option maxHeartbeats 4000000 in
theorem solveApart_any (nn : Int) (a : Option Addr) (c : Nat) (es : List Ed) (mm : Int) (a' : Option Addr) (c' : Nat) (es' : List Ed) (w : World) (h : RdG edR w (.slice a es.length c) es) (h' : RdG edR w (.slice a' es'.length c') es') :
    Calls Try.prog 7 #[.agg #[.int .i64 nn, .slice a es.length c], .agg #[.int .i64 mm, .slice a' es'.length c']] w fun en w' => en = .returned (.bool true) ∧ Below w.heap.size w w' := by
  obtain ⟨e0, he0, he1, he2, he3⟩ := info_parts Try.infoEdgb
  have hle := h.le'
  have hle' := h'.le'
  have hs := ((Sep.start w).newCells #[.int .i64 nn, .slice a es.length c] 24).newCells #[.int .i64 mm, .slice a' es'.length c'] 24
  obtain ⟨B1, hB⟩ : ∃ B1, B1 = w.heap.size := ⟨_, rfl⟩
  simp only [World.size_alloc] at hs
  rw [← hB] at hs
  obtain ⟨B2, hC⟩ : ∃ B2, B2 = B1 + 1 := ⟨_, rfl⟩
  rw [← hC] at hs
  have n0 := cell_of (hs.cells 1 rfl) 0
  have n1 := cell_of (hs.cells 1 rfl) 1
  have m0 := cell_of (hs.cells 0 rfl) 0
  have m1 := cell_of (hs.cells 0 rfl) 1
  simp only [List.getElem?_toArray, List.getElem?_cons_zero, List.getElem?_cons_succ] at n0 n1 m0 m1
  by_cases q0 : 15 < nn
  · go_enter Try.func7, Try.ntmps7
    go_wp2_with fail
    (try rw [← hB, ← hC])
    clear hB hC
    refine (works_any _).mono ?_
    rintro en w2 ⟨rfl, hb⟩
    have hs2 := hs.belowStep hb
    clear hs hb
    go_wp2_with fail
    go_ret
    exact ⟨rfl, hs2.below⟩
  by_cases q1 : 15 < mm
  · go_enter Try.func7, Try.ntmps7
    go_wp2_with fail
    (try rw [← hB, ← hC])
    clear hB hC
    refine (works_any _).mono ?_
    rintro en w2 ⟨rfl, hb⟩
    have hs2 := hs.belowStep hb
    clear hs hb
    go_wp2_with fail
    go_ret
    exact ⟨rfl, hs2.below⟩
  by_cases q2 : 40 < es.length
  · have d0 : decide (40 < (es.length : Int)) = true := decide_eq_true (by omega)
    go_enter Try.func7, Try.ntmps7
    go_wp2_with fail
    (try rw [← hB, ← hC])
    clear hB hC
    refine (works_any _).mono ?_
    rintro en w2 ⟨rfl, hb⟩
    have hs2 := hs.belowStep hb
    clear hs hb
    go_wp2_with fail
    go_ret
    exact ⟨rfl, hs2.below⟩
  have d0 : decide (40 < (es.length : Int)) = false := decide_eq_false (by omega)
  by_cases q3 : 40 < es'.length
  · have d1 : decide (40 < (es'.length : Int)) = true := decide_eq_true (by omega)
    go_enter Try.func7, Try.ntmps7
    go_wp2_with fail
    (try rw [← hB, ← hC])
    clear hB hC
    refine (works_any _).mono ?_
    rintro en w2 ⟨rfl, hb⟩
    have hs2 := hs.belowStep hb
    clear hs hb
    go_wp2_with fail
    go_ret
    exact ⟨rfl, hs2.below⟩
  have d1 : decide (40 < (es'.length : Int)) = false := decide_eq_false (by omega)
  have hl1 : es.length ≤ 40 := by omega
  have hl2 : es'.length ≤ 40 := by omega
  clear q2 q3
  cases hr : rightB nn es
  · have HR := Lib.hid hr
    clear hr
    go_enter Try.func7, Try.ntmps7
    go_wp2_with fail
    (try rw [← hB, ← hC])
    clear hB hC
    refine (rright_any nn a c es _ (hs.rdG h)).mono ?_
    rintro en w1 ⟨rfl, hb⟩
    rw [HR.out]
    have hs1 := hs.belowStep hb
    clear hs hb n0 n1 m0 m1
    have hs := hs1
    clear hs1
    go_wp2_with fail
    refine (works_any _).mono ?_
    rintro en w2 ⟨rfl, hb⟩
    have hs2 := hs.belowStep hb
    clear hs hb
    go_wp2_with fail
    go_ret
    exact ⟨rfl, hs2.below⟩
  have HR := Lib.hid hr
  clear hr
  cases hr : rightB mm es'
  · have HR' := Lib.hid hr
    clear hr
    go_enter Try.func7, Try.ntmps7
    go_wp2_with fail
    (try rw [← hB, ← hC])
    clear hB hC
    refine (rright_any nn a c es _ (hs.rdG h)).mono ?_
    rintro en w1 ⟨rfl, hb⟩
    rw [HR.out]
    have hs1 := hs.belowStep hb
    clear hs hb n0 n1 m0 m1
    have hs := hs1
    clear hs1
    have n0 := cell_of (hs.cells 1 rfl) 0
    have n1 := cell_of (hs.cells 1 rfl) 1
    have m0 := cell_of (hs.cells 0 rfl) 0
    have m1 := cell_of (hs.cells 0 rfl) 1
    simp only [List.getElem?_toArray, List.getElem?_cons_zero, List.getElem?_cons_succ] at n0 n1 m0 m1
    go_wp2_with fail
    refine (rright_any mm a' c' es' _ (hs.rdG h')).mono ?_
    rintro en w1 ⟨rfl, hb⟩
    rw [HR'.out]
    have hs1 := hs.belowStep hb
    clear hs hb n0 n1 m0 m1
    have hs := hs1
    clear hs1
    go_wp2_with fail
    refine (works_any _).mono ?_
    rintro en w2 ⟨rfl, hb⟩
    have hs2 := hs.belowStep hb
    clear hs hb
    go_wp2_with fail
    go_ret
    exact ⟨rfl, hs2.below⟩
  have HR' := Lib.hid hr
  clear hr
  obtain ⟨N, rfl⟩ : ∃ N : Nat, nn = N := ⟨nn.toNat, by have := (right_cap HR.out).1; omega⟩
  obtain ⟨M, rfl⟩ : ∃ M : Nat, mm = M := ⟨mm.toNat, by have := (right_cap HR'.out).1; omega⟩
  go_enter Try.func7, Try.ntmps7
  go_wp2_with fail
  (try rw [← hB, ← hC])
  clear hB hC
  refine (rright_any N a c es _ (hs.rdG h)).mono ?_
  rintro en w1 ⟨rfl, hb⟩
  rw [HR.out]
  have hs1 := hs.belowStep hb
  clear hs hb n0 n1 m0 m1
  have hs := hs1
  clear hs1
  have n0 := cell_of (hs.cells 1 rfl) 0
  have n1 := cell_of (hs.cells 1 rfl) 1
  have m0 := cell_of (hs.cells 0 rfl) 0
  have m1 := cell_of (hs.cells 0 rfl) 1
  simp only [List.getElem?_toArray, List.getElem?_cons_zero, List.getElem?_cons_succ] at n0 n1 m0 m1
  go_wp2_with fail
  refine (rright_any M a' c' es' _ (hs.rdG h')).mono ?_
  rintro en w2 ⟨rfl, hb⟩
  rw [HR'.out]
  have hs1 := hs.belowStep hb
  clear hs hb n0 n1 m0 m1
  have hs := hs1
  clear hs1
  go_upto_region 3 with fail
  obtain ⟨L0, hL0⟩ : ∃ L0, L0 = [cellsT B2 #[.int .i64 M, .slice a' es'.length c'] 24, cellsT B1 #[.int .i64 N, .slice a es.length c] 24] := ⟨_, rfl⟩
  rw [← hL0] at hs
  have HNET := Lib.hid (show L0[1]? = some (cellsT B1 #[.int .i64 N, .slice a es.length c] 24) by rw [hL0]; rfl)
  have HNET2 := Lib.hid (show L0[0]? = some (cellsT B2 #[.int .i64 M, .slice a' es'.length c'] 24) by rw [hL0]; rfl)
  have HLD := Lib.hid hL0
  clear hL0
  refine Mix4.region (m := 12) [1, 1, 1, 1, 1, 2, 1, 1, 2, 1, 2, 2] (CK B1 B2 N M c a es w L0) (by kernel_rfl) (by kernel_rfl) ?hJ3 ?hstep3 ?hfin3
  case hJ3 => exact ⟨hs.drew, by intro k q; (cases q), by intro k q; (cases q)⟩
  case hstep3 =>
    clear hs
    intro i o ho him dn v W ρ hdn hdeps hcl hJ hev hbase hcst
    have hF := hJ.fact
    have n0 := cell_of (hJ.at0 _ HNET.out) 0
    have n1 := cell_of (hJ.at0 _ HNET.out) 1
    have m0 := cell_of (hJ.at0 _ HNET2.out) 0
    simp only [List.getElem?_toArray, List.getElem?_cons_zero, List.getElem?_cons_succ] at n0 n1 m0
    rcases i with _ | _ | _ | _ | _ | _ | _ | _ | _ | _ | _ | _ | i
    all_goals first | omega | skip
    · obtain rfl := Option.some.inj ho
      have e0 := hbase 2 (by kernel_rfl) (by show (2 : Nat) < 208; decide)
      refine outR_of (v := (.pointer (some ⟨B1, 0, none⟩))) (w' := W) ?_ (hJ.pure hdn (by decide) (by intro j hj; (try cases hj)) _ (by first | rfl | exact rfl))
      unfold execOp
      simp only [e0]
      go_simp
    · obtain rfl := Option.some.inj ho
      have d0 : dn 0 = true := hdeps { on := 0, ground := .data } (by simp) (by rfl)
      have e0 := (hev 54 0 (by kernel_rfl) d0 (by show (54 : Nat) < 208; decide)).trans (hF 0 d0)
      refine outR_of (v := (.int .i64 N)) (w' := W) ?_ (hJ.pure hdn (by decide) (by intro j hj; (try cases hj)) _ (by first | rfl | exact rfl))
      unfold execOp
      simp only [e0]
      go_simp
    · obtain rfl := Option.some.inj ho
      have e0 := hbase 3 (by kernel_rfl) (by show (3 : Nat) < 208; decide)
      refine outR_of (v := (.pointer (some ⟨B2, 0, none⟩))) (w' := W) ?_ (hJ.pure hdn (by decide) (by intro j hj; (try cases hj)) _ (by first | rfl | exact rfl))
      unfold execOp
      simp only [e0]
      go_simp
    · obtain rfl := Option.some.inj ho
      have d0 : dn 2 = true := hdeps { on := 2, ground := .data } (by simp) (by rfl)
      have e0 := (hev 56 2 (by kernel_rfl) d0 (by show (56 : Nat) < 208; decide)).trans (hF 2 d0)
      refine outR_of (v := (.int .i64 M)) (w' := W) ?_ (hJ.pure hdn (by decide) (by intro j hj; (try cases hj)) _ (by first | rfl | exact rfl))
      unfold execOp
      simp only [e0]
      go_simp
    · obtain rfl := Option.some.inj ho
      have d0 : dn 1 = true := hdeps { on := 1, ground := .data } (by simp) (by rfl)
      have e0 := (hev 55 1 (by kernel_rfl) d0 (by show (55 : Nat) < 208; decide)).trans (hF 1 d0)
      have d1 : dn 3 = true := hdeps { on := 3, ground := .data } (by simp) (by rfl)
      have e1 := (hev 57 3 (by kernel_rfl) d1 (by show (57 : Nat) < 208; decide)).trans (hF 3 d1)
      refine outR_of (v := (.int .i64 (N + M))) (w' := W) ?_ (hJ.pure hdn (by decide) (by intro j hj; (try cases hj)) _ (by first | rfl | exact rfl))
      unfold execOp
      simp only [e0, e1]
      go_simp
      rw [IntWalk.i64_in _ (by omega)]
    · have h5 : dn 8 = false := by
        cases hq : dn 8
        · rfl
        · have := hcl 8 _ rfl hq { on := 5, ground := .data } (by simp) (by rfl)
          rw [hdn] at this; cases this
      obtain rfl := Option.some.inj ho
      refine outR_of (v := .slice (some ⟨W.heap.size, 0, none⟩) 0 0) (w' := W.alloc (.cells #[] 34)) ?_ (hJ.lit hdn h5)
      unfold execOp
      go_simp
    · obtain rfl := Option.some.inj ho
      have e0 := hbase 2 (by kernel_rfl) (by show (2 : Nat) < 208; decide)
      refine outR_of (v := (.pointer (some ⟨B1, 1, none⟩))) (w' := W) ?_ (hJ.pure hdn (by decide) (by intro j hj; (try cases hj)) _ (by first | rfl | exact rfl))
      unfold execOp
      simp only [e0]
      go_simp
    · obtain rfl := Option.some.inj ho
      have d0 : dn 6 = true := hdeps { on := 6, ground := .data } (by simp) (by rfl)
      have e0 := (hev 60 6 (by kernel_rfl) d0 (by show (60 : Nat) < 208; decide)).trans (hF 6 d0)
      refine outR_of (v := (.slice a es.length c)) (w' := W) ?_ (hJ.pure hdn (by decide) (by intro j hj; (try cases hj)) _ (by first | rfl | exact rfl))
      unfold execOp
      simp only [e0]
      go_simp
    · have d0 : dn 5 = true := hdeps { on := 5, ground := .data } (by rw [← Option.some.inj ho]; simp) (by rfl)
      have d1 : dn 7 = true := hdeps { on := 7, ground := .data } (by rw [← Option.some.inj ho]; simp) (by rfl)
      obtain ⟨g, hg⟩ := hF 5 d0
      have e0' := (hev 59 5 (by kernel_rfl) d0 (by show (59 : Nat) < 208; decide)).trans hg
      have e1' := (hev 61 7 (by kernel_rfl) d1 (by show (61 : Nat) < 208; decide)).trans (hF 7 d1)
      obtain ⟨g', c', W', hr, hs'⟩ := exec_appNew (P := Try.prog) (ρ := ρ) (w := W) edR o (.tmp 59) (.tmp 61) 22 (by rw [← Option.some.inj ho]) 34 e0 _ 32 Try.underlying22 he0 he1 he2 he3 rfl g _ es hJ.sep 0 (CK.at5 d0 hdn hg) (hJ.sep.rdG h) e0' e1' (by unfold maxLen; omega) (by omega)
      exact outR_of hr (hJ.app d0 hdn hs')
    · obtain rfl := Option.some.inj ho
      have d0 : dn 4 = true := hdeps { on := 4, ground := .data } (by simp) (by rfl)
      have e0 := (hev 58 4 (by kernel_rfl) d0 (by show (58 : Nat) < 208; decide)).trans (hF 4 d0)
      have d1 : dn 8 = true := hdeps { on := 8, ground := .data } (by simp) (by rfl)
      have e1 := hev 62 8 (by kernel_rfl) d1 (by show (62 : Nat) < 208; decide)
      refine outR_of (v := .agg #[.int .i64 (N + M), v 8]) (w' := W) ?_ (hJ.pure hdn (by decide) (by intro j hj; simp only [useD, List.mem_cons, List.not_mem_nil, or_false] at hj; subst hj; exact d1) _ rfl)
      obtain ⟨g, c', h5⟩ := hF 8 d1
      rw [h5] at e1 ⊢
      unfold execOp
      simp only [e0, e1, List.map_toArray, List.map_cons, List.map_nil]
      go_simp
    · obtain rfl := Option.some.inj ho
      refine outR_of (v := .pointer (some ⟨W.heap.size, 0, none⟩)) (w' := W.alloc (.cells #[.int .i64 0, .slice none 0 0] 24)) ?_ (hJ.net hdn)
      unfold execOp
      go_simp
    · obtain rfl := Option.some.inj ho
      have d6 : dn 9 = true := hdeps { on := 9, ground := .data } (by simp) (by rfl)
      have d7 : dn 10 = true := hdeps { on := 10, ground := .data } (by simp) (by rfl)
      have d5 : dn 8 = true := hJ.use_ 9 d6 8 (by decide)
      obtain ⟨g, hg⟩ := hF 10 d7
      have e0 := (hev 5 10 (by kernel_rfl) d7 (by show (5 : Nat) < 208; decide)).trans hg
      have e1 := (hev 63 9 (by kernel_rfl) d6 (by show (63 : Nat) < 208; decide)).trans (hF 9 d6)
      obtain ⟨g5, c5, h5⟩ := hF 8 d5
      have y0 := cell_of (hJ.sep.cells 1 (CK.at7 d7 hdn d5 hg)) 0
      have y1 := cell_of (hJ.sep.cells 1 (CK.at7 d7 hdn d5 hg)) 1
      simp only [List.getElem?_toArray, List.getElem?_cons_zero, List.getElem?_cons_succ] at y0 y1
      have yf := fun j => frozen_of (hJ.sep.cells 1 (CK.at7 d7 hdn d5 hg)) j
      refine outR_skp (w' := (W.setCell ⟨g, 0, none⟩ (.int .i64 (N + M))).setCell ⟨g, 1, none⟩ (v 8)) ?_ (hJ.store d5 d6 d7 hdn hg)
      rw [h5] at e1 ⊢
      unfold execOp
      simp only [e0, e1]
      go_simp
  case hfin3 =>
    intro v W hJ
    have hF := hJ.fact
    have hsp := hJ.sep
    clear hJ hs
    have q0 := hF 0 rfl
    have q1 := hF 1 rfl
    have q2 := hF 2 rfl
    have q3 := hF 3 rfl
    have q4 := hF 4 rfl
    obtain ⟨g2, q5⟩ := hF 5 rfl
    have q6 := hF 6 rfl
    have q7 := hF 7 rfl
    obtain ⟨gB, cB, q8⟩ := hF 8 rfl
    have q9 := hF 9 rfl
    obtain ⟨BB, q10⟩ := hF 10 rfl
    simp only [FE] at q0 q1 q2 q3 q4 q6 q7 q9
    clear hF
    replace hsp : Sep w W (recT edR 34 (v 8) es :: cellsT (ptrB (v 10)) #[.int .i64 (N + M), v 8] 24 :: L0) := hsp
    rw [q8, q10] at hsp
    rw [q8] at q9
    simp only [ptrB] at hsp
    refine ⟨fun _ => True, trivial, ?_⟩
    simp only [Mix3.actD, Mix3.apD, q0, q1, q2, q3, q4, q5, q6, q7, q8, q9, q10, Nat.zero_add, Nat.reduceAdd, show ∀ a b, Nat.blt a b = decide (a < b) from fun a b => by rw [Bool.eq_iff_iff, Nat.blt_eq, decide_eq_true_eq], Nat.reduceLT, decide_true, decide_false, if_true, Bool.false_eq_true, if_false, List.setIfInBounds_toArray, List.set_cons_zero, List.set_cons_succ]
    clear q0 q1 q2 q3 q4 q5 q6 q7 q8 q9 q10
    clear v
    simp only [List.zip_cons_cons, List.zip_nil_right, List.drop_succ_cons, List.drop_zero]
    refine Mix.done ?_
    have hs := hsp
    clear hsp
    rw [HLD.out] at hs
    clear HLD HNET HNET2
    clear L0
    have n0 := cell_of (hs.cells 3 rfl) 0
    have n1 := cell_of (hs.cells 3 rfl) 1
    have m0 := cell_of (hs.cells 2 rfl) 0
    have m1 := cell_of (hs.cells 2 rfl) 1
    simp only [List.getElem?_toArray, List.getElem?_cons_zero, List.getElem?_cons_succ] at n0 n1 m0 m1
    go_upto_region 5 with fail
    replace hs := hs.newCells #[.int .i64 N, .slice none 0 0] 24
    obtain ⟨B6, hB⟩ : ∃ B6, B6 = (W).heap.size := ⟨_, rfl⟩
    rw [← hB] at hs ⊢
    clear hB n0 n1 m0 m1
    generalize World.alloc W _ = W6 at hs ⊢
    have n0 := cell_of (hs.cells 4 rfl) 0
    have n1 := cell_of (hs.cells 4 rfl) 1
    have m0 := cell_of (hs.cells 3 rfl) 0
    have m1 := cell_of (hs.cells 3 rfl) 1
    simp only [List.getElem?_toArray, List.getElem?_cons_zero, List.getElem?_cons_succ] at n0 n1 m0 m1
    go_upto_region 6 with fail
    replace hs := hs.newCells #[.int .i64 1, .slice none 0 0] 24
    obtain ⟨B7, hB⟩ : ∃ B7, B7 = (W6).heap.size := ⟨_, rfl⟩
    rw [← hB] at hs ⊢
    clear hB n0 n1 m0 m1
    generalize World.alloc W6 _ = W7 at hs ⊢
    have hs2 : Sep w W7 [recT edR 34 (.slice none 0 0) (turnL (es.take 0)), cellsT B6 #[.int .i64 N, .slice none 0 0] 24, recT edR 34 (.slice none 0 0) (loopL (es.take 0)), cellsT B7 #[.int .i64 1, .slice none 0 0] 24, recT edR 34 (.slice (some ⟨gB, 0, none⟩) es.length cB) es, cellsT BB #[.int .i64 (N + M), .slice (some ⟨gB, 0, none⟩) es.length cB] 24, cellsT B2 #[.int .i64 M, .slice a' es'.length c'] 24, cellsT B1 #[.int .i64 N, .slice a es.length c] 24] :=
      ((hs.nilRecs edR 34).nilRecs edR 34).perm (perm4 _ _ _ _ _)
    clear hs
    go_wp2_with fail
    refine wp_loopM [none, none, none, none, none, none, none, none, some 8, some 9, some 10, none, none, none, none, none, none, none, none, none, none, none, none, none, none, none, none, none, none, none, none, none, none, none, none, none, none, none, none, none, none, none, none, none, none, none, none, none, none, none, none, none, none, none, none, none, none, none, none, none, none, none, none, none, none, none, none, none, some 68, some 69, some 70, some 71, some 72, some 73, some 74, some 75, some 76, some 77, some 78, some 79, some 80, some 81, some 82, some 83, some 84, some 85, some 86, some 87, some 88, some 89, some 90, some 91, some 92, some 93, some 94, some 95, some 96, some 97, some 98, some 99, some 100, some 101, some 102, some 103, some 104, some 105, some 106, some 107, some 108, some 109, some 110, some 111, some 112, some 113, none, none, none, none, none, none, none, none, none, none, none, none, none, none, none, none, none, none, none, none, none, none, none, none, none, none, none, none, none, none, none, none, none, none, none, none, none, none, none, none, none, none, none, none, none, none, none, none, none, none, none, none, none, none, none, none, none, none, none, none, none, none, none, none, none, none, none, none, none, none, none, none, none, none, none, none, none, none, none, none, none, none, none, none, none, none, none, none, none, none, none, none, none, none] (fun (r : Nat) (f : Nat → Value) (wr : World) => (fun (v vg : Value) => ∃ (i : Nat) (aa : Option Addr) (ca : Nat) (ab : Option Addr) (cb : Nat), v = .int .i64 i ∧ vg = .int .i64 (gainS es i) ∧ i ≤ es.length ∧ r = es.length - i ∧ Sep w wr [recT edR 34 (.slice aa i ca) (turnL (es.take i)), cellsT B6 #[.int .i64 N, .slice aa i ca] 24, recT edR 34 (.slice ab i cb) (loopL (es.take i)), cellsT B7 #[.int .i64 1, .slice ab i cb] 24, recT edR 34 (.slice (some ⟨gB, 0, none⟩) es.length cB) es, cellsT BB #[.int .i64 (N + M), .slice (some ⟨gB, 0, none⟩) es.length cB] 24, cellsT B2 #[.int .i64 M, .slice a' es'.length c'] 24, cellsT B1 #[.int .i64 N, .slice a es.length c] 24]) (f 9) (f 8)) (es.length) (by kernel_rfl) ?atStart1 ?round1
    case' atStart1 => (try dsimp only [nthV])
    case' round1 =>
      intro gk f wr l hl hrel J1 K1 hJ1 hK1
      (try simp only [mask] at hl)
      generalize f 9 = u9 at hl hrel
      generalize f 8 = u8 at hl hrel
      subst hl
      (try dsimp only at hrel)
    case atStart1 => exact ⟨0, none, 0, none, 0, rfl, rfl, Nat.zero_le _, rfl, hs2⟩
    case round1 =>
      clear hs2
      obtain ⟨i, aa, ca, ab, cb, rfl, rfl, hi, rfl, hs⟩ := hrel
      have n0 := cell_of (hs.cells 7 rfl) 0
      have n1 := cell_of (hs.cells 7 rfl) 1
      have m0 := cell_of (hs.cells 6 rfl) 0
      have m1 := cell_of (hs.cells 6 rfl) 1
      simp only [List.getElem?_toArray, List.getElem?_cons_zero, List.getElem?_cons_succ] at n0 n1 m0 m1
      by_cases hlt : i < es.length
      · skip
        obtain ⟨b2, o2, eq2, _, hc2⟩ := (hs.rdG h).at i hlt
        subst eq2
        rw [← edAt_of hlt] at hc2
        have HTU := Lib.hid (turn_one hlt)
        have HLO := Lib.hid (loop_one hlt)
        have HGA := Lib.hid (gainS_succ es i)
        obtain ⟨gb0, gb1⟩ := gain_bound HR.out i hi
        have HGB := Lib.hid (gain_bound HR.out (i + 1) hlt)
        have hEe := (edgeB_iff _ _).1 ((right_cap HR.out).2.2.2.2 _ (List.getElem_mem hlt))
        rw [← edAt_of hlt] at hEe
        obtain ⟨E, hE⟩ : ∃ E, E = edAt es i := ⟨_, rfl⟩
        rw [← hE] at hc2 HTU HLO HGA hEe
        clear hE
        have y0 := hc2 0 (by decide)
        have y1 := hc2 1 (by decide)
        have y2 := hc2 2 (by decide)
        have y3 := hc2 3 (by decide)
        simp only [edR, Nat.add_zero, List.getElem?_cons_zero, List.getElem?_cons_succ] at y0 y1 y2 y3
        obtain ⟨ef, et, ec, ek⟩ := E
        dsimp only at y0 y1 y2 y3 HTU HLO HGA hEe
        obtain ⟨_, _, c0, c1, k0, k1⟩ := hEe
        clear hc2
        have hiI : (i : Int) < es.length := by omega
        go_upto_region 11 with fail
        replace hs := hs.newCells #[.int .i64 ef, .int .i64 et, .int .i64 ec, .int .i64 ek] 34
        obtain ⟨Bx, hB⟩ : ∃ Bx, Bx = (wr).heap.size := ⟨_, rfl⟩
        rw [← hB] at hs ⊢
        clear hB n0 n1 m0 m1
        generalize World.alloc wr _ = W8 at hs ⊢
        clear y0 y1 y2 y3
        have x0 := cell_of (hs.cells 0 rfl) 0
        have x1 := cell_of (hs.cells 0 rfl) 1
        have x2 := cell_of (hs.cells 0 rfl) 2
        have x3 := cell_of (hs.cells 0 rfl) 3
        have xf := fun j => frozen_of (hs.cells 0 rfl) j
        simp only [List.getElem?_toArray, List.getElem?_cons_zero, List.getElem?_cons_succ] at x0 x1 x2 x3
        have t1 := cell_of (hs.cells 2 rfl) 1
        have tf := frozen_of (hs.cells 2 rfl) 1
        simp only [List.getElem?_toArray, List.getElem?_cons_zero, List.getElem?_cons_succ] at t1
        go_wp2_with (at_builtin; refine wpList_appRec edR rfl (.tmp 81) (.tmp 91) 22 rfl 34 e0 _ 32 Try.underlying22 he0 he1 he2 he3 rfl _ _ ⟨et, ef, ec, ek⟩ hs 1 rfl _ rfl rfl rfl ?c3 ?c4 ?grow)
        case c3 => simp only [turnL_len, tk_len hi, maxLen]; omega
        case c4 => simp only [turnL_len, tk_len hi]; omega
        case grow =>
          intro v' w4 hs2 hv
          obtain ⟨g1, k3, rfl⟩ := hv.out
          rw [turnL_len, tk_len hi, ← HTU.out] at hs2
          rw [turnL_len, tk_len hi]
          (try simp only [List.set_cons_zero, List.set_cons_succ] at hs2)
          clear hs hv t1 tf x0 x1 x2 x3 xf HTU
          have hs := hs2
          clear hs2
          have m1 := cell_of (hs.cells 2 rfl) 1
          have mf := frozen_of (hs.cells 2 rfl) 1
          simp only [List.getElem?_toArray, List.getElem?_cons_zero, List.getElem?_cons_succ] at m1
          go_upto_region 12 with fail
          have hs2 := hs.setC 2 rfl 1 (.slice (some ⟨g1, 0, none⟩) (i + 1) k3) #[.int .i64 N, .slice (some ⟨g1, 0, none⟩) (i + 1) k3] rfl
          (try simp only [List.set_cons_zero, List.set_cons_succ] at hs2)
          clear hs m1 mf
          generalize World.setCell w4 _ _ = W9 at hs2 ⊢
          have hs := hs2
          clear hs2
          have x0 := cell_of (hs.cells 0 rfl) 0
          have x1 := cell_of (hs.cells 0 rfl) 1
          have x2 := cell_of (hs.cells 0 rfl) 2
          have x3 := cell_of (hs.cells 0 rfl) 3
          have xf := fun j => frozen_of (hs.cells 0 rfl) j
          simp only [List.getElem?_toArray, List.getElem?_cons_zero, List.getElem?_cons_succ] at x0 x1 x2 x3
          have t1 := cell_of (hs.cells 4 rfl) 1
          have tf := frozen_of (hs.cells 4 rfl) 1
          simp only [List.getElem?_toArray, List.getElem?_cons_zero, List.getElem?_cons_succ] at t1
          go_wp2_with (at_builtin; refine wpList_appRec edR rfl (.tmp 95) (.tmp 101) 22 rfl 34 e0 _ 32 Try.underlying22 he0 he1 he2 he3 rfl _ _ ⟨0, 0, ec, ek⟩ hs 3 rfl _ rfl rfl rfl ?c5 ?c6 ?grow2)
          case c5 => simp only [loopL_len, tk_len hi, maxLen]; omega
          case c6 => simp only [loopL_len, tk_len hi]; omega
          case grow2 =>
            intro v' w5 hs2 hv
            obtain ⟨g2, k4, rfl⟩ := hv.out
            rw [loopL_len, tk_len hi, ← HLO.out] at hs2
            rw [loopL_len, tk_len hi]
            (try simp only [List.set_cons_zero, List.set_cons_succ] at hs2)
            clear hs hv t1 tf x0 x1 x2 x3 xf HLO
            have hs := hs2
            clear hs2
            have m1 := cell_of (hs.cells 4 rfl) 1
            have mf := frozen_of (hs.cells 4 rfl) 1
            simp only [List.getElem?_toArray, List.getElem?_cons_zero, List.getElem?_cons_succ] at m1
            go_upto_region 13 with fail
            have hs2 := hs.setC 4 rfl 1 (.slice (some ⟨g2, 0, none⟩) (i + 1) k4) #[.int .i64 1, .slice (some ⟨g2, 0, none⟩) (i + 1) k4] rfl
            (try simp only [List.set_cons_zero, List.set_cons_succ] at hs2)
            clear hs m1 mf
            generalize World.setCell w5 _ _ = W10 at hs2 ⊢
            have hs := hs2
            clear hs2
            have x0 := cell_of (hs.cells 0 rfl) 0
            have x1 := cell_of (hs.cells 0 rfl) 1
            have x2 := cell_of (hs.cells 0 rfl) 2
            have x3 := cell_of (hs.cells 0 rfl) 3
            have xf := fun j => frozen_of (hs.cells 0 rfl) j
            simp only [List.getElem?_toArray, List.getElem?_cons_zero, List.getElem?_cons_succ] at x0 x1 x2 x3
            by_cases q5 : ek < 0
            · rw [if_pos q5] at HGA
              have hp := HGB.out
              rw [HGA.out] at hp
              obtain ⟨p0, p1⟩ := hp
              have p2 : ec * ek ≤ 0 := Int.mul_nonpos_of_nonneg_of_nonpos c0 (by omega)
              have p3 : -4611686018427387904 ≤ ec * ek := by omega
              go_wp2_with fail
              refine Round.intro (es.length - (i + 1)) ?measure2 (by kernel_rfl) (hJ1 _ _ _ ?rel2)
              case' rel2 => (try dsimp only [nthV])
              case measure2 => omega
              case rel2 => exact ⟨i + 1, some ⟨g1, 0, none⟩, k3, some ⟨g2, 0, none⟩, k4, by go_num, by rw [HGA.out], hlt, rfl, hs.tail⟩
            · rw [if_neg q5, Int.add_zero] at HGA
              go_wp2_with fail
              refine Round.intro (es.length - (i + 1)) ?measure3 (by kernel_rfl) (hJ1 _ _ _ ?rel3)
              case' rel3 => (try dsimp only [nthV])
              case measure3 => omega
              case rel3 => exact ⟨i + 1, some ⟨g1, 0, none⟩, k3, some ⟨g2, 0, none⟩, k4, by go_num, by rw [HGA.out], hlt, rfl, hs.tail⟩
      · obtain rfl : i = es.length := by omega
        rw [List.take_length] at hs
        have HGB := Lib.hid (gain_bound HR.out _ hi)
        obtain ⟨G, hG⟩ : ∃ G, G = gainS es es.length := ⟨_, rfl⟩
        rw [← hG] at HGB ⊢
        have HG := Lib.hid hG
        clear hG hi hlt
        go_wp2_with fail
        refine wp_loopM [none, none, none, none, none, none, none, none, none, none, none, some 11, some 12, none, none, none, none, none, none, none, none, none, none, none, none, none, none, none, none, none, none, none, none, none, none, none, none, none, none, none, none, none, none, none, none, none, none, none, none, none, none, none, none, none, none, none, none, none, none, none, none, none, none, none, none, none, none, none, none, none, none, none, none, none, none, none, none, none, none, none, none, none, none, none, none, none, none, none, none, none, none, none, none, none, none, none, none, none, none, none, none, none, none, none, none, none, none, none, none, none, none, none, none, none, some 114, some 115, some 116, some 117, some 118, some 119, some 120, some 121, some 122, some 123, some 124, some 125, some 126, some 127, some 128, some 129, some 130, some 131, some 132, some 133, some 134, some 135, some 136, some 137, some 138, some 139, some 140, some 141, some 142, some 143, some 144, some 145, none, none, none, none, none, none, none, none, none, none, none, none, none, none, none, none, none, none, none, none, none, none, none, none, none, none, none, none, none, none, none, none, none, none, none, none, none, none, none, none, none, none, none, none, none, none, none, none, none, none, none, none, none, none, none, none, none, none, none, none, none, none] (fun (r : Nat) (f : Nat → Value) (wr : World) => (fun (v : Value) => ∃ (i : Nat) (ac : Option Addr) (cc : Nat), v = .int .i64 i ∧ i ≤ es'.length ∧ r = es'.length - i ∧ Sep w wr [recT edR 34 (.slice aa es.length ca) (turnL es), cellsT B6 #[.int .i64 N, .slice aa es.length ca] 24, recT edR 34 (.slice ab es.length cb) (loopL es), cellsT B7 #[.int .i64 1, .slice ab es.length cb] 24, recT edR 34 (.slice ac (es.length + i) cc) (es ++ shL N (es'.take i)), cellsT BB #[.int .i64 (N + M), .slice ac (es.length + i) cc] 24, cellsT B2 #[.int .i64 M, .slice a' es'.length c'] 24, cellsT B1 #[.int .i64 N, .slice a es.length c] 24]) (f 11)) (es'.length) (by kernel_rfl) ?atStart4 ?round4
        case' atStart4 => (try dsimp only [nthV])
        case' round4 =>
          intro gk f wr l hl hrel J2 K2 hJ2 hK2
          (try simp only [mask] at hl)
          generalize f 11 = u11 at hl hrel
          subst hl
          (try dsimp only at hrel)
        case atStart4 => exact ⟨0, some ⟨gB, 0, none⟩, cB, rfl, Nat.zero_le _, rfl, by simpa [shL] using hs⟩
        case round4 =>
          clear hs n0 n1 m0 m1
          obtain ⟨i, ac, cc, rfl, hi, rfl, hs⟩ := hrel
          have n0 := cell_of (hs.cells 7 rfl) 0
          have n1 := cell_of (hs.cells 7 rfl) 1
          have m0 := cell_of (hs.cells 6 rfl) 0
          have m1 := cell_of (hs.cells 6 rfl) 1
          simp only [List.getElem?_toArray, List.getElem?_cons_zero, List.getElem?_cons_succ] at n0 n1 m0 m1
          by_cases hlt : i < es'.length
          · skip
            obtain ⟨b2, o2, eq2, _, hc2⟩ := (hs.rdG h').at i hlt
            subst eq2
            rw [← edAt_of hlt] at hc2
            have HSH := Lib.hid (sh_one (N := N) hlt)
            have hEe := (edgeB_iff _ _).1 ((right_cap HR'.out).2.2.2.2 _ (List.getElem_mem hlt))
            rw [← edAt_of hlt] at hEe
            obtain ⟨E, hE⟩ : ∃ E, E = edAt es' i := ⟨_, rfl⟩
            rw [← hE] at hc2 HSH hEe
            clear hE
            have y0 := hc2 0 (by decide)
            have y1 := hc2 1 (by decide)
            have y2 := hc2 2 (by decide)
            have y3 := hc2 3 (by decide)
            simp only [edR, Nat.add_zero, List.getElem?_cons_zero, List.getElem?_cons_succ] at y0 y1 y2 y3
            obtain ⟨ef, et, ec, ek⟩ := E
            dsimp only at y0 y1 y2 y3 HSH hEe
            obtain ⟨⟨f0, f1⟩, ⟨f2, f3⟩, c0, c1, k0, k1⟩ := hEe
            clear hc2
            have hiI : (i : Int) < es'.length := by omega
            have hll : (es ++ shL N (es'.take i)).length = es.length + i := by rw [List.length_append, shL_len, tk_len hi]
            go_upto_region 19 with fail
            replace hs := hs.newCells #[.int .i64 ef, .int .i64 et, .int .i64 ec, .int .i64 ek] 34
            obtain ⟨Bx, hB⟩ : ∃ Bx, Bx = (wr).heap.size := ⟨_, rfl⟩
            rw [← hB] at hs ⊢
            clear hB n0 n1 m0 m1
            generalize World.alloc wr _ = W8 at hs ⊢
            clear y0 y1 y2 y3
            have x0 := cell_of (hs.cells 0 rfl) 0
            have x1 := cell_of (hs.cells 0 rfl) 1
            have x2 := cell_of (hs.cells 0 rfl) 2
            have x3 := cell_of (hs.cells 0 rfl) 3
            have xf := fun j => frozen_of (hs.cells 0 rfl) j
            simp only [List.getElem?_toArray, List.getElem?_cons_zero, List.getElem?_cons_succ] at x0 x1 x2 x3
            have n0 := cell_of (hs.cells 8 rfl) 0
            have t1 := cell_of (hs.cells 6 rfl) 1
            have tf := frozen_of (hs.cells 6 rfl) 1
            simp only [List.getElem?_toArray, List.getElem?_cons_zero, List.getElem?_cons_succ] at t1 n0
            have HLL := Lib.hid hll
            clear hll
            go_wp2_with (at_builtin; refine wpList_appRec edR rfl (.tmp 127) (.tmp 143) 22 rfl 34 e0 _ 32 Try.underlying22 he0 he1 he2 he3 rfl _ _ ⟨ef + N, et + N, ec, ek⟩ hs 5 rfl _ rfl rfl rfl ?c7 ?c8 ?grow3)
            case c7 => (try simp only [List.length_append, shL_len, tk_len hi, maxLen]); omega
            case c8 => (try simp only [List.length_append, shL_len, tk_len hi]); omega
            case grow3 =>
              intro v' w5 hs2 hv
              obtain ⟨g2, k4, rfl⟩ := hv.out
              (try rw [List.append_assoc] at hs2)
              (try rw [List.length_append] at hs2)
              (try rw [List.length_append])
              rw [shL_len, tk_len hi, Nat.add_assoc, ← HSH.out] at hs2
              rw [shL_len, tk_len hi, Nat.add_assoc]
              (try simp only [List.set_cons_zero, List.set_cons_succ] at hs2)
              clear hs hv t1 tf n0 x0 x1 x2 x3 xf HSH HLL
              have hs := hs2
              clear hs2
              have t1 := cell_of (hs.cells 6 rfl) 1
              have tf := frozen_of (hs.cells 6 rfl) 1
              simp only [List.getElem?_toArray, List.getElem?_cons_zero, List.getElem?_cons_succ] at t1
              have hs4 := (hs.setC 6 rfl 1 (.slice (some ⟨g2, 0, none⟩) (es.length + (i + 1)) k4) #[.int .i64 (N + M), .slice (some ⟨g2, 0, none⟩) (es.length + (i + 1)) k4] rfl).tail
              go_wp2_with fail
              refine Round.intro (es'.length - (i + 1)) ?measure5 (by kernel_rfl) (hJ2 _ _ _ ?rel5)
              case' rel5 => (try dsimp only [nthV])
              case measure5 => omega
              case rel5 => exact ⟨i + 1, some ⟨g2, 0, none⟩, k4, by go_num, hlt, rfl, hs4⟩
          · obtain rfl : i = es'.length := by omega
            rw [List.take_length] at hs
            clear hi hlt
            have hll : (es ++ shL N es').length = es.length + es'.length := by rw [List.length_append, shL_len]
            have b0 := cell_of (hs.cells 5 rfl) 0
            have b1 := cell_of (hs.cells 5 rfl) 1
            simp only [List.getElem?_toArray, List.getElem?_cons_zero, List.getElem?_cons_succ] at b0 b1
            cases hr : rightB (N + M) (es ++ shL N es')
            · have HRB := Lib.hid hr
              clear hr
              go_wp2_with fail
              refine (rright_l (N + M) ac cc (es ++ shL N es') (es.length + es'.length) _ hll (hs.rdRecs 4 rfl)).mono ?_
              rintro en w6 ⟨rfl, hb⟩
              rw [HRB.out]
              have hs1 := hs.belowStep hb
              clear hs hb b0 b1 hll n0 n1 m0 m1
              have hs := hs1
              clear hs1
              go_wp2_with fail
              refine (works_any _).mono ?_
              rintro en w2 ⟨rfl, hb⟩
              have hs2 := hs.belowStep hb
              clear hs hb
              go_wp2_with fail
              go_ret
              exact ⟨rfl, hs2.below⟩
            · have HRB := Lib.hid hr
              clear hr
              go_wp2_with fail
              refine (rright_l (N + M) ac cc (es ++ shL N es') (es.length + es'.length) _ hll (hs.rdRecs 4 rfl)).mono ?_
              rintro en w6 ⟨rfl, hb⟩
              rw [HRB.out]
              clear b0 b1 n0 n1 m0 m1
              have hs1 := hs.belowStep hb
              clear hs hb
              have hs := hs1
              clear hs1
              have HLL := Lib.hid hll
              clear hll
              have n0 := cell_of (hs.cells 7 rfl) 0
              have n1 := cell_of (hs.cells 7 rfl) 1
              have m0 := cell_of (hs.cells 6 rfl) 0
              have m1 := cell_of (hs.cells 6 rfl) 1
              have b0 := cell_of (hs.cells 5 rfl) 0
              have b1 := cell_of (hs.cells 5 rfl) 1
              have a0 := cell_of (hs.cells 1 rfl) 0
              have a1 := cell_of (hs.cells 1 rfl) 1
              have l0 := cell_of (hs.cells 3 rfl) 0
              have l1 := cell_of (hs.cells 3 rfl) 1
              simp only [List.getElem?_toArray, List.getElem?_cons_zero, List.getElem?_cons_succ] at n0 n1 m0 m1 b0 b1 a0 a1 l0 l1
              go_wp2_with fail
              refine (least_any N a c es _ (hs.rdG h) HR.out).mono ?_
              rintro en w6 ⟨⟨fl1, pot1, hck, rfl⟩, hb⟩
              have HC1 := Lib.hid hck
              clear hck n0 n1 m0 m1 b0 b1 a0 a1 l0 l1
              have hs1 := hs.belowStep hb
              clear hs hb
              have hs := hs1
              clear hs1
              have n0 := cell_of (hs.cells 7 rfl) 0
              have n1 := cell_of (hs.cells 7 rfl) 1
              have m0 := cell_of (hs.cells 6 rfl) 0
              have m1 := cell_of (hs.cells 6 rfl) 1
              have b0 := cell_of (hs.cells 5 rfl) 0
              have b1 := cell_of (hs.cells 5 rfl) 1
              have a0 := cell_of (hs.cells 1 rfl) 0
              have a1 := cell_of (hs.cells 1 rfl) 1
              have l0 := cell_of (hs.cells 3 rfl) 0
              have l1 := cell_of (hs.cells 3 rfl) 1
              simp only [List.getElem?_toArray, List.getElem?_cons_zero, List.getElem?_cons_succ] at n0 n1 m0 m1 b0 b1 a0 a1 l0 l1
              go_wp2_with fail
              refine (least_any M a' c' es' _ (hs.rdG h') HR'.out).mono ?_
              rintro en w6 ⟨⟨fl2, pot2, hck, rfl⟩, hb⟩
              have HC2 := Lib.hid hck
              clear hck n0 n1 m0 m1 b0 b1 a0 a1 l0 l1
              have hs1 := hs.belowStep hb
              clear hs hb
              have hs := hs1
              clear hs1
              have n0 := cell_of (hs.cells 7 rfl) 0
              have n1 := cell_of (hs.cells 7 rfl) 1
              have m0 := cell_of (hs.cells 6 rfl) 0
              have m1 := cell_of (hs.cells 6 rfl) 1
              have b0 := cell_of (hs.cells 5 rfl) 0
              have b1 := cell_of (hs.cells 5 rfl) 1
              have a0 := cell_of (hs.cells 1 rfl) 0
              have a1 := cell_of (hs.cells 1 rfl) 1
              have l0 := cell_of (hs.cells 3 rfl) 0
              have l1 := cell_of (hs.cells 3 rfl) 1
              simp only [List.getElem?_toArray, List.getElem?_cons_zero, List.getElem?_cons_succ] at n0 n1 m0 m1 b0 b1 a0 a1 l0 l1
              go_wp2_with fail
              refine (least_l (N + M) ac cc (es ++ shL N es') (es.length + es'.length) _ HLL.out (hs.rdRecs 4 rfl) HRB.out).mono ?_
              rintro en w6 ⟨⟨fl3, pot3, hck, rfl⟩, hb⟩
              have HC3 := Lib.hid hck
              clear hck n0 n1 m0 m1 b0 b1 a0 a1 l0 l1
              have hs1 := hs.belowStep hb
              clear hs hb
              have hs := hs1
              clear hs1
              have n0 := cell_of (hs.cells 7 rfl) 0
              have n1 := cell_of (hs.cells 7 rfl) 1
              have m0 := cell_of (hs.cells 6 rfl) 0
              have m1 := cell_of (hs.cells 6 rfl) 1
              have b0 := cell_of (hs.cells 5 rfl) 0
              have b1 := cell_of (hs.cells 5 rfl) 1
              have a0 := cell_of (hs.cells 1 rfl) 0
              have a1 := cell_of (hs.cells 1 rfl) 1
              have l0 := cell_of (hs.cells 3 rfl) 0
              have l1 := cell_of (hs.cells 3 rfl) 1
              simp only [List.getElem?_toArray, List.getElem?_cons_zero, List.getElem?_cons_succ] at n0 n1 m0 m1 b0 b1 a0 a1 l0 l1
              go_wp2_with fail
              refine (least_l N aa ca (turnL es) es.length _ (turnL_len es) (hs.rdRecs 0 rfl) (turn_right HR.out)).mono ?_
              rintro en w6 ⟨⟨fl4, pot4, hck, rfl⟩, hb⟩
              have HC4 := Lib.hid hck
              clear hck n0 n1 m0 m1 b0 b1 a0 a1 l0 l1
              have hs1 := hs.belowStep hb
              clear hs hb
              have hs := hs1
              clear hs1
              have n0 := cell_of (hs.cells 7 rfl) 0
              have n1 := cell_of (hs.cells 7 rfl) 1
              have m0 := cell_of (hs.cells 6 rfl) 0
              have m1 := cell_of (hs.cells 6 rfl) 1
              have b0 := cell_of (hs.cells 5 rfl) 0
              have b1 := cell_of (hs.cells 5 rfl) 1
              have a0 := cell_of (hs.cells 1 rfl) 0
              have a1 := cell_of (hs.cells 1 rfl) 1
              have l0 := cell_of (hs.cells 3 rfl) 0
              have l1 := cell_of (hs.cells 3 rfl) 1
              simp only [List.getElem?_toArray, List.getElem?_cons_zero, List.getElem?_cons_succ] at n0 n1 m0 m1 b0 b1 a0 a1 l0 l1
              go_wp2_with fail
              refine (least_l 1 ab cb (loopL es) es.length _ (loopL_len es) (hs.rdRecs 2 rfl) (loop_right HR.out)).mono ?_
              rintro en w6 ⟨⟨fl5, pot5, hck, rfl⟩, hb⟩
              have HC5 := Lib.hid hck
              clear hck n0 n1 m0 m1 b0 b1 a0 a1 l0 l1
              have hs1 := hs.belowStep hb
              clear hs hb
              have hs := hs1
              clear hs1
              have e3 := (check_cost HC3.out (both_check HC1.out HC2.out HRB.out).1).trans (both_check HC1.out HC2.out HRB.out).2
              have e4 := (check_cost HC4.out (turn_check HC1.out).1).trans (turn_check HC1.out).2
              have e5 := ((check_cost HC5.out (loop_check HR.out).1).trans (loop_check HR.out).2).trans HG.out.symm
              have hb1 := cost_bound2 (flows_iff.1 (check_flows HC1.out)).1
              have hb2 := cost_bound2 (flows_iff.1 (check_flows HC2.out)).1
              have hb3 := cost_low HC1.out HR.out
              have hb4 := cost_low HC2.out HR'.out
              rw [e3, e4, e5]
              clear e3 e4 e5 HC1 HC2 HC3 HC4 HC5
              obtain ⟨K1, hK1⟩ : ∃ K, K = costV N es fl1 := ⟨_, rfl⟩
              obtain ⟨K2, hK2⟩ : ∃ K, K = costV M es' fl2 := ⟨_, rfl⟩
              rw [← hK1] at hb1 hb3 ⊢
              rw [← hK2] at hb2 hb4 ⊢
              clear hK1 hK2
              obtain ⟨r1, _⟩ := hb1
              obtain ⟨r2, _⟩ := hb2
              go_wp2_with fail
              refine (works_any _).mono ?_
              rintro en w2 ⟨rfl, hb⟩
              have hs2 := hs.belowStep hb
              clear hs hb
              go_wp2_with fail
              go_ret
              exact ⟨rfl, hs2.below⟩
end Go.Proofs.Ytacbfpgijmpilaa
