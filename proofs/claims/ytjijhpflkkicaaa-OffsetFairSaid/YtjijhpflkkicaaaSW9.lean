/-
 Package solve: Best, walked.
-/
import Derived.Test.YtjijhpflkkicaaaSY
set_option linter.unusedVariables false
set_option linter.unusedSimpArgs false
namespace Go.Proofs.Ytjijhpflkkicaaa
open Go Go.RowKit Go.Mem Go.NetP Go.RestP Go.CertP Go.PathP Go.SolveP Go.Shelf
attribute [local go_sem] Oper.semAt_some
theorem BJ.cellN {B1 N c : Nat} {a : Option Addr} {es : List Ed} {w W : World} {X : Thing} {cs : Array Value} {E : TypeId} {dn : Nat → Bool} {v : Nat → Value} (h : BJ B1 N c a es w [X, cellsT B1 cs E] dn v W) : W.heap[B1]? = some (.cells cs E (0, 0)) := by
 refine h.sep.cells (p5 es dn v ++ (pM 10 es.length dn v ++ (pM 13 N dn v ++ (pM 16 N dn v ++ (p18 N dn v ++ [X]))))).length ?_
 have : lsB N es [X, cellsT B1 cs E] dn v = (p5 es dn v ++ (pM 10 es.length dn v ++ (pM 13 N dn v ++ (pM 16 N dn v ++ (p18 N dn v ++ [X]))))) ++ [cellsT B1 cs E] := by
  unfold lsB; simp
 rw [this, List.getElem?_append_right (Nat.le_refl _), Nat.sub_self]
 rfl
set_option maxRecDepth 100000 in
set_option maxHeartbeats 6000000 in
theorem best_any (nn : Int) (a : Option Addr) (c : Nat) (es : List Ed) (w : World) (h : RdG edR w (.slice a es.length c) es) :
  Calls Try.prog 21 #[.agg #[.int .i64 nn, .slice a es.length c]] w fun e w' => (rightB nn es = false ∧ e = .returned (.tuple #[.agg #[.slice none 0 0, .slice none 0 0], .int .i64 0, .int .i64 1]) ∧ Below w.heap.size w w') ∨
   (rightB nn es = true ∧ ∃ S vf vp, Ph nn.toNat es (mostF es es.length) 0 S ∧ e = .returned (.tuple #[.agg #[vf, vp], .int .i64 S.steps, .int .i64 0]) ∧ Sep w w' [intsT .i64 2 vf S.fl, intsT .i64 2 vp S.pot]) := by
 obtain ⟨i0, hi0, hi1, hi2, hi3⟩ := info_parts Try.infoI64b
 obtain ⟨e0, he0, he1, he2, he3⟩ := info_parts Try.infoEdgb
 have hs0 := ((Sep.start w).newCells #[.int .i64 nn, .slice a es.length c] 48).newCells #[.slice none 0 0, .slice none 0 0] 53
 simp only [World.size_alloc] at hs0
 obtain ⟨B1, hB⟩ : ∃ B1, B1 = w.heap.size := ⟨_, rfl⟩
 rw [← hB] at hs0
 have n0 := cell_of (hs0.cells 1 rfl) 0
 have n1 := cell_of (hs0.cells 1 rfl) 1
 have z0 := cell_of (hs0.cells 0 rfl) 0
 have z1 := cell_of (hs0.cells 0 rfl) 1
 simp only [List.getElem?_toArray, List.getElem?_cons_zero, List.getElem?_cons_succ] at n0 n1 z0 z1
 have HRI := Lib.hid (right_any nn a c es _ (hs0.rdG h))
 go_enter Try.func21, Try.ntmps21
 go_wp2_with fail
 (try rw [← hB])
 clear hB
 go_step3
 go_wp2_with fail
 refine HRI.out.mono ?_
 rintro en w1 ⟨rfl, hb⟩
 have hs := hs0.belowStep hb
 clear hb hs0 n0 n1 z0 z1 HRI
 have z0 := cell_of (hs.cells 0 rfl) 0
 have z1 := cell_of (hs.cells 0 rfl) 1
 simp only [List.getElem?_toArray, List.getElem?_cons_zero, List.getElem?_cons_succ] at z0 z1
 have zf := fun j => frozen_of (hs.cells 0 rfl) j
 cases hr : rightB nn es
 ·have HR := Lib.hid hr
  clear hr
  go_wp2_with fail
  (repeat rw [Exit.noGoto_ret])
  have hs2 := hs.setCells 0 rfl 0 (.slice none 0 0) #[.slice none 0 0, .slice none 0 0] rfl
  simp only [List.set_cons_zero] at hs2
  have hs3 := hs2.setCells 0 rfl 1 (.slice none 0 0) #[.slice none 0 0, .slice none 0 0] rfl
  simp only [List.set_cons_zero] at hs3
  have x0 := cell_of (hs3.cells 0 rfl) 0
  have x1 := cell_of (hs3.cells 0 rfl) 1
  simp only [List.getElem?_toArray, List.getElem?_cons_zero, List.getElem?_cons_succ] at x0 x1
  refine bodyPost_ret (v := .tuple #[.agg #[.slice none 0 0, .slice none 0 0], .int .i64 0, .int .i64 1]) ?_ rfl (.inl ⟨HR.out, rfl, hs3.below⟩)
  simp [results, Try.results21, go_sem, x0, x1]
 ·have HR := Lib.hid hr
  obtain ⟨hn1, hn40, hes, _, _⟩ := right_cap hr
  obtain ⟨N, rfl⟩ : ∃ N : Nat, nn = N := ⟨nn.toNat, by omega⟩
  clear hr
  go_wp2_with fail
  go_upto_region 3 with fail
  refine Mix4.region (m := 19) [1, 1, 2, 1, 1, 2, 1, 1, 1, 1, 2, 1, 1, 2, 1, 1, 2, 0, 2, 0] (BJ B1 N c a es w [cellsT (B1 + 1) #[.slice none 0 0, .slice none 0 0] 53, cellsT B1 #[.int .i64 N, .slice a es.length c] 48]) (by kernel_rfl) (by kernel_rfl) ?hJ ?hstep ?hfin
  case hJ => exact ⟨hs.drew, by intro k q; (cases q), by intro k q; (cases q), by intro q; cases q⟩
  case hstep =>
   clear hs z0 z1
   intro i o ho him dn v W ρ hdn hdeps hcl hJ hev hbase hcst
   have hF := hJ.fact
   have hL0 : ∀ X Y R : List Thing, True := fun _ _ _ => trivial
   rcases i with _ | _ | _ | _ | _ | _ | _ | _ | _ | _ | _ | _ | _ | _ | _ | _ | _ | _ | _ | i
   all_goals first | omega | skip
   ·obtain rfl := Option.some.inj ho
    have e0 := hbase 1 (by kernel_rfl) (by show (1 : Nat) < 80; decide)
    refine outR_of (v := (.pointer (some ⟨B1, 0, none⟩))) (w' := W) ?_ (hJ.pure hdn (by decide) (by intro j hj; (try cases hj)) _ (by first | rfl | exact rfl))
    unfold execOp
    simp only [e0]
    go_simp
   ·obtain rfl := Option.some.inj ho
    have d0 : dn 0 = true := hdeps { on := 0, ground := .data } (by simp) (by rfl)
    have e0 := (hev 14 0 (by kernel_rfl) d0 (by show (14 : Nat) < 80; decide)).trans (hF 0 d0)
    have n0 := cell_of hJ.cellN 0
    simp only [List.getElem?_toArray, List.getElem?_cons_zero, List.getElem?_cons_succ] at n0
    refine outR_of (v := (.int .i64 N)) (w' := W) ?_ (hJ.pure hdn (by decide) (by intro j hj; (try cases hj)) _ (by first | rfl | exact rfl))
    unfold execOp
    simp only [e0]
    go_simp
   ·have h5 : dn 5 = false := by
     cases hq : dn 5
     ·rfl
     ·have := hcl 5 _ rfl hq { on := 2, ground := .data } (by simp) (by rfl)
      rw [hdn] at this; cases this
    obtain rfl := Option.some.inj ho
    refine outR_of (v := .slice (some ⟨W.heap.size, 0, none⟩) 0 0) (w' := W.alloc (.cells #[] 77)) ?_ (hJ.lit hdn h5)
    unfold execOp
    go_simp
   ·obtain rfl := Option.some.inj ho
    have e0 := hbase 1 (by kernel_rfl) (by show (1 : Nat) < 80; decide)
    refine outR_of (v := (.pointer (some ⟨B1, 1, none⟩))) (w' := W) ?_ (hJ.pure hdn (by decide) (by intro j hj; (try cases hj)) _ (by first | rfl | exact rfl))
    unfold execOp
    simp only [e0]
    go_simp
   ·obtain rfl := Option.some.inj ho
    have d0 : dn 3 = true := hdeps { on := 3, ground := .data } (by simp) (by rfl)
    have e0 := (hev 17 3 (by kernel_rfl) d0 (by show (17 : Nat) < 80; decide)).trans (hF 3 d0)
    have n0 := cell_of hJ.cellN 1
    simp only [List.getElem?_toArray, List.getElem?_cons_zero, List.getElem?_cons_succ] at n0
    refine outR_of (v := (.slice a es.length c)) (w' := W) ?_ (hJ.pure hdn (by decide) (by intro j hj; (try cases hj)) _ (by first | rfl | exact rfl))
    unfold execOp
    simp only [e0]
    go_simp
   ·have d0 : dn 2 = true := hdeps { on := 2, ground := .data } (by rw [← Option.some.inj ho]; simp) (by rfl)
    have d1 : dn 4 = true := hdeps { on := 4, ground := .data } (by rw [← Option.some.inj ho]; simp) (by rfl)
    obtain ⟨g, hg⟩ := hF 2 d0
    have e0' := (hev 16 2 (by kernel_rfl) d0 (by show (16 : Nat) < 80; decide)).trans hg
    have e1' := (hev 18 4 (by kernel_rfl) d1 (by show (18 : Nat) < 80; decide)).trans (hF 4 d1)
    obtain ⟨g', c', W', hr, hs'⟩ := exec_appNew (P := Try.prog) (ρ := ρ) (w := W) edR o (.tmp 16) (.tmp 18) 46 (by rw [← Option.some.inj ho]) 77 e0 _ 32 Try.underlying46 he0 he1 he2 he3 rfl g _ es hJ.sep 0 (BJ.at5 d0 hdn hg) (hJ.sep.rdG h) e0' e1' (by unfold maxLen; omega) (by omega)
    exact outR_of hr (hJ.app d0 hdn hs')
   ·obtain rfl := Option.some.inj ho
    have d0 : dn 1 = true := hdeps { on := 1, ground := .data } (by simp) (by rfl)
    have e0 := (hev 15 1 (by kernel_rfl) d0 (by show (15 : Nat) < 80; decide)).trans (hF 1 d0)
    have d1 : dn 5 = true := hdeps { on := 5, ground := .data } (by simp) (by rfl)
    have e1 := (hev 19 5 (by kernel_rfl) d1 (by show (19 : Nat) < 80; decide)).trans rfl
    refine outR_of (v := .agg #[.int .i64 N, v 5]) (w' := W) ?_ (hJ.pure hdn (by decide) (by intro j hj; simp only [useB, List.mem_cons, List.not_mem_nil, or_false] at hj; subst hj; exact d1) _ rfl)
    obtain ⟨g, c', h5⟩ := hF 5 d1
    rw [h5] at e1 ⊢
    unfold execOp
    simp only [e0, e1, List.map_toArray, List.map_cons, List.map_nil]
    go_simp
   ·obtain rfl := Option.some.inj ho
    have e0 := hbase 1 (by kernel_rfl) (by show (1 : Nat) < 80; decide)
    refine outR_of (v := (.pointer (some ⟨B1, 1, none⟩))) (w' := W) ?_ (hJ.pure hdn (by decide) (by intro j hj; (try cases hj)) _ (by first | rfl | exact rfl))
    unfold execOp
    simp only [e0]
    go_simp
   ·obtain rfl := Option.some.inj ho
    have d0 : dn 7 = true := hdeps { on := 7, ground := .data } (by simp) (by rfl)
    have e0 := (hev 21 7 (by kernel_rfl) d0 (by show (21 : Nat) < 80; decide)).trans (hF 7 d0)
    have n0 := cell_of hJ.cellN 1
    simp only [List.getElem?_toArray, List.getElem?_cons_zero, List.getElem?_cons_succ] at n0
    refine outR_of (v := (.slice a es.length c)) (w' := W) ?_ (hJ.pure hdn (by decide) (by intro j hj; (try cases hj)) _ (by first | rfl | exact rfl))
    unfold execOp
    simp only [e0]
    go_simp
   ·obtain rfl := Option.some.inj ho
    have d0 : dn 8 = true := hdeps { on := 8, ground := .data } (by simp) (by rfl)
    have e0 := (hev 22 8 (by kernel_rfl) d0 (by show (22 : Nat) < 80; decide)).trans (hF 8 d0)
    refine outR_of (v := (.int .i64 es.length)) (w' := W) ?_ (hJ.pure hdn (by decide) (by intro j hj; (try cases hj)) _ (by first | rfl | exact rfl))
    unfold execOp
    simp only [e0]
    go_simp
   ·have eo : o.op = Op.makeSlice 23 (.tmp 23) (.tmp 23) := by rw [← Option.some.inj ho]
    have d0 : dn 9 = true := hdeps { on := 9, ground := .data } (by rw [← Option.some.inj ho]; simp) (by rfl)
    have e0 := (hev 23 9 (by kernel_rfl) d0 (by show (23 : Nat) < 80; decide)).trans (hF 9 d0)
    obtain ⟨g, W', hr, hs'⟩ := exec_makeInts (P := Try.prog) (ρ := ρ) (w := W) o 23 (.tmp 23) (.tmp 23) eo 2 i0 .i64 8 Try.underlying23 hi0 hi1 hi2 hi3 es.length .i64 .i64 e0 e0 hJ.sep (by unfold maxLen; omega) (by omega)
    exact outR_of hr (hJ.mk10 hdn hs')
   ·obtain rfl := Option.some.inj ho
    have e0 := hbase 1 (by kernel_rfl) (by show (1 : Nat) < 80; decide)
    refine outR_of (v := (.pointer (some ⟨B1, 0, none⟩))) (w' := W) ?_ (hJ.pure hdn (by decide) (by intro j hj; (try cases hj)) _ (by first | rfl | exact rfl))
    unfold execOp
    simp only [e0]
    go_simp
   ·obtain rfl := Option.some.inj ho
    have d0 : dn 11 = true := hdeps { on := 11, ground := .data } (by simp) (by rfl)
    have e0 := (hev 25 11 (by kernel_rfl) d0 (by show (25 : Nat) < 80; decide)).trans (hF 11 d0)
    have n0 := cell_of hJ.cellN 0
    simp only [List.getElem?_toArray, List.getElem?_cons_zero, List.getElem?_cons_succ] at n0
    refine outR_of (v := (.int .i64 N)) (w' := W) ?_ (hJ.pure hdn (by decide) (by intro j hj; (try cases hj)) _ (by first | rfl | exact rfl))
    unfold execOp
    simp only [e0]
    go_simp
   ·have eo : o.op = Op.makeSlice 23 (.tmp 26) (.tmp 26) := by rw [← Option.some.inj ho]
    have d0 : dn 12 = true := hdeps { on := 12, ground := .data } (by rw [← Option.some.inj ho]; simp) (by rfl)
    have e0 := (hev 26 12 (by kernel_rfl) d0 (by show (26 : Nat) < 80; decide)).trans (hF 12 d0)
    obtain ⟨g, W', hr, hs'⟩ := exec_makeInts (P := Try.prog) (ρ := ρ) (w := W) o 23 (.tmp 26) (.tmp 26) eo 2 i0 .i64 8 Try.underlying23 hi0 hi1 hi2 hi3 N .i64 .i64 e0 e0 hJ.sep (by unfold maxLen; omega) (by omega)
    exact outR_of hr (hJ.mk13 hdn hs')
   ·obtain rfl := Option.some.inj ho
    have e0 := hbase 1 (by kernel_rfl) (by show (1 : Nat) < 80; decide)
    refine outR_of (v := (.pointer (some ⟨B1, 0, none⟩))) (w' := W) ?_ (hJ.pure hdn (by decide) (by intro j hj; (try cases hj)) _ (by first | rfl | exact rfl))
    unfold execOp
    simp only [e0]
    go_simp
   ·obtain rfl := Option.some.inj ho
    have d0 : dn 14 = true := hdeps { on := 14, ground := .data } (by simp) (by rfl)
    have e0 := (hev 28 14 (by kernel_rfl) d0 (by show (28 : Nat) < 80; decide)).trans (hF 14 d0)
    have n0 := cell_of hJ.cellN 0
    simp only [List.getElem?_toArray, List.getElem?_cons_zero, List.getElem?_cons_succ] at n0
    refine outR_of (v := (.int .i64 N)) (w' := W) ?_ (hJ.pure hdn (by decide) (by intro j hj; (try cases hj)) _ (by first | rfl | exact rfl))
    unfold execOp
    simp only [e0]
    go_simp
   ·have eo : o.op = Op.makeSlice 23 (.tmp 29) (.tmp 29) := by rw [← Option.some.inj ho]
    have d0 : dn 15 = true := hdeps { on := 15, ground := .data } (by rw [← Option.some.inj ho]; simp) (by rfl)
    have e0 := (hev 29 15 (by kernel_rfl) d0 (by show (29 : Nat) < 80; decide)).trans (hF 15 d0)
    obtain ⟨g, W', hr, hs'⟩ := exec_makeInts (P := Try.prog) (ρ := ρ) (w := W) o 23 (.tmp 29) (.tmp 29) eo 2 i0 .i64 8 Try.underlying23 hi0 hi1 hi2 hi3 N .i64 .i64 e0 e0 hJ.sep (by unfold maxLen; omega) (by omega)
    exact outR_of hr (hJ.mk16 hdn hs')
   ·obtain rfl := Option.some.inj ho
    have d0 : dn 6 = true := hdeps { on := 6, ground := .data } (by simp) (by rfl)
    have e0 := (hev 20 6 (by kernel_rfl) d0 (by show (20 : Nat) < 80; decide)).trans (hF 6 d0)
    have d1 : dn 10 = true := hdeps { on := 10, ground := .data } (by simp) (by rfl)
    have e1 := (hev 24 10 (by kernel_rfl) d1 (by show (24 : Nat) < 80; decide)).trans rfl
    have d2 : dn 13 = true := hdeps { on := 13, ground := .data } (by simp) (by rfl)
    have e2 := (hev 27 13 (by kernel_rfl) d2 (by show (27 : Nat) < 80; decide)).trans rfl
    have d3 : dn 16 = true := hdeps { on := 16, ground := .data } (by simp) (by rfl)
    have e3 := (hev 30 16 (by kernel_rfl) d3 (by show (30 : Nat) < 80; decide)).trans rfl
    have d5 : dn 5 = true := hJ.use_ 6 d0 5 (by decide)
    refine outR_of (v := .agg #[.int .i64 N, v 5, v 10, v 13, v 16, .int .i64 0]) (w' := W) ?_ (hJ.pure hdn (by decide) (by intro j hj; simp only [useB, List.mem_cons, List.not_mem_nil, or_false] at hj; rcases hj with rfl | rfl | rfl | rfl <;> assumption) _ rfl)
    obtain ⟨g, c', h5⟩ := hF 5 d5
    obtain ⟨g1, h10⟩ := hF 10 d1
    obtain ⟨g2, h13⟩ := hF 13 d2
    obtain ⟨g3, h16⟩ := hF 16 d3
    rw [h5] at e0 ⊢
    rw [h10] at e1 ⊢
    rw [h13] at e2 ⊢
    rw [h16] at e3 ⊢
    unfold execOp
    simp only [e0, e1, e2, e3, List.map_toArray, List.map_cons, List.map_nil]
    go_simp
   ·obtain rfl := Option.some.inj ho
    have d0 : dn 17 = true := hdeps { on := 17, ground := .data } (by simp) (by rfl)
    have e0 := (hev 31 17 (by kernel_rfl) d0 (by show (31 : Nat) < 80; decide)).trans (hF 17 d0)
    refine outR_of (v := .pointer (some ⟨W.heap.size, 0, none⟩)) (w' := W.alloc (.cells #[.int .i64 N, v 5, v 10, v 13, v 16, .int .i64 0] 81)) ?_ (hJ.box hdn d0)
    unfold execOp
    simp only [e0]
    go_simp
  case hfin =>
   clear hs z0 z1 zf
   intro v W hJ
   have hF := hJ.fact
   have hsp := hJ.sep
   clear hJ
   have q0 := hF 0 rfl
   have q1 := hF 1 rfl
   obtain ⟨g2, q2⟩ := hF 2 rfl
   have q3 := hF 3 rfl
   have q4 := hF 4 rfl
   obtain ⟨g5, c5, q5⟩ := hF 5 rfl
   have q6 := hF 6 rfl
   have q7 := hF 7 rfl
   have q8 := hF 8 rfl
   have q9 := hF 9 rfl
   obtain ⟨g10, q10⟩ := hF 10 rfl
   have q11 := hF 11 rfl
   have q12 := hF 12 rfl
   obtain ⟨g13, q13⟩ := hF 13 rfl
   have q14 := hF 14 rfl
   have q15 := hF 15 rfl
   obtain ⟨g16, q16⟩ := hF 16 rfl
   have q17 := hF 17 rfl
   obtain ⟨g18, q18⟩ := hF 18 rfl
   simp only [FB] at q0 q1 q3 q4 q6 q7 q8 q9 q11 q12 q14 q15 q17
   clear hF
   replace hsp : Sep w W [recT edR 77 (v 5) es, intsT .i64 2 (v 10) (List.replicate es.length 0), intsT .i64 2 (v 13) (List.replicate N 0), intsT .i64 2 (v 16) (List.replicate N 0), cellsT (ptrBlk (v 18)) #[.int .i64 N, v 5, v 10, v 13, v 16, .int .i64 0] 81, cellsT (B1 + 1) #[.slice none 0 0, .slice none 0 0] 53, cellsT B1 #[.int .i64 N, .slice a es.length c] 48] := hsp
   rw [q5, q10, q13, q16] at hsp q17
   rw [q5] at q6
   rw [q18] at hsp
   obtain ⟨M, hM⟩ : ∃ M : Sol, M = ⟨g18, g5, c5, g10, g13, g16, N, [cellsT (B1 + 1) #[.slice none 0 0, .slice none 0 0] 53, cellsT B1 #[.int .i64 N, .slice a es.length c] 48]⟩ := ⟨_, rfl⟩
   have hs : Sep w W (solL M ⟨zeroE es 0, List.replicate es.length 0, List.replicate N 0, List.replicate N 0, 0⟩) := by
    have h0 := (show ([4, 1, 2, 3, 0] : List Nat).Perm [0, 1, 2, 3, 4] by decide)
    rw [zeroE_zero, hM]
    exact hsp.perm (mid_perm _ _ _ _ _ [] _).symm
   refine ⟨fun _ => True, trivial, ?_⟩
   simp only [Mix3.actD, Mix3.apD, q0, q1, q2, q3, q4, q5, q6, q7, q8, q9, q10, q11, q12, q13, q14, q15, q16, q17, q18, Nat.zero_add, Nat.reduceAdd, show ∀ a b, Nat.blt a b = decide (a < b) from fun a b => by rw [Bool.eq_iff_iff, Nat.blt_eq, decide_eq_true_eq], Nat.reduceLT, decide_true, decide_false, if_true, Bool.false_eq_true, if_false, List.setIfInBounds_toArray, List.set_cons_zero, List.set_cons_succ]
   have hMbs : M.bs = g18 := by rw [hM]
   have hMN : M.N = N := by rw [hM]
   have hMex : M.ex = [cellsT (B1 + 1) #[.slice none 0 0, .slice none 0 0] 53, cellsT B1 #[.int .i64 N, .slice a es.length c] 48] := by rw [hM]
   rw [← hMbs]
   clear q0 q1 q2 q3 q4 q5 q6 q7 q8 q9 q10 q11 q12 q13 q14 q15 q16 q17 q18 hsp
   clear hM hMbs v
   simp only [List.zip_cons_cons, List.zip_nil_right, List.drop_succ_cons, List.drop_zero]
   iterate 1 (refine Mix.step0 fun K hK => ?_; go_simp; (try (go_bits; try go_simp)); first | ((with_reducible refine hK _ _ ?_); clear hK K) | ((try (simp only [IntWalk.iteOmega]; try go_simp)); (try go_bits); (with_reducible refine hK _ _ ?_); clear hK K))
   refine Mix.done ?_
   subst hMN
   have HX0 := Lib.hid (show ∀ S : St, (solL M S)[5]? = some (cellsT (B1 + 1) #[.slice none 0 0, .slice none 0 0] 53) from fun S => by show M.ex[0]? = _; rw [hMex]; rfl)
   have HX1 := Lib.hid (show ∀ S : St, (solL M S)[6]? = some (cellsT B1 #[.int .i64 M.N, .slice a es.length c] 48) from fun S => by show M.ex[1]? = _; rw [hMex]; rfl)
   clear hMex
   have hn40' : M.N ≤ 40 := by omega
   have n1 := cell_of (hs.cells 6 (HX1.out _)) 1
   simp only [List.getElem?_toArray, List.getElem?_cons_zero, List.getElem?_cons_succ] at n1
   go_wp2_with fail
   clear n1
   refine wp_loopM [none, none, none, none, none, none, some 6, some 7, some 8, none, none, none, none, none, none, none, none, none, none, none, none, none, none, none, none, none, none, none, none, none, none, none, none, none, none, none, some 36, some 37, some 38, some 39, some 40, some 41, some 42, some 43, some 44, some 45, some 46, some 47, some 48, some 49, some 50, some 51, some 52, some 53, some 54, some 55, none, none, none, none, none, none, none, none, none, none, none, none, none, none, none, none, none, none, none, none, none, none, none, none] (fun (r : Nat) (f : Nat → Value) (wr : World) => (fun (v vm : Value) => ∃ i : Nat, v = .int .i64 i ∧ vm = .int .i64 (mostF es i : Nat) ∧ i ≤ es.length ∧ r = es.length - i ∧ Sep w wr (solL M ⟨zeroE es i, List.replicate es.length 0, List.replicate M.N 0, List.replicate M.N 0, 0⟩)) (f 36) (f 6)) (es.length) (by kernel_rfl) ?atStart1 ?round1
   case' atStart1 => (try dsimp only [nthV])
   case' round1 =>
    intro gk f wr l hl hrel J1 K1 hJ1 hK1
    (try simp only [mask] at hl)
    generalize f 36 = u36 at hl hrel
    generalize f 6 = u6 at hl hrel
    subst hl
    (try dsimp only at hrel)
   case atStart1 => exact ⟨0, rfl, rfl, Nat.zero_le _, rfl, hs⟩
   case round1 =>
    clear hs
    obtain ⟨i, rfl, rfl, hi, rfl, hs⟩ := hrel
    by_cases hlt : i < es.length
    ·obtain ⟨ba, oa, eqa, _, hca⟩ := (hs.rdG h).at i hlt
     subst eqa
     have hcb := cap53 HR.out i
     have hEe := (edgeB_iff _ _).1 ((right_cap HR.out).2.2.2.2 _ (List.getElem_mem hlt))
     rw [← edAt_of hlt] at hca hEe
     have x0 := hca 0 (by decide)
     have x1 := hca 1 (by decide)
     have x2 := hca 2 (by decide)
     have x3 := hca 3 (by decide)
     simp only [edR, Nat.add_zero, List.getElem?_cons_zero, List.getElem?_cons_succ] at x0 x1 x2 x3
     have HMS := Lib.hid (show mostF es (i + 1) = max (mostF es i) (Lib.bitLen (edAt es i).c.toNat) from rfl)
     have HZS := Lib.hid (zeroE_succ hlt)
     have HGE := Lib.hid (show edAt (zeroE es i) i = edAt es i by rw [edAt_of (by rw [zeroE_len]; exact hlt), zeroE_at hlt, if_neg (by omega)])
     have hm53 := mostF_le es (fun j => (cap53 HR.out j).2) i
     have hl53 : Lib.bitLen (edAt es i).c.toNat ≤ 53 := bitAux_le 64 _ 53 hcb.2
     obtain ⟨E, hE⟩ : ∃ E, E = edAt es i := ⟨_, rfl⟩
     rw [← hE] at x0 x1 x2 x3 HMS HZS HGE hl53 hcb hEe
     clear hca hE
     obtain ⟨ef, et, ec, ek⟩ := E
     dsimp only at x0 x1 x2 x3 HMS HZS hl53 hcb hEe
     obtain ⟨_, _, c0, c1, _, _⟩ := hEe
     obtain ⟨mm, hmm⟩ : ∃ mm, mm = mostF es i := ⟨_, rfl⟩
     rw [← hmm] at HMS hm53 ⊢
     obtain ⟨bl, hbl⟩ : ∃ bl, bl = Lib.bitLen ec.toNat := ⟨_, rfl⟩
     rw [← hbl] at HMS hl53
     have HBL := Lib.hid hbl
     clear hmm hbl hcb
     have hsA := hs.newCells #[.int .i64 ef, .int .i64 et, .int .i64 ec, .int .i64 ek] 77
     go_upto_region 8 with fail
     obtain ⟨b8, hb8⟩ : ∃ b8, b8 = wr.heap.size := ⟨_, rfl⟩
     rw [← hb8] at hsA ⊢
     generalize World.alloc wr _ = W1 at hsA ⊢
     clear hs x0 x1 x2 x3 hb8
     have hs := hsA
     clear hsA
     unfold solL at hs
     dsimp only at hs
     rw [zeroE_len] at hs
     have t2 := cell_of (hs.cells 0 rfl) 2
     have s0 := cell_of (hs.cells 1 rfl) 0
     have s1 := cell_of (hs.cells 1 rfl) 1
     have s2 := cell_of (hs.cells 1 rfl) 2
     have s3 := cell_of (hs.cells 1 rfl) 3
     have s4 := cell_of (hs.cells 1 rfl) 4
     simp only [Sol.cells, List.getElem?_toArray, List.getElem?_cons_zero, List.getElem?_cons_succ] at s0 s1 s2 s3 s4
     simp only [List.getElem?_toArray, List.getElem?_cons_zero, List.getElem?_cons_succ] at t2
     obtain ⟨ge, ce, eqe, _, hce, hfe⟩ := (hs.recs 5 rfl).get i (by rw [zeroE_len]; exact hlt)
     injection eqe with eqe q1 q2
     injection eqe with eqe
     injection eqe with eqe
     subst eqe
     have y0 := hce i (by rw [zeroE_len]; exact hlt) 0 (by decide)
     have y1 := hce i (by rw [zeroE_len]; exact hlt) 1 (by decide)
     have y2 := hce i (by rw [zeroE_len]; exact hlt) 2 (by decide)
     have y3 := hce i (by rw [zeroE_len]; exact hlt) 3 (by decide)
     rw [← edAt_of (by rw [zeroE_len]; exact hlt), HGE.out] at y0 y1 y2 y3
     simp only [edR, Nat.add_zero, List.getElem?_cons_zero, List.getElem?_cons_succ] at y0 y1 y2 y3
     have w0' := hfe (i * 4)
     clear q1 q2 hce
     have hiE : (i : Int) < es.length := by omega
     go_upto_region 9 with fail
     have hs2 := show Sep w (W1.setCell ⟨M.gE, i * 4 + 2, none⟩ (.int .i64 0)) _ from hs.setRec 5 rfl i (by rw [zeroE_len]; exact hlt) 2 (by decide) ⟨ef, et, 0, ek⟩ (.int .i64 0) (by rw [← edAt_of (by rw [zeroE_len]; exact hlt), HGE.out]; rfl)
     simp only [List.set_cons_zero, List.set_cons_succ] at hs2
     rw [HZS.out] at hs2
     generalize World.setCell W1 _ _ = W2 at hs2 ⊢
     clear hs s0 s1 s2 s3 s4 y0 y1 y2 y3 hfe w0' t2
     have hs := hs2
     clear hs2
     have t2 := cell_of (hs.cells 0 rfl) 2
     simp only [List.getElem?_toArray, List.getElem?_cons_zero, List.getElem?_cons_succ] at t2
     go_wp2_with fail
     refine (bits64_any ec _ (by omega) (by omega)).mono ?_
     rintro en w5 ⟨rfl, rfl⟩
     rw [← HBL.out]
     have hrl : Mem.Sep w w5 (solL M ⟨zeroE es (i + 1), List.replicate es.length 0, List.replicate M.N 0, List.replicate M.N 0, 0⟩) := by
      unfold solL
      dsimp only
      rw [zeroE_len]
      exact hs.tail
     clear hs t2
     go_wp2_with fail
     refine Round.intro (es.length - (i + 1)) ?measure2 (by kernel_rfl) (hJ1 _ _ _ ?rel2)
     case' rel2 => (try dsimp only [nthV])
     case measure2 => omega
     case rel2 => exact ⟨i + 1, by go_num, by rw [HMS.out]; congr 1; omega, hlt, rfl, hrl⟩
    ·obtain rfl : i = es.length := by omega
     have HMN := Lib.hid (most_none HR.out)
     rw [zeroE_end HMN.out] at hs
     have hm53 := mostF_le es (fun j => (cap53 HR.out j).2) es.length
     obtain ⟨m, hm⟩ : ∃ m, m = mostF es es.length := ⟨_, rfl⟩
     rw [← hm] at hs hm53 HMN ⊢
     have HME := Lib.hid hm
     clear hm
     go_wp2_with fail
     go_step3
     go_wp2_with fail
     refine wp_loopM [none, none, none, none, none, none, none, none, none, some 9, none, none, none, none, none, none, none, none, none, none, none, none, none, none, none, none, none, none, none, none, none, none, none, none, none, none, none, none, none, none, none, none, none, none, none, none, none, none, none, none, none, none, none, none, none, none, none, some 57, some 58, some 59, some 60, some 61, some 62, some 63, some 64, some 65, some 66, none, none, none, none, none, none, none, none, none, none, none, none, none] (fun (r : Nat) (f : Nat → Value) (wq : World) => (fun (v : Value) => ∃ (k : Nat) (S : St), v = .int .i64 k ∧ Hid (Ph M.N es m k S) ∧ r = k ∧ Sep w wq (solL M S)) (f 9)) (m) (by kernel_rfl) ?atStart3 ?round3
     case' atStart3 => (try dsimp only [nthV])
     case' round3 =>
      intro gk f wr l hl hrel J2 K2 hJ2 hK2
      (try simp only [mask] at hl)
      generalize f 9 = u9 at hl hrel
      subst hl
      (try dsimp only at hrel)
     case atStart3 => exact ⟨m, S0 M.N es m, rfl, Lib.hid Ph.start, rfl, hs⟩
     case round3 =>
      clear hs
      obtain ⟨k, S, rfl, HPH, hgk, hs⟩ := hrel
      have HGK := Lib.hid hgk
      clear hgk
      cases k with
      | zero =>
       have s0 := cell_of (hs.cells 0 rfl) 0
       have s1 := cell_of (hs.cells 0 rfl) 1
       have s2 := cell_of (hs.cells 0 rfl) 2
       have s3 := cell_of (hs.cells 0 rfl) 3
       have s4 := cell_of (hs.cells 0 rfl) 4
       simp only [Sol.cells, List.getElem?_toArray, List.getElem?_cons_zero, List.getElem?_cons_succ] at s0 s1 s2 s3 s4
       have s5 := cell_of (hs.cells 0 rfl) 5
       simp only [Sol.cells, List.getElem?_toArray, List.getElem?_cons_zero, List.getElem?_cons_succ] at s5
       have z0 := cell_of (hs.cells 5 (HX0.out _)) 0
       have z1 := cell_of (hs.cells 5 (HX0.out _)) 1
       simp only [List.getElem?_toArray, List.getElem?_cons_zero, List.getElem?_cons_succ] at z0 z1
       have zf := fun j => frozen_of (hs.cells 5 (HX0.out _)) j
       have hCW : (fun W : World => W.cell? ⟨M.bs, 5, none⟩ = some (.int .i64 S.steps)) wr.drew := s5
       go_wp2_with fail
       refine Mix.region [0, 0, 0, 0, 0, 0, 0, 0, 0, 1, 1, 1, 1, 2, 0, 0] (fun W : World => W.cell? ⟨M.bs, 5, none⟩ = some (.int .i64 S.steps)) (by kernel_rfl) (by kernel_rfl) hCW ?_
       simp only [List.zip_cons_cons, List.zip_nil_right]
       iterate 9 (refine Mix.step0 fun K hK => ?_; go_simp; (try (go_bits; try go_simp)); first | ((with_reducible refine hK _ _ ?_); clear hK K) | ((try (simp only [IntWalk.iteOmega]; try go_simp)); (try go_bits); (with_reducible refine hK _ _ ?_); clear hK K))
       (refine Mix.step1 fun K hK => ?_; go_simp; (try (go_bits; try go_simp)); first | ((with_reducible refine hK _ _ ?_); clear hK K) | ((try (simp only [IntWalk.iteOmega]; try go_simp)); (try go_bits); (with_reducible refine hK _ _ ?_); clear hK K))
       (refine Mix.step1 fun K hK => ?_; go_simp; (try (go_bits; try go_simp)); first | ((with_reducible refine hK _ _ ?_); clear hK K) | ((try (simp only [IntWalk.iteOmega]; try go_simp)); (try go_bits); (with_reducible refine hK _ _ ?_); clear hK K))
       (refine Mix.step1 fun K hK => ?_; go_simp; (try (go_bits; try go_simp)); first | ((with_reducible refine hK _ _ ?_); clear hK K) | ((try (simp only [IntWalk.iteOmega]; try go_simp)); (try go_bits); (with_reducible refine hK _ _ ?_); clear hK K))
       (refine Mix.step1 fun K hK => ?_; go_simp; refine ⟨fun W => ?_, hK _ _ ?_⟩; (intro hW1; (try intro hW2); (try intro hW3); (try intro hW4); (try intro hW5); (try intro hW6); (try intro hW7); (try intro hW8); go_simp); clear hK K)
       refine Mix.step2n (by first | rfl | simp [Region.wanted, yielded]) fun K hK => ?_
       go_wp2_with fail
       have hs2 := hs.setCells 5 (HX0.out _) 0 (.slice (some ⟨M.gF, 0, none⟩) S.es.length S.es.length) #[.slice (some ⟨M.gF, 0, none⟩) S.es.length S.es.length, .slice none 0 0] rfl
       have hs3 := hs2.setCells 5 (by rw [List.getElem?_set_self (by have := HX0.out S; exact (List.getElem?_eq_some_iff.1 this).1)]) 1 (.slice (some ⟨M.gP, 0, none⟩) M.N M.N) #[.slice (some ⟨M.gF, 0, none⟩) S.es.length S.es.length, .slice (some ⟨M.gP, 0, none⟩) M.N M.N] rfl
       rw [List.set_set] at hs3
       replace hs3 := hs3.drew
       clear hs2
       have hCW : (fun W : World => W.cell? ⟨M.bs, 5, none⟩ = some (.int .i64 S.steps)) ((wr.drew.setCell ⟨B1 + 1, 0, none⟩ (.slice (some ⟨M.gF, 0, none⟩) S.es.length S.es.length)).setCell ⟨B1 + 1, 1, none⟩ (.slice (some ⟨M.gP, 0, none⟩) M.N M.N)) := by
        have e0 : ((solL M S).set 5 (cellsT (B1 + 1) #[.slice (some ⟨M.gF, 0, none⟩) S.es.length S.es.length, .slice (some ⟨M.gP, 0, none⟩) M.N M.N] 53))[0]? = some (cellsT M.bs (M.cells S.es.length S.steps) 81) := by
         rw [List.getElem?_set_ne (by decide)]; rfl
        exact cell_of (hs3.cells 0 e0) 5
       refine Mix.post_mk (C := (fun W : World => W.cell? ⟨M.bs, 5, none⟩ = some (.int .i64 S.steps))) (by first | exact hCW | exact HCW.out _) (hK _ _ ?_)
       clear hK K
       iterate 2 (refine Mix.step0 fun K hK => ?_; go_simp; (try (go_bits; try go_simp)); first | ((with_reducible refine hK _ _ ?_); clear hK K) | ((try (simp only [IntWalk.iteOmega]; try go_simp)); (try go_bits); (with_reducible refine hK _ _ ?_); clear hK K))
       refine Mix.done ?_
       have x0 := cell_of (hs3.cells 5 (by rw [List.getElem?_set_self (by have := HX0.out S; exact (List.getElem?_eq_some_iff.1 this).1)])) 0
       have x1 := cell_of (hs3.cells 5 (by rw [List.getElem?_set_self (by have := HX0.out S; exact (List.getElem?_eq_some_iff.1 this).1)])) 1
       simp only [List.getElem?_toArray, List.getElem?_cons_zero, List.getElem?_cons_succ] at x0 x1
       have hs4 : Mem.Sep w ((wr.setCell ⟨B1 + 1, 0, none⟩ (.slice (some ⟨M.gF, 0, none⟩) S.es.length S.es.length)).setCell ⟨B1 + 1, 1, none⟩ (.slice (some ⟨M.gP, 0, none⟩) M.N M.N)).drew [intsT .i64 2 (.slice (some ⟨M.gF, 0, none⟩) S.es.length S.es.length) S.fl, intsT .i64 2 (.slice (some ⟨M.gP, 0, none⟩) M.N M.N) S.pot] := by
        unfold solL at hs3
        simp only [List.set_cons_succ] at hs3
        exact hs3.tail.takeN 2
       clear hs hs3 s0 s1 s2 s3 s4 s5 z0 z1 zf hCW
       go_wp2_with fail
       (repeat rw [Exit.noGoto_ret])
       generalize World.drew _ = W9 at x0 x1 hs4 ⊢
       refine bodyPost_ret (v := .tuple #[.agg #[.slice (some ⟨M.gF, 0, none⟩) S.es.length S.es.length, .slice (some ⟨M.gP, 0, none⟩) M.N M.N], .int .i64 S.steps, .int .i64 0]) ?_ rfl (.inr ⟨HR.out, S, _, _, by rw [Int.toNat_natCast, ← HME.out]; exact HPH.out, rfl, hs4⟩)
       simp [results, Try.results21, go_sem, x0, x1]
      | succ k =>
       have hkm := HPH.out.le
       obtain ⟨hpi, hst⟩ := HPH.out.pi HR.out HMN.out
       have hst2 : S.steps ≤ 53 * 200 := Nat.le_trans hst (Nat.mul_le_mul (by omega) hes)
       obtain ⟨hfi, hfp⟩ := hpi.finer HR.out
       have HPI := Lib.hid hpi
       clear hpi hst
       have n0 := cell_of (hs.cells 6 (HX1.out _)) 0
       have n1 := cell_of (hs.cells 6 (HX1.out _)) 1
       simp only [List.getElem?_toArray, List.getElem?_cons_zero, List.getElem?_cons_succ] at n0 n1
       have hk1 : ((k + 1 : Nat) : Int) - 1 = (k : Int) := by omega
       have hk0 : decide ((k : Int) < 0) = false := decide_eq_false (by omega)
       go_wp2_with fail
       refine (finer_any M es k S M.N a c w _ h HR.out (by omega) HPI.out hs).mono ?_
       rintro en w6 ⟨⟨v6, rfl⟩, hs6⟩
       clear hs n0 n1
       have HST := Lib.hid (show (finerS M.N es k S).steps = S.steps from rfl)
       go_wp2_with fail
       refine wp_loopM [none, none, none, none, none, none, none, none, none, none, none, none, none, none, none, none, none, none, none, none, none, none, none, none, none, none, none, none, none, none, none, none, none, none, none, none, none, none, none, none, none, none, none, none, none, none, none, none, none, none, none, none, none, none, none, none, none, none, none, none, none, none, none, none, none, some 65, some 66, none, none, none, none, none, none, none, none, none, none, none, none, none] (fun (r : Nat) (f : Nat → Value) (wx : World) => ∃ (T : St), Hid (SI M.N T ∧ T.steps + phi T.ov M.N ≤ 53 * 200 + 200 ∧ ∀ X, Fills M.N T X → Fills M.N (finerS M.N es k S) X) ∧ r = phi T.ov M.N ∧ Sep w wx (solL M T)) ((phi (finerS M.N es k S).ov M.N)) (by kernel_rfl) ?atStart4 ?round4
       case' atStart4 => (try dsimp only [nthV])
       case' round4 =>
        intro gk f wr l hl hrel J3 K3 hJ3 hK3
        (try simp only [mask] at hl)
        subst hl
        (try dsimp only at hrel)
       case atStart4 => exact ⟨_, Lib.hid ⟨hfi, by rw [HST.out]; omega, fun X q => q⟩, rfl, hs6⟩
       case round4 =>
        clear hs6
        obtain ⟨T, HT, hgk2, hs⟩ := hrel
        have HG2 := Lib.hid hgk2
        clear hgk2
        go_wp2_with fail
        refine (fill_any M T w _ HT.out.1 (by have := HT.out.2.1; omega) hs).mono ?_
        clear hs
        rintro en w7 (⟨hsr, rfl, hs⟩ | ⟨T2, hfr, rfl, hs⟩)
        ·have HPN := Lib.hid (Ph.next HPH.out (HT.out.2.2 _ (Fills.stop hsr)))
         clear hsr
         go_wp2_with fail
         refine Round.intro (k) ?measure5 (by kernel_rfl) (hJ2 _ _ _ ?rel5)
         case' rel5 => (try dsimp only [nthV])
         case measure5 => have := HGK.out; omega
         case rel5 => exact ⟨k, T, by go_num, HPN, rfl, hs⟩
        ·have hsi := hfr.si
         have HFR := Lib.hid hfr
         have HSI := Lib.hid hsi
         clear hfr hsi
         go_wp2_with fail
         refine Round.intro (phi T2.ov M.N) ?measure6 (by kernel_rfl) (hJ3 _ _ _ ?rel6)
         case' rel6 => (try dsimp only [nthV])
         case measure6 => have := HG2.out; have := HSI.out.2.1; omega
         case rel6 => exact ⟨T2, Lib.hid ⟨HSI.out.1, by have := HSI.out.2.1; have := HSI.out.2.2.2; have := HT.out.2.1; omega, fun X q => HT.out.2.2 X (Fills.step HFR.out q)⟩, rfl, hs⟩
end Go.Proofs.Ytjijhpflkkicaaa
