/-
  The law SolveMore, walked.
-/
import Derived.Test.YtacbfpgijmpilaaSWk
import Derived.Test.YtacbfpgijmpilaaSCopy
import Derived.Test.YtacbfpgijmpilaaSI
set_option linter.unusedVariables false
set_option linter.unusedSimpArgs false
namespace Go.Proofs.Ytacbfpgijmpilaa
open Go Go.RowKit Go.Mem Go.NetP Go.RestP Go.CertP Go.PathP Go.SolveP Go.Shelf
theorem rright_l (nn : Int) (a : Option Addr) (c : Nat) (es : List Ed) (l : Nat) (w : World) (hl : es.length = l) (h : RdG edR w (.slice a l c) es) :
    Calls Try.prog 12 #[.agg #[.int .i64 nn, .slice a l c]] w fun en w' => en = .returned (.bool (rightB nn es)) ∧ Below w.heap.size w w' := by
  subst hl; exact rright_any nn a c es w h
theorem rcost_l (nn : Int) (a : Option Addr) (c : Nat) (es : List Ed) (l : Nat) (v : Value) (fl : List Int) (w : World) (hl : es.length = l) (h : RdG edR w (.slice a l c) es) (h' : Rd .i64 w v fl) :
    Calls Try.prog 16 #[.agg #[.int .i64 nn, .slice a l c], v] w fun en w' => en = .returned (.int .i64 (costV nn es fl)) ∧ Below w.heap.size w w' := by
  subst hl; exact rcost_any nn a c es v fl w h h'
theorem best_l (nn : Int) (a : Option Addr) (c : Nat) (es : List Ed) (l : Nat) (w : World) (hl : es.length = l) (h : RdG edR w (.slice a l c) es) (hr : rightB nn es = true) :
    Calls Try.prog 10 #[.agg #[.int .i64 nn, .slice a l c]] w fun e w' => ∃ af cf ap cp fl pot st, checkB nn es fl pot = true ∧ e = .returned (.tuple #[.agg #[.slice af (fl : List Int).length cf, .slice ap (pot : List Int).length cp], .int .i64 st, .int .i64 0]) ∧
      Sep w w' [intsT .i64 2 (.slice af fl.length cf) fl, intsT .i64 2 (.slice ap pot.length cp) pot] := by
  subst hl
  refine (best_uni nn a c es w h).mono ?_
  rintro e w' ⟨af, cf, ap, cp, fl, pot, st, er, hbd, rfl, hs⟩
  obtain ⟨rfl, hck, _⟩ := hbd.yes hr
  exact ⟨af, cf, ap, cp, fl, pot, st, hck, rfl, hs⟩
set_option maxRecDepth 100000 in
set_option maxHeartbeats 4000000 in
theorem solveMore_any (nn : Int) (a : Option Addr) (c : Nat) (es : List Ed) (x y : Int) (w : World) (h : RdG edR w (.slice a es.length c) es) (hx : 0 ≤ x ∧ x ≤ 255) (hy : 0 ≤ y ∧ y ≤ 65535) :
    Calls Try.prog 5 #[.agg #[.int .i64 nn, .slice a es.length c], .int .u8 x, .int .u16 y] w fun en w' => en = .returned (.bool true) ∧ Below w.heap.size w w' := by
  obtain ⟨e0, he0, he1, he2, he3⟩ := info_parts Try.infoEdgb
  have hle := h.le'
  have hs := (Sep.start w).newCells #[.int .i64 nn, .slice a es.length c] 24
  obtain ⟨B1, hB⟩ : ∃ B1, B1 = w.heap.size := ⟨_, rfl⟩
  rw [← hB] at hs
  have n0 := cell_of (hs.cells 0 rfl) 0
  have n1 := cell_of (hs.cells 0 rfl) 1
  simp only [List.getElem?_toArray, List.getElem?_cons_zero, List.getElem?_cons_succ] at n0 n1
  by_cases hout : 100 < es.length ∨ es.length = 0
  · have hbo : (decide (100 < (es.length : Int)) || ((es.length : Int) == 0)) = true := by
      rcases hout with q | q
      · simp; omega
      · simp [q]
    by_cases k0 : 100 < es.length
    · have d0 : decide (100 < (es.length : Int)) = true := decide_eq_true (by omega)
      clear hbo hout
      go_enter Try.func5, Try.ntmps5
      go_wp2_with fail
      (try rw [← hB])
      clear hB
      refine (works_any _).mono ?_
      rintro en w2 ⟨rfl, hb⟩
      have hs2 := hs.belowStep hb
      clear hs hb n0 n1
      go_wp2_with fail
      go_ret
      exact ⟨rfl, hs2.below⟩
    · have d0 : decide (100 < (es.length : Int)) = false := decide_eq_false (by omega)
      have d1 : ((es.length : Int) == 0) = true := beq_iff_eq.2 (by omega)
      clear hbo hout
      go_enter Try.func5, Try.ntmps5
      go_wp2_with fail
      (try rw [← hB])
      clear hB
      refine (works_any _).mono ?_
      rintro en w2 ⟨rfl, hb⟩
      have hs2 := hs.belowStep hb
      clear hs hb n0 n1
      go_wp2_with fail
      go_ret
      exact ⟨rfl, hs2.below⟩
  have hl0 : 0 < es.length := by omega
  have hl1 : es.length ≤ 100 := by omega
  have d0 : decide (100 < (es.length : Int)) = false := decide_eq_false (by omega)
  have d1 : ((es.length : Int) == 0) = false := beq_eq_false_iff_ne.2 (by omega)
  clear hout
  cases hr : rightB nn es
  · have HR := Lib.hid hr
    clear hr
    go_enter Try.func5, Try.ntmps5
    go_wp2_with fail
    (try rw [← hB])
    clear hB
    refine (rright_any nn a c es _ (hs.rdG h)).mono ?_
    rintro en w1 ⟨rfl, hb⟩
    rw [HR.out]
    have hs1 := hs.belowStep hb
    clear hs hb n0 n1
    go_wp2_with fail
    refine (works_any _).mono ?_
    rintro en w2 ⟨rfl, hb⟩
    have hs2 := hs1.belowStep hb
    clear hs1 hb
    go_wp2_with fail
    go_ret
    exact ⟨rfl, hs2.below⟩
  have HR := Lib.hid hr
  clear hr
  go_enter Try.func5, Try.ntmps5
  go_wp2_with fail
  (try rw [← hB])
  clear hB
  refine (rright_any nn a c es _ (hs.rdG h)).mono ?_
  rintro en w1 ⟨rfl, hb⟩
  rw [HR.out]
  have hs1 := hs.belowStep hb
  clear hs hb n0 n1
  have hs := hs1
  clear hs1
  have n0 := cell_of (hs.cells 0 rfl) 0
  have n1 := cell_of (hs.cells 0 rfl) 1
  simp only [List.getElem?_toArray, List.getElem?_cons_zero, List.getElem?_cons_succ] at n0 n1
  go_wp2_with fail
  refine (best_uni nn a c es _ (hs.rdG h)).mono ?_
  rintro en w3 ⟨af, cf, ap, cp, fl, pot, st, er, hbd, rfl, k1⟩
  obtain ⟨rfl, hck, _, _, hfl⟩ := hbd.yes HR.out
  clear hfl hbd
  have HCK := Lib.hid hck
  clear hck
  have hs4 := (hs.join k1).newCells #[.slice af fl.length cf, .slice ap pot.length cp] 29
  simp only [List.cons_append, List.nil_append] at hs4
  clear hs k1 n0 n1
  go_upto_region 4 with fail
  obtain ⟨B4, hB4⟩ : ∃ B4, B4 = w3.heap.size := ⟨_, rfl⟩
  rw [← hB4] at hs4 ⊢
  clear hB4
  generalize World.alloc w3 _ = W4 at hs4 ⊢
  have hs := hs4
  clear hs4
  obtain ⟨L0, hL0⟩ : ∃ L0, L0 = [cellsT B4 #[.slice af fl.length cf, .slice ap pot.length cp] 29, intsT .i64 2 (.slice af fl.length cf) fl, intsT .i64 2 (.slice ap pot.length cp) pot, cellsT B1 #[.int .i64 nn, .slice a es.length c] 24] := ⟨_, rfl⟩
  rw [← hL0] at hs
  have HNET := Lib.hid (show L0[3]? = some (cellsT B1 #[.int .i64 nn, .slice a es.length c] 24) by rw [hL0]; rfl)
  have HLD := Lib.hid hL0
  clear hL0
  go_upto_region 7 with fail
  refine Mix4.region (m := 9) [1, 1, 2, 1, 1, 2, 1, 2, 2] (CJ B1 nn c a es w L0) (by kernel_rfl) (by kernel_rfl) ?hJ7 ?hstep7 ?hfin7
  case hJ7 => exact ⟨hs.drew, by intro k q; (cases q), by intro k q; (cases q)⟩
  case hstep7 =>
    clear hs
    intro i o ho him dn v W ρ hdn hdeps hcl hJ hev hbase hcst
    have hF := hJ.fact
    have n0 := cell_of (hJ.at0 _ HNET.out) 0
    have n1 := cell_of (hJ.at0 _ HNET.out) 1
    simp only [List.getElem?_toArray, List.getElem?_cons_zero, List.getElem?_cons_succ] at n0 n1
    rcases i with _ | _ | _ | _ | _ | _ | _ | _ | _ | i
    all_goals first | omega | skip
    · obtain rfl := Option.some.inj ho
      have e0 := hbase 3 (by kernel_rfl) (by show (3 : Nat) < 156; decide)
      refine outR_of (v := (.pointer (some ⟨B1, 0, none⟩))) (w' := W) ?_ (hJ.pure hdn (by decide) (by intro j hj; (try cases hj)) _ (by first | rfl | exact rfl))
      unfold execOp
      simp only [e0]
      go_simp
    · obtain rfl := Option.some.inj ho
      have d0 : dn 0 = true := hdeps { on := 0, ground := .data } (by simp) (by rfl)
      have e0 := (hev 45 0 (by kernel_rfl) d0 (by show (45 : Nat) < 156; decide)).trans (hF 0 d0)
      refine outR_of (v := (.int .i64 nn)) (w' := W) ?_ (hJ.pure hdn (by decide) (by intro j hj; (try cases hj)) _ (by first | rfl | exact rfl))
      unfold execOp
      simp only [e0]
      go_simp
    · have h5 : dn 5 = false := by
        cases hq : dn 5
        · rfl
        · have := hcl 5 _ rfl hq { on := 2, ground := .data } (by simp) (by rfl)
          rw [hdn] at this; cases this
      obtain rfl := Option.some.inj ho
      refine outR_of (v := .slice (some ⟨W.heap.size, 0, none⟩) 0 0) (w' := W.alloc (.cells #[] 34)) ?_ (hJ.lit hdn h5)
      unfold execOp
      go_simp
    · obtain rfl := Option.some.inj ho
      have e0 := hbase 3 (by kernel_rfl) (by show (3 : Nat) < 156; decide)
      refine outR_of (v := (.pointer (some ⟨B1, 1, none⟩))) (w' := W) ?_ (hJ.pure hdn (by decide) (by intro j hj; (try cases hj)) _ (by first | rfl | exact rfl))
      unfold execOp
      simp only [e0]
      go_simp
    · obtain rfl := Option.some.inj ho
      have d0 : dn 3 = true := hdeps { on := 3, ground := .data } (by simp) (by rfl)
      have e0 := (hev 48 3 (by kernel_rfl) d0 (by show (48 : Nat) < 156; decide)).trans (hF 3 d0)
      refine outR_of (v := (.slice a es.length c)) (w' := W) ?_ (hJ.pure hdn (by decide) (by intro j hj; (try cases hj)) _ (by first | rfl | exact rfl))
      unfold execOp
      simp only [e0]
      go_simp
    · have d0 : dn 2 = true := hdeps { on := 2, ground := .data } (by rw [← Option.some.inj ho]; simp) (by rfl)
      have d1 : dn 4 = true := hdeps { on := 4, ground := .data } (by rw [← Option.some.inj ho]; simp) (by rfl)
      obtain ⟨g, hg⟩ := hF 2 d0
      have e0' := (hev 47 2 (by kernel_rfl) d0 (by show (47 : Nat) < 156; decide)).trans hg
      have e1' := (hev 49 4 (by kernel_rfl) d1 (by show (49 : Nat) < 156; decide)).trans (hF 4 d1)
      obtain ⟨g', c', W', hr, hs'⟩ := exec_appNew (P := Try.prog) (ρ := ρ) (w := W) edR o (.tmp 47) (.tmp 49) 22 (by rw [← Option.some.inj ho]) 34 e0 _ 32 Try.underlying22 he0 he1 he2 he3 rfl g _ es hJ.sep 0 (CJ.at5 d0 hdn hg) (hJ.sep.rdG h) e0' e1' (by unfold maxLen; omega) (by omega)
      exact outR_of hr (hJ.app d0 hdn hs')
    · obtain rfl := Option.some.inj ho
      have d0 : dn 1 = true := hdeps { on := 1, ground := .data } (by simp) (by rfl)
      have e0 := (hev 46 1 (by kernel_rfl) d0 (by show (46 : Nat) < 156; decide)).trans (hF 1 d0)
      have d1 : dn 5 = true := hdeps { on := 5, ground := .data } (by simp) (by rfl)
      have e1 := hev 50 5 (by kernel_rfl) d1 (by show (50 : Nat) < 156; decide)
      refine outR_of (v := .agg #[.int .i64 nn, v 5]) (w' := W) ?_ (hJ.pure hdn (by decide) (by intro j hj; simp only [useC, List.mem_cons, List.not_mem_nil, or_false] at hj; subst hj; exact d1) _ rfl)
      obtain ⟨g, c', h5⟩ := hF 5 d1
      rw [h5] at e1 ⊢
      unfold execOp
      simp only [e0, e1, List.map_toArray, List.map_cons, List.map_nil]
      go_simp
    · obtain rfl := Option.some.inj ho
      refine outR_of (v := .pointer (some ⟨W.heap.size, 0, none⟩)) (w' := W.alloc (.cells #[.int .i64 0, .slice none 0 0] 24)) ?_ (hJ.net hdn)
      unfold execOp
      go_simp
    · obtain rfl := Option.some.inj ho
      have d6 : dn 6 = true := hdeps { on := 6, ground := .data } (by simp) (by rfl)
      have d7 : dn 7 = true := hdeps { on := 7, ground := .data } (by simp) (by rfl)
      have d5 : dn 5 = true := hJ.use_ 6 d6 5 (by decide)
      obtain ⟨g, hg⟩ := hF 7 d7
      have e0 := (hev 11 7 (by kernel_rfl) d7 (by show (11 : Nat) < 156; decide)).trans hg
      have e1 := (hev 51 6 (by kernel_rfl) d6 (by show (51 : Nat) < 156; decide)).trans (hF 6 d6)
      obtain ⟨g5, c5, h5⟩ := hF 5 d5
      have y0 := cell_of (hJ.sep.cells 1 (CJ.at7 d7 hdn d5 hg)) 0
      have y1 := cell_of (hJ.sep.cells 1 (CJ.at7 d7 hdn d5 hg)) 1
      simp only [List.getElem?_toArray, List.getElem?_cons_zero, List.getElem?_cons_succ] at y0 y1
      have yf := fun j => frozen_of (hJ.sep.cells 1 (CJ.at7 d7 hdn d5 hg)) j
      refine outR_skp (w' := (W.setCell ⟨g, 0, none⟩ (.int .i64 nn)).setCell ⟨g, 1, none⟩ (v 5)) ?_ (hJ.store d5 d6 d7 hdn hg)
      rw [h5] at e1 ⊢
      unfold execOp
      simp only [e0, e1]
      go_simp
  case hfin7 =>
    intro v W hJ
    have hF := hJ.fact
    have hsp := hJ.sep
    clear hJ hs
    have q0 := hF 0 rfl
    have q1 := hF 1 rfl
    obtain ⟨g2, q2⟩ := hF 2 rfl
    have q3 := hF 3 rfl
    have q4 := hF 4 rfl
    obtain ⟨gM, cM, q5⟩ := hF 5 rfl
    have q6 := hF 6 rfl
    obtain ⟨BM, q7⟩ := hF 7 rfl
    simp only [FC] at q0 q1 q3 q4 q6
    clear hF
    replace hsp : Sep w W (recT edR 34 (v 5) es :: cellsT (ptrB (v 7)) #[.int .i64 nn, v 5] 24 :: L0) := hsp
    rw [q5, q7] at hsp
    rw [q5] at q6
    simp only [ptrB] at hsp
    refine ⟨fun _ => True, trivial, ?_⟩
    simp only [Mix3.actD, Mix3.apD, q0, q1, q2, q3, q4, q5, q6, q7, Nat.zero_add, Nat.reduceAdd, show ∀ a b, Nat.blt a b = decide (a < b) from fun a b => by rw [Bool.eq_iff_iff, Nat.blt_eq, decide_eq_true_eq], Nat.reduceLT, decide_true, decide_false, if_true, Bool.false_eq_true, if_false, List.setIfInBounds_toArray, List.set_cons_zero, List.set_cons_succ]
    clear q0 q1 q2 q3 q4 q5 q6 q7
    clear v
    simp only [List.zip_cons_cons, List.zip_nil_right, List.drop_succ_cons, List.drop_zero]
    refine Mix.done ?_
    have hs := hsp
    clear hsp
    rw [HLD.out] at hs
    clear HLD HNET
    clear L0
    obtain ⟨L0, hL0⟩ : ∃ L0, L0 = [recT edR 34 (.slice (some ⟨gM, 0, none⟩) es.length cM) es, cellsT BM #[.int .i64 nn, .slice (some ⟨gM, 0, none⟩) es.length cM] 24, cellsT B4 #[.slice af fl.length cf, .slice ap pot.length cp] 29, intsT .i64 2 (.slice af fl.length cf) fl, intsT .i64 2 (.slice ap pot.length cp) pot, cellsT B1 #[.int .i64 nn, .slice a es.length c] 24] := ⟨_, rfl⟩
    rw [← hL0] at hs
    have HNET := Lib.hid (show L0[5]? = some (cellsT B1 #[.int .i64 nn, .slice a es.length c] 24) by rw [hL0]; rfl)
    have HLD := Lib.hid hL0
    clear hL0
    go_upto_region 8 with fail
    refine Mix4.region (m := 9) [1, 1, 2, 1, 1, 2, 1, 2, 2] (CJ B1 nn c a es w L0) (by kernel_rfl) (by kernel_rfl) ?hJ8 ?hstep8 ?hfin8
    case hJ8 => exact ⟨hs.drew, by intro k q; (cases q), by intro k q; (cases q)⟩
    case hstep8 =>
      clear hs
      intro i o ho him dn v W ρ hdn hdeps hcl hJ hev hbase hcst
      have hF := hJ.fact
      have n0 := cell_of (hJ.at0 _ HNET.out) 0
      have n1 := cell_of (hJ.at0 _ HNET.out) 1
      simp only [List.getElem?_toArray, List.getElem?_cons_zero, List.getElem?_cons_succ] at n0 n1
      rcases i with _ | _ | _ | _ | _ | _ | _ | _ | _ | i
      all_goals first | omega | skip
      · obtain rfl := Option.some.inj ho
        have e0 := hbase 3 (by kernel_rfl) (by show (3 : Nat) < 156; decide)
        refine outR_of (v := (.pointer (some ⟨B1, 0, none⟩))) (w' := W) ?_ (hJ.pure hdn (by decide) (by intro j hj; (try cases hj)) _ (by first | rfl | exact rfl))
        unfold execOp
        simp only [e0]
        go_simp
      · obtain rfl := Option.some.inj ho
        have d0 : dn 0 = true := hdeps { on := 0, ground := .data } (by simp) (by rfl)
        have e0 := (hev 52 0 (by kernel_rfl) d0 (by show (52 : Nat) < 156; decide)).trans (hF 0 d0)
        refine outR_of (v := (.int .i64 nn)) (w' := W) ?_ (hJ.pure hdn (by decide) (by intro j hj; (try cases hj)) _ (by first | rfl | exact rfl))
        unfold execOp
        simp only [e0]
        go_simp
      · have h5 : dn 5 = false := by
          cases hq : dn 5
          · rfl
          · have := hcl 5 _ rfl hq { on := 2, ground := .data } (by simp) (by rfl)
            rw [hdn] at this; cases this
        obtain rfl := Option.some.inj ho
        refine outR_of (v := .slice (some ⟨W.heap.size, 0, none⟩) 0 0) (w' := W.alloc (.cells #[] 34)) ?_ (hJ.lit hdn h5)
        unfold execOp
        go_simp
      · obtain rfl := Option.some.inj ho
        have e0 := hbase 3 (by kernel_rfl) (by show (3 : Nat) < 156; decide)
        refine outR_of (v := (.pointer (some ⟨B1, 1, none⟩))) (w' := W) ?_ (hJ.pure hdn (by decide) (by intro j hj; (try cases hj)) _ (by first | rfl | exact rfl))
        unfold execOp
        simp only [e0]
        go_simp
      · obtain rfl := Option.some.inj ho
        have d0 : dn 3 = true := hdeps { on := 3, ground := .data } (by simp) (by rfl)
        have e0 := (hev 55 3 (by kernel_rfl) d0 (by show (55 : Nat) < 156; decide)).trans (hF 3 d0)
        refine outR_of (v := (.slice a es.length c)) (w' := W) ?_ (hJ.pure hdn (by decide) (by intro j hj; (try cases hj)) _ (by first | rfl | exact rfl))
        unfold execOp
        simp only [e0]
        go_simp
      · have d0 : dn 2 = true := hdeps { on := 2, ground := .data } (by rw [← Option.some.inj ho]; simp) (by rfl)
        have d1 : dn 4 = true := hdeps { on := 4, ground := .data } (by rw [← Option.some.inj ho]; simp) (by rfl)
        obtain ⟨g, hg⟩ := hF 2 d0
        have e0' := (hev 54 2 (by kernel_rfl) d0 (by show (54 : Nat) < 156; decide)).trans hg
        have e1' := (hev 56 4 (by kernel_rfl) d1 (by show (56 : Nat) < 156; decide)).trans (hF 4 d1)
        obtain ⟨g', c', W', hr, hs'⟩ := exec_appNew (P := Try.prog) (ρ := ρ) (w := W) edR o (.tmp 54) (.tmp 56) 22 (by rw [← Option.some.inj ho]) 34 e0 _ 32 Try.underlying22 he0 he1 he2 he3 rfl g _ es hJ.sep 0 (CJ.at5 d0 hdn hg) (hJ.sep.rdG h) e0' e1' (by unfold maxLen; omega) (by omega)
        exact outR_of hr (hJ.app d0 hdn hs')
      · obtain rfl := Option.some.inj ho
        have d0 : dn 1 = true := hdeps { on := 1, ground := .data } (by simp) (by rfl)
        have e0 := (hev 53 1 (by kernel_rfl) d0 (by show (53 : Nat) < 156; decide)).trans (hF 1 d0)
        have d1 : dn 5 = true := hdeps { on := 5, ground := .data } (by simp) (by rfl)
        have e1 := hev 57 5 (by kernel_rfl) d1 (by show (57 : Nat) < 156; decide)
        refine outR_of (v := .agg #[.int .i64 nn, v 5]) (w' := W) ?_ (hJ.pure hdn (by decide) (by intro j hj; simp only [useC, List.mem_cons, List.not_mem_nil, or_false] at hj; subst hj; exact d1) _ rfl)
        obtain ⟨g, c', h5⟩ := hF 5 d1
        rw [h5] at e1 ⊢
        unfold execOp
        simp only [e0, e1, List.map_toArray, List.map_cons, List.map_nil]
        go_simp
      · obtain rfl := Option.some.inj ho
        refine outR_of (v := .pointer (some ⟨W.heap.size, 0, none⟩)) (w' := W.alloc (.cells #[.int .i64 0, .slice none 0 0] 24)) ?_ (hJ.net hdn)
        unfold execOp
        go_simp
      · obtain rfl := Option.some.inj ho
        have d6 : dn 6 = true := hdeps { on := 6, ground := .data } (by simp) (by rfl)
        have d7 : dn 7 = true := hdeps { on := 7, ground := .data } (by simp) (by rfl)
        have d5 : dn 5 = true := hJ.use_ 6 d6 5 (by decide)
        obtain ⟨g, hg⟩ := hF 7 d7
        have e0 := (hev 12 7 (by kernel_rfl) d7 (by show (12 : Nat) < 156; decide)).trans hg
        have e1 := (hev 58 6 (by kernel_rfl) d6 (by show (58 : Nat) < 156; decide)).trans (hF 6 d6)
        obtain ⟨g5, c5, h5⟩ := hF 5 d5
        have y0 := cell_of (hJ.sep.cells 1 (CJ.at7 d7 hdn d5 hg)) 0
        have y1 := cell_of (hJ.sep.cells 1 (CJ.at7 d7 hdn d5 hg)) 1
        simp only [List.getElem?_toArray, List.getElem?_cons_zero, List.getElem?_cons_succ] at y0 y1
        have yf := fun j => frozen_of (hJ.sep.cells 1 (CJ.at7 d7 hdn d5 hg)) j
        refine outR_skp (w' := (W.setCell ⟨g, 0, none⟩ (.int .i64 nn)).setCell ⟨g, 1, none⟩ (v 5)) ?_ (hJ.store d5 d6 d7 hdn hg)
        rw [h5] at e1 ⊢
        unfold execOp
        simp only [e0, e1]
        go_simp
    case hfin8 =>
      intro v W hJ
      have hF := hJ.fact
      have hsp := hJ.sep
      clear hJ hs
      have q0 := hF 0 rfl
      have q1 := hF 1 rfl
      obtain ⟨g2, q2⟩ := hF 2 rfl
      have q3 := hF 3 rfl
      have q4 := hF 4 rfl
      obtain ⟨gT, cT, q5⟩ := hF 5 rfl
      have q6 := hF 6 rfl
      obtain ⟨BT, q7⟩ := hF 7 rfl
      simp only [FC] at q0 q1 q3 q4 q6
      clear hF
      replace hsp : Sep w W (recT edR 34 (v 5) es :: cellsT (ptrB (v 7)) #[.int .i64 nn, v 5] 24 :: L0) := hsp
      rw [q5, q7] at hsp
      rw [q5] at q6
      simp only [ptrB] at hsp
      refine ⟨fun _ => True, trivial, ?_⟩
      simp only [Mix3.actD, Mix3.apD, q0, q1, q2, q3, q4, q5, q6, q7, Nat.zero_add, Nat.reduceAdd, show ∀ a b, Nat.blt a b = decide (a < b) from fun a b => by rw [Bool.eq_iff_iff, Nat.blt_eq, decide_eq_true_eq], Nat.reduceLT, decide_true, decide_false, if_true, Bool.false_eq_true, if_false, List.setIfInBounds_toArray, List.set_cons_zero, List.set_cons_succ]
      clear q0 q1 q2 q3 q4 q5 q6 q7
      clear v
      simp only [List.zip_cons_cons, List.zip_nil_right, List.drop_succ_cons, List.drop_zero]
      refine Mix.done ?_
      have hs := hsp
      clear hsp
      rw [HLD.out] at hs
      clear HLD HNET
      clear L0
      go_wp2_with fail
      refine wp_loopM [none, none, none, none, none, none, none, none, none, none, some 10, none, none, some 13, none, none, none, none, none, none, none, none, none, none, none, none, none, none, none, none, none, none, none, none, none, none, none, none, none, none, none, none, none, none, none, none, none, none, none, none, none, none, none, none, none, none, none, none, none, some 59, some 60, some 61, some 62, some 63, some 64, some 65, some 66, some 67, some 68, some 69, some 70, some 71, some 72, some 73, some 74, some 75, some 76, some 77, some 78, some 79, some 80, some 81, some 82, some 83, some 84, some 85, some 86, some 87, none, none, none, none, none, none, none, none, none, none, none, none, none, none, none, none, none, none, none, none, none, none, none, none, none, none, none, none, none, none, none, none, none, none, none, none, none, none, none, none, none, none, none, none, none, none, none, none, none, none, none, none, none, none, none, none, none, none, none, none, none, none, none, none, none, none, none, none] (fun (r : Nat) (f : Nat → Value) (wr : World) => (fun (v vl : Value) => ∃ i : Nat, v = .int .i64 i ∧ vl = .bool (lowF es i) ∧ i ≤ es.length ∧ r = es.length - i ∧ Sep w wr [recT edR 34 (.slice (some ⟨gT, 0, none⟩) es.length cT) (twK es i), cellsT BT #[.int .i64 nn, .slice (some ⟨gT, 0, none⟩) es.length cT] 24, recT edR 34 (.slice (some ⟨gM, 0, none⟩) es.length cM) es, cellsT BM #[.int .i64 nn, .slice (some ⟨gM, 0, none⟩) es.length cM] 24, cellsT B4 #[.slice af fl.length cf, .slice ap pot.length cp] 29, intsT .i64 2 (.slice af fl.length cf) fl, intsT .i64 2 (.slice ap pot.length cp) pot, cellsT B1 #[.int .i64 nn, .slice a es.length c] 24]) (f 13) (f 10)) (es.length) (by kernel_rfl) ?atStart1 ?round1
      case' atStart1 => (try dsimp only [nthV])
      case' round1 =>
        intro gk f wr l hl hrel J1 K1 hJ1 hK1
        (try simp only [mask] at hl)
        generalize f 13 = u13 at hl hrel
        generalize f 10 = u10 at hl hrel
        subst hl
        (try dsimp only at hrel)
      case atStart1 => exact ⟨0, rfl, rfl, Nat.zero_le _, rfl, by rw [twK_zero]; exact hs⟩
      case round1 =>
        clear hs
        obtain ⟨i, rfl, rfl, hi, rfl, hs⟩ := hrel
        have n0 := cell_of (hs.cells 7 rfl) 0
        have n1 := cell_of (hs.cells 7 rfl) 1
        have t0 := cell_of (hs.cells 1 rfl) 0
        have t1 := cell_of (hs.cells 1 rfl) 1
        simp only [List.getElem?_toArray, List.getElem?_cons_zero, List.getElem?_cons_succ] at n0 n1 t0 t1
        by_cases hlt : i < es.length
        · skip
          obtain ⟨ba, oa, eqa, _, hca⟩ := (hs.rdG h).at i hlt
          subst eqa
          have hEe := (edgeB_iff _ _).1 ((right_cap HR.out).2.2.2.2 _ (List.getElem_mem hlt))
          rw [← edAt_of hlt] at hca hEe
          have x3 := hca 3 (by decide)
          simp only [edR, List.getElem?_cons_zero, List.getElem?_cons_succ] at x3
          have HTS := Lib.hid (twK_succ hlt)
          have HLS := Lib.hid (show lowF es (i + 1) = (lowF es i || decide ((edAt es i).k < 0)) from rfl)
          have HGE := Lib.hid (show edAt (twK es i) i = edAt es i by rw [edAt_of (by rw [twK_len]; exact hlt), twK_at hlt, if_neg (by omega)])
          obtain ⟨E, hE⟩ : ∃ E, E = edAt es i := ⟨_, rfl⟩
          rw [← hE] at x3 HTS HLS HGE hEe
          clear hca hE
          obtain ⟨ef, et, ec, ek⟩ := E
          dsimp only at x3 HTS HLS hEe
          obtain ⟨_, _, _, _, k0, k1⟩ := hEe
          obtain ⟨ge, ce, eqe, _, hce, hfe⟩ := (hs.recs 0 rfl).get i (by rw [twK_len]; exact hlt)
          injection eqe with eqe q1 q2
          injection eqe with eqe
          injection eqe with eqe
          subst eqe
          have y3 := hce i (by rw [twK_len]; exact hlt) 3 (by decide)
          rw [← edAt_of (by rw [twK_len]; exact hlt), HGE.out] at y3
          simp only [edR, List.getElem?_cons_zero, List.getElem?_cons_succ] at y3
          have wf := hfe (i * 4 + 3)
          clear q1 q2 hce
          have hiI : (i : Int) < es.length := by omega
          have hs2 := show Mem.Sep w (wr.setCell ⟨gT, i * 4 + 3, none⟩ (.int .i64 (2 * ek))) _ from hs.setRec 0 rfl i (by rw [twK_len]; exact hlt) 3 (by decide) ⟨ef, et, ec, 2 * ek⟩ (.int .i64 (2 * ek)) (by rw [← edAt_of (by rw [twK_len]; exact hlt), HGE.out]; rfl)
          simp only [List.set_cons_zero, List.set_cons_succ] at hs2
          rw [HTS.out] at hs2
          cases hlo : lowF es i
          · rw [hlo, Bool.false_or] at HLS
            clear hlo
            cases hk : decide (ek < 0)
            · rw [hk] at HLS
              go_wp2_with fail
              refine Mix.region [0, 0, 0, 0, 0, 0, 0, 0, 0, 0, 0, 0, 2] (fun _ => True) (by kernel_rfl) (by kernel_rfl) trivial ?_
              simp only [List.zip_cons_cons, List.zip_nil_right]
              iterate 12 (refine Mix.step0 fun K hK => ?_; go_simp; (try (go_bits; try go_simp)); first | ((with_reducible refine hK _ _ ?_); clear hK K) | ((try (simp only [IntWalk.iteOmega]; try go_simp)); (try go_bits); (with_reducible refine hK _ _ ?_); clear hK K))
              refine Mix.step2n (by first | rfl | simp [Region.wanted, yielded]) fun K hK => ?_
              go_wp2_with fail
              refine Mix.post_mk (C := (fun _ => True)) trivial (hK _ _ ?_)
              clear hK K
              refine Mix.done ?_
              go_wp2_with fail
              refine Round.intro (es.length - (i + 1)) ?measure2 (by kernel_rfl) (hJ1 _ _ _ ?rel2)
              case' rel2 => (try dsimp only [nthV])
              case measure2 => omega
              case rel2 => exact ⟨i + 1, by go_num, by rw [HLS.out], hlt, rfl, hs2.drew⟩
            · rw [hk] at HLS
              go_wp2_with fail
              refine Mix.region [0, 0, 0, 0, 0, 0, 0, 0, 0, 0, 0, 0, 2] (fun _ => True) (by kernel_rfl) (by kernel_rfl) trivial ?_
              simp only [List.zip_cons_cons, List.zip_nil_right]
              iterate 12 (refine Mix.step0 fun K hK => ?_; go_simp; (try (go_bits; try go_simp)); first | ((with_reducible refine hK _ _ ?_); clear hK K) | ((try (simp only [IntWalk.iteOmega]; try go_simp)); (try go_bits); (with_reducible refine hK _ _ ?_); clear hK K))
              refine Mix.step2n (by first | rfl | simp [Region.wanted, yielded]) fun K hK => ?_
              go_wp2_with fail
              refine Mix.post_mk (C := (fun _ => True)) trivial (hK _ _ ?_)
              clear hK K
              refine Mix.done ?_
              go_wp2_with fail
              refine Round.intro (es.length - (i + 1)) ?measure3 (by kernel_rfl) (hJ1 _ _ _ ?rel3)
              case' rel3 => (try dsimp only [nthV])
              case measure3 => omega
              case rel3 => exact ⟨i + 1, by go_num, by rw [HLS.out], hlt, rfl, hs2.drew⟩
          · rw [hlo, Bool.true_or] at HLS
            clear hlo
            go_wp2_with fail
            refine Mix.region [0, 0, 0, 0, 0, 0, 0, 0, 0, 0, 0, 0, 2] (fun _ => True) (by kernel_rfl) (by kernel_rfl) trivial ?_
            simp only [List.zip_cons_cons, List.zip_nil_right]
            iterate 12 (refine Mix.step0 fun K hK => ?_; go_simp; (try (go_bits; try go_simp)); first | ((with_reducible refine hK _ _ ?_); clear hK K) | ((try (simp only [IntWalk.iteOmega]; try go_simp)); (try go_bits); (with_reducible refine hK _ _ ?_); clear hK K))
            refine Mix.step2n (by first | rfl | simp [Region.wanted, yielded]) fun K hK => ?_
            go_wp2_with fail
            refine Mix.post_mk (C := (fun _ => True)) trivial (hK _ _ ?_)
            clear hK K
            refine Mix.done ?_
            go_wp2_with fail
            refine Round.intro (es.length - (i + 1)) ?measure4 (by kernel_rfl) (hJ1 _ _ _ ?rel4)
            case' rel4 => (try dsimp only [nthV])
            case measure4 => omega
            case rel4 => exact ⟨i + 1, by go_num, by rw [HLS.out], hlt, rfl, hs2.drew⟩
        · obtain rfl : i = es.length := by omega
          rw [twK_end] at hs
          clear t0 t1 n0 n1
          have n0 := cell_of (hs.cells 7 rfl) 0
          have n1 := cell_of (hs.cells 7 rfl) 1
          have c0 := cell_of (hs.cells 4 rfl) 0
          have m0 := cell_of (hs.cells 3 rfl) 0
          have m1 := cell_of (hs.cells 3 rfl) 1
          have t0 := cell_of (hs.cells 1 rfl) 0
          have t1 := cell_of (hs.cells 1 rfl) 1
          simp only [List.getElem?_toArray, List.getElem?_cons_zero, List.getElem?_cons_succ] at n0 n1 c0 m0 m1 t0 t1
          go_wp2_with fail
          refine (rcost_any nn a c es _ fl _ (hs.rdG h) (hs.rdInts 5 rfl)).mono ?_
          rintro en w5 ⟨rfl, hb⟩
          have hs2 := hs.belowStep hb
          clear hs hb n0 n1 c0 m0 m1 t0 t1
          have hs := hs2
          clear hs2
          have n0 := cell_of (hs.cells 7 rfl) 0
          have n1 := cell_of (hs.cells 7 rfl) 1
          have c0 := cell_of (hs.cells 4 rfl) 0
          have m0 := cell_of (hs.cells 3 rfl) 0
          have m1 := cell_of (hs.cells 3 rfl) 1
          have t0 := cell_of (hs.cells 1 rfl) 0
          have t1 := cell_of (hs.cells 1 rfl) 1
          simp only [List.getElem?_toArray, List.getElem?_cons_zero, List.getElem?_cons_succ] at n0 n1 c0 m0 m1 t0 t1
          clear hi hlt
          have hcap : ∀ j, j < es.length → 0 ≤ (edAt es j).c ∧ (edAt es j).c ≤ 4503599627370496 := fun j hj => by
            have := (edgeB_iff _ _).1 ((right_cap HR.out).2.2.2.2 _ (List.getElem_mem hj))
            rw [edAt_of hj]; omega
          have HCAP := Lib.hid hcap
          obtain ⟨ct0, ct1⟩ := cost_tests HCK.out HR.out
          have HB := Lib.hid (cost_bound2 (flows_iff.1 (check_flows HCK.out)).1)
          obtain ⟨K, hK⟩ : ∃ K, K = costV nn es fl := ⟨_, rfl⟩
          rw [← hK] at ct0 ct1 HB ⊢
          have HK := Lib.hid hK
          clear hK hcap
          obtain ⟨X, rfl⟩ : ∃ X : Nat, x = X := ⟨x.toNat, by omega⟩
          have hXl : X % es.length < es.length := Nat.mod_lt _ hl0
          have hm0 : (0 : Int) ≤ (X : Int) % es.length := by omega
          have hm1 : (X : Int) % es.length < es.length := by omega
          have hm2 : ¬ es = [] := by intro q; rw [q] at hl0; cases hl0
          cases hlo : lowF es es.length
          · obtain rfl := ct1 hlo
            clear hlo ct0 ct1
            go_wp2_with fail
            have HMD := Lib.hid (show moreL es (X % es.length) y = es.set (X % es.length) ⟨(edAt es (X % es.length)).f, (edAt es (X % es.length)).t, (edAt es (X % es.length)).c + y, (edAt es (X % es.length)).k⟩ from rfl)
            have HCJ := Lib.hid (HCAP.out (X % es.length) hXl)
            obtain ⟨ge, ce, eqe, _, hce, hfe⟩ := (hs.recs 2 rfl).get (X % es.length) hXl
            injection eqe with eqe q1 q2
            injection eqe with eqe
            injection eqe with eqe
            subst eqe
            have y2 := hce (X % es.length) hXl 2 (by decide)
            rw [← edAt_of hXl] at y2
            obtain ⟨E, hE⟩ : ∃ E, E = edAt es (X % es.length) := ⟨_, rfl⟩
            rw [← hE] at y2 HMD HCJ
            have hs2 := show Mem.Sep w (World.setCell _ ⟨gM, (X % es.length) * 4 + 2, none⟩ (.int .i64 (E.c + y))) _ from hs.setRec 2 rfl (X % es.length) hXl 2 (by decide) ⟨E.f, E.t, E.c + y, E.k⟩ (.int .i64 (E.c + y)) (by rw [← edAt_of hXl, ← hE]; rfl)
            simp only [List.set_cons_zero, List.set_cons_succ] at hs2
            rw [← HMD.out] at hs2
            clear hE q1 q2 hce
            obtain ⟨ef, et, ec, ek⟩ := E
            simp only [edR, List.getElem?_cons_zero, List.getElem?_cons_succ] at y2
            dsimp only at HCJ hs2
            have wf := hfe ((X % es.length) * 4 + 2)
            clear hfe HMD
            obtain ⟨p0, p1⟩ := HCJ.out
            clear HCJ
            refine Mix.region [0, 0, 0, 0, 0, 0, 0, 0, 0, 0, 0, 0, 0, 0, 0, 0, 2] (fun _ => True) (by kernel_rfl) (by kernel_rfl) trivial ?_
            simp only [List.zip_cons_cons, List.zip_nil_right]
            iterate 16 (refine Mix.step0 fun K hK => ?_; go_simp; (try (go_bits; try go_simp)); first | ((with_reducible refine hK _ _ ?_); clear hK K) | ((try (simp only [IntWalk.iteOmega]; try go_simp)); (try go_bits); (with_reducible refine hK _ _ ?_); clear hK K))
            refine Mix.step2n (by first | rfl | simp [Region.wanted, yielded]) fun K hK => ?_
            go_wp2_with fail
            refine Mix.post_mk (C := (fun _ => True)) trivial (hK _ _ ?_)
            clear hK K
            refine Mix.done ?_
            have hs3 := hs2.drew
            clear hs hs2 n0 n1 c0 m0 m1 t0 t1 y2 wf p0 p1 ef et ek
            have hs := hs3
            clear hs3
            generalize World.drew _ = W6 at hs ⊢
            have n0 := cell_of (hs.cells 7 rfl) 0
            have n1 := cell_of (hs.cells 7 rfl) 1
            have c0 := cell_of (hs.cells 4 rfl) 0
            have m0 := cell_of (hs.cells 3 rfl) 0
            have m1 := cell_of (hs.cells 3 rfl) 1
            have t0 := cell_of (hs.cells 1 rfl) 0
            have t1 := cell_of (hs.cells 1 rfl) 1
            simp only [List.getElem?_toArray, List.getElem?_cons_zero, List.getElem?_cons_succ] at n0 n1 c0 m0 m1 t0 t1
            have hML := moreL_len es (X % es.length) y
            cases hrm : rightB nn (moreL es (X % es.length) y)
            · have HRM := Lib.hid hrm
              clear hrm
              go_wp2_with fail
              refine (rright_l nn _ cM _ es.length _ hML (hs.rdRecs 2 rfl)).mono ?_
              rintro en w7 ⟨rfl, hb⟩
              rw [HRM.out]
              have hs2 := hs.belowStep hb
              clear hs hb n0 n1 c0 m0 m1 t0 t1
              have hs := hs2
              clear hs2
              have n0 := cell_of (hs.cells 7 rfl) 0
              have n1 := cell_of (hs.cells 7 rfl) 1
              have c0 := cell_of (hs.cells 4 rfl) 0
              have m0 := cell_of (hs.cells 3 rfl) 0
              have m1 := cell_of (hs.cells 3 rfl) 1
              have t0 := cell_of (hs.cells 1 rfl) 0
              have t1 := cell_of (hs.cells 1 rfl) 1
              simp only [List.getElem?_toArray, List.getElem?_cons_zero, List.getElem?_cons_succ] at n0 n1 c0 m0 m1 t0 t1
              clear hML
              go_wp2_with fail
              have hTL := twiceL_len es
              cases hrt : rightB nn (twiceL es)
              · have HRT := Lib.hid hrt
                clear hrt
                refine (rright_l nn _ cT _ es.length _ hTL (hs.rdRecs 0 rfl)).mono ?_
                rintro en w10 ⟨rfl, hb⟩
                rw [HRT.out]
                have hs2 := hs.belowStep hb
                clear hs hb n0 n1 c0 m0 m1 t0 t1
                have hs := hs2
                clear hs2
                have n0 := cell_of (hs.cells 7 rfl) 0
                have n1 := cell_of (hs.cells 7 rfl) 1
                have c0 := cell_of (hs.cells 4 rfl) 0
                have m0 := cell_of (hs.cells 3 rfl) 0
                have m1 := cell_of (hs.cells 3 rfl) 1
                have t0 := cell_of (hs.cells 1 rfl) 0
                have t1 := cell_of (hs.cells 1 rfl) 1
                simp only [List.getElem?_toArray, List.getElem?_cons_zero, List.getElem?_cons_succ] at n0 n1 c0 m0 m1 t0 t1
                clear hTL
                go_wp2_with fail
                refine (works_any _).mono ?_
                rintro en w11 ⟨rfl, hb⟩
                have hs2 := hs.belowStep hb
                clear hs hb n0 n1 c0 m0 m1 t0 t1
                go_wp2_with fail
                go_ret
                exact ⟨rfl, hs2.below⟩
              · have HRT := Lib.hid hrt
                clear hrt
                refine (rright_l nn _ cT _ es.length _ hTL (hs.rdRecs 0 rfl)).mono ?_
                rintro en w10 ⟨rfl, hb⟩
                rw [HRT.out]
                have hs2 := hs.belowStep hb
                clear hs hb n0 n1 c0 m0 m1 t0 t1
                have hs := hs2
                clear hs2
                have n0 := cell_of (hs.cells 7 rfl) 0
                have n1 := cell_of (hs.cells 7 rfl) 1
                have c0 := cell_of (hs.cells 4 rfl) 0
                have m0 := cell_of (hs.cells 3 rfl) 0
                have m1 := cell_of (hs.cells 3 rfl) 1
                have t0 := cell_of (hs.cells 1 rfl) 0
                have t1 := cell_of (hs.cells 1 rfl) 1
                simp only [List.getElem?_toArray, List.getElem?_cons_zero, List.getElem?_cons_succ] at n0 n1 c0 m0 m1 t0 t1
                go_wp2_with fail
                refine (best_l nn _ cT _ es.length _ hTL (hs.rdRecs 0 rfl) HRT.out).mono ?_
                rintro en w12 ⟨af2, cf2, ap2, cp2, fl2, pot2, st2, hck2, rfl, k1⟩
                have hs4 := (hs.join k1).newCells #[.slice af2 fl2.length cf2, .slice ap2 pot2.length cp2] 29
                simp only [List.cons_append, List.nil_append] at hs4
                have HTC := Lib.hid (twice_cost HCK.out hck2)
                have htb := cost_bound2 (flows_iff.1 (check_flows hck2)).1
                rw [HTC.out] at htb
                rw [← HK.out] at HTC htb
                obtain ⟨tb0, tb1⟩ := htb
                clear hs k1 n0 n1 c0 m0 m1 t0 t1 hck2
                go_upto_region 24 with fail
                obtain ⟨B9, hB9⟩ : ∃ B9, B9 = w12.heap.size := ⟨_, rfl⟩
                rw [← hB9] at hs4 ⊢
                clear hB9
                generalize World.alloc w12 _ = W9 at hs4 ⊢
                have hs := hs4
                clear hs4
                have x0 := cell_of (hs.cells 0 rfl) 0
                simp only [List.getElem?_toArray, List.getElem?_cons_zero, List.getElem?_cons_succ] at x0
                have n0 := cell_of (hs.cells 10 rfl) 0
                have n1 := cell_of (hs.cells 10 rfl) 1
                have c0 := cell_of (hs.cells 7 rfl) 0
                have m0 := cell_of (hs.cells 6 rfl) 0
                have m1 := cell_of (hs.cells 6 rfl) 1
                have t0 := cell_of (hs.cells 4 rfl) 0
                have t1 := cell_of (hs.cells 4 rfl) 1
                simp only [List.getElem?_toArray, List.getElem?_cons_zero, List.getElem?_cons_succ] at n0 n1 c0 m0 m1 t0 t1
                go_wp2_with fail
                refine (rcost_l nn _ cT _ es.length _ fl2 _ hTL (hs.rdRecs 3 rfl) (hs.rdInts 1 rfl)).mono ?_
                rintro en w13 ⟨rfl, hb⟩
                rw [HTC.out]
                have hs5 := (hs.belowStep hb).tail.tail.tail
                clear hs hb n0 n1 c0 m0 m1 t0 t1 x0 HTC
                have hs := hs5
                clear hs5 hTL
                go_wp2_with fail
                refine (works_any _).mono ?_
                rintro en w14 ⟨rfl, hb⟩
                have hs2 := hs.belowStep hb
                clear hs hb
                go_wp2_with fail
                go_ret
                exact ⟨rfl, hs2.below⟩
            · have HRM := Lib.hid hrm
              clear hrm
              go_wp2_with fail
              refine (rright_l nn _ cM _ es.length _ hML (hs.rdRecs 2 rfl)).mono ?_
              rintro en w7 ⟨rfl, hb⟩
              rw [HRM.out]
              have hs2 := hs.belowStep hb
              clear hs hb n0 n1 c0 m0 m1 t0 t1
              have hs := hs2
              clear hs2
              have n0 := cell_of (hs.cells 7 rfl) 0
              have n1 := cell_of (hs.cells 7 rfl) 1
              have c0 := cell_of (hs.cells 4 rfl) 0
              have m0 := cell_of (hs.cells 3 rfl) 0
              have m1 := cell_of (hs.cells 3 rfl) 1
              have t0 := cell_of (hs.cells 1 rfl) 0
              have t1 := cell_of (hs.cells 1 rfl) 1
              simp only [List.getElem?_toArray, List.getElem?_cons_zero, List.getElem?_cons_succ] at n0 n1 c0 m0 m1 t0 t1
              go_wp2_with fail
              refine (best_l nn _ cM _ es.length _ hML (hs.rdRecs 2 rfl) HRM.out).mono ?_
              rintro en w8 ⟨af', cf', ap', cp', fl', pot', st', hck', rfl, k1⟩
              have hs4 := (hs.join k1).newCells #[.slice af' fl'.length cf', .slice ap' pot'.length cp'] 29
              simp only [List.cons_append, List.nil_append] at hs4
              have HLE := Lib.hid (more_less (show 0 ≤ y from hy.1) HCK.out HRM.out hck')
              rw [← HK.out] at HLE
              obtain ⟨K', hK'⟩ : ∃ K', K' = costV nn (moreL es (X % es.length) y) fl' := ⟨_, rfl⟩
              rw [← hK'] at HLE
              have HK' := Lib.hid hK'
              have hle' : decide (0 < K') = false := decide_eq_false (by have := HLE.out; omega)
              clear hs k1 n0 n1 c0 m0 m1 t0 t1 hck' HLE hK'
              go_upto_region 20 with fail
              obtain ⟨B8, hB8⟩ : ∃ B8, B8 = w8.heap.size := ⟨_, rfl⟩
              rw [← hB8] at hs4 ⊢
              clear hB8
              generalize World.alloc w8 _ = W8 at hs4 ⊢
              have hs := hs4
              clear hs4
              have x0 := cell_of (hs.cells 0 rfl) 0
              simp only [List.getElem?_toArray, List.getElem?_cons_zero, List.getElem?_cons_succ] at x0
              have n0 := cell_of (hs.cells 10 rfl) 0
              have n1 := cell_of (hs.cells 10 rfl) 1
              have c0 := cell_of (hs.cells 7 rfl) 0
              have m0 := cell_of (hs.cells 6 rfl) 0
              have m1 := cell_of (hs.cells 6 rfl) 1
              have t0 := cell_of (hs.cells 4 rfl) 0
              have t1 := cell_of (hs.cells 4 rfl) 1
              simp only [List.getElem?_toArray, List.getElem?_cons_zero, List.getElem?_cons_succ] at n0 n1 c0 m0 m1 t0 t1
              go_wp2_with fail
              refine (rcost_l nn _ cM _ es.length _ fl' _ hML (hs.rdRecs 5 rfl) (hs.rdInts 1 rfl)).mono ?_
              rintro en w9 ⟨rfl, hb⟩
              rw [← HK'.out]
              have hs5 := (hs.belowStep hb).tail.tail.tail
              clear hs hb n0 n1 c0 m0 m1 t0 t1 x0 HK'
              have hs := hs5
              clear hs5
              have n0 := cell_of (hs.cells 7 rfl) 0
              have n1 := cell_of (hs.cells 7 rfl) 1
              have c0 := cell_of (hs.cells 4 rfl) 0
              have m0 := cell_of (hs.cells 3 rfl) 0
              have m1 := cell_of (hs.cells 3 rfl) 1
              have t0 := cell_of (hs.cells 1 rfl) 0
              have t1 := cell_of (hs.cells 1 rfl) 1
              simp only [List.getElem?_toArray, List.getElem?_cons_zero, List.getElem?_cons_succ] at n0 n1 c0 m0 m1 t0 t1
              clear hML
              go_wp2_with fail
              clear hle'
              have hTL := twiceL_len es
              cases hrt : rightB nn (twiceL es)
              · have HRT := Lib.hid hrt
                clear hrt
                refine (rright_l nn _ cT _ es.length _ hTL (hs.rdRecs 0 rfl)).mono ?_
                rintro en w10 ⟨rfl, hb⟩
                rw [HRT.out]
                have hs2 := hs.belowStep hb
                clear hs hb n0 n1 c0 m0 m1 t0 t1
                have hs := hs2
                clear hs2
                have n0 := cell_of (hs.cells 7 rfl) 0
                have n1 := cell_of (hs.cells 7 rfl) 1
                have c0 := cell_of (hs.cells 4 rfl) 0
                have m0 := cell_of (hs.cells 3 rfl) 0
                have m1 := cell_of (hs.cells 3 rfl) 1
                have t0 := cell_of (hs.cells 1 rfl) 0
                have t1 := cell_of (hs.cells 1 rfl) 1
                simp only [List.getElem?_toArray, List.getElem?_cons_zero, List.getElem?_cons_succ] at n0 n1 c0 m0 m1 t0 t1
                clear hTL
                go_wp2_with fail
                refine (works_any _).mono ?_
                rintro en w11 ⟨rfl, hb⟩
                have hs2 := hs.belowStep hb
                clear hs hb n0 n1 c0 m0 m1 t0 t1
                go_wp2_with fail
                go_ret
                exact ⟨rfl, hs2.below⟩
              · have HRT := Lib.hid hrt
                clear hrt
                refine (rright_l nn _ cT _ es.length _ hTL (hs.rdRecs 0 rfl)).mono ?_
                rintro en w10 ⟨rfl, hb⟩
                rw [HRT.out]
                have hs2 := hs.belowStep hb
                clear hs hb n0 n1 c0 m0 m1 t0 t1
                have hs := hs2
                clear hs2
                have n0 := cell_of (hs.cells 7 rfl) 0
                have n1 := cell_of (hs.cells 7 rfl) 1
                have c0 := cell_of (hs.cells 4 rfl) 0
                have m0 := cell_of (hs.cells 3 rfl) 0
                have m1 := cell_of (hs.cells 3 rfl) 1
                have t0 := cell_of (hs.cells 1 rfl) 0
                have t1 := cell_of (hs.cells 1 rfl) 1
                simp only [List.getElem?_toArray, List.getElem?_cons_zero, List.getElem?_cons_succ] at n0 n1 c0 m0 m1 t0 t1
                go_wp2_with fail
                refine (best_l nn _ cT _ es.length _ hTL (hs.rdRecs 0 rfl) HRT.out).mono ?_
                rintro en w12 ⟨af2, cf2, ap2, cp2, fl2, pot2, st2, hck2, rfl, k1⟩
                have hs4 := (hs.join k1).newCells #[.slice af2 fl2.length cf2, .slice ap2 pot2.length cp2] 29
                simp only [List.cons_append, List.nil_append] at hs4
                have HTC := Lib.hid (twice_cost HCK.out hck2)
                have htb := cost_bound2 (flows_iff.1 (check_flows hck2)).1
                rw [HTC.out] at htb
                rw [← HK.out] at HTC htb
                obtain ⟨tb0, tb1⟩ := htb
                clear hs k1 n0 n1 c0 m0 m1 t0 t1 hck2
                go_upto_region 24 with fail
                obtain ⟨B9, hB9⟩ : ∃ B9, B9 = w12.heap.size := ⟨_, rfl⟩
                rw [← hB9] at hs4 ⊢
                clear hB9
                generalize World.alloc w12 _ = W9 at hs4 ⊢
                have hs := hs4
                clear hs4
                have x0 := cell_of (hs.cells 0 rfl) 0
                simp only [List.getElem?_toArray, List.getElem?_cons_zero, List.getElem?_cons_succ] at x0
                have n0 := cell_of (hs.cells 10 rfl) 0
                have n1 := cell_of (hs.cells 10 rfl) 1
                have c0 := cell_of (hs.cells 7 rfl) 0
                have m0 := cell_of (hs.cells 6 rfl) 0
                have m1 := cell_of (hs.cells 6 rfl) 1
                have t0 := cell_of (hs.cells 4 rfl) 0
                have t1 := cell_of (hs.cells 4 rfl) 1
                simp only [List.getElem?_toArray, List.getElem?_cons_zero, List.getElem?_cons_succ] at n0 n1 c0 m0 m1 t0 t1
                go_wp2_with fail
                refine (rcost_l nn _ cT _ es.length _ fl2 _ hTL (hs.rdRecs 3 rfl) (hs.rdInts 1 rfl)).mono ?_
                rintro en w13 ⟨rfl, hb⟩
                rw [HTC.out]
                have hs5 := (hs.belowStep hb).tail.tail.tail
                clear hs hb n0 n1 c0 m0 m1 t0 t1 x0 HTC
                have hs := hs5
                clear hs5 hTL
                go_wp2_with fail
                refine (works_any _).mono ?_
                rintro en w14 ⟨rfl, hb⟩
                have hs2 := hs.belowStep hb
                clear hs hb
                go_wp2_with fail
                go_ret
                exact ⟨rfl, hs2.below⟩
          · clear hlo ct1
            have ct2 : ¬ (0 < K) := by omega
            go_wp2_with fail
            have HMD := Lib.hid (show moreL es (X % es.length) y = es.set (X % es.length) ⟨(edAt es (X % es.length)).f, (edAt es (X % es.length)).t, (edAt es (X % es.length)).c + y, (edAt es (X % es.length)).k⟩ from rfl)
            have HCJ := Lib.hid (HCAP.out (X % es.length) hXl)
            obtain ⟨ge, ce, eqe, _, hce, hfe⟩ := (hs.recs 2 rfl).get (X % es.length) hXl
            injection eqe with eqe q1 q2
            injection eqe with eqe
            injection eqe with eqe
            subst eqe
            have y2 := hce (X % es.length) hXl 2 (by decide)
            rw [← edAt_of hXl] at y2
            obtain ⟨E, hE⟩ : ∃ E, E = edAt es (X % es.length) := ⟨_, rfl⟩
            rw [← hE] at y2 HMD HCJ
            have hs2 := show Mem.Sep w (World.setCell _ ⟨gM, (X % es.length) * 4 + 2, none⟩ (.int .i64 (E.c + y))) _ from hs.setRec 2 rfl (X % es.length) hXl 2 (by decide) ⟨E.f, E.t, E.c + y, E.k⟩ (.int .i64 (E.c + y)) (by rw [← edAt_of hXl, ← hE]; rfl)
            simp only [List.set_cons_zero, List.set_cons_succ] at hs2
            rw [← HMD.out] at hs2
            clear hE q1 q2 hce
            obtain ⟨ef, et, ec, ek⟩ := E
            simp only [edR, List.getElem?_cons_zero, List.getElem?_cons_succ] at y2
            dsimp only at HCJ hs2
            have wf := hfe ((X % es.length) * 4 + 2)
            clear hfe HMD
            obtain ⟨p0, p1⟩ := HCJ.out
            clear HCJ
            refine Mix.region [0, 0, 0, 0, 0, 0, 0, 0, 0, 0, 0, 0, 0, 0, 0, 0, 2] (fun _ => True) (by kernel_rfl) (by kernel_rfl) trivial ?_
            simp only [List.zip_cons_cons, List.zip_nil_right]
            iterate 16 (refine Mix.step0 fun K hK => ?_; go_simp; (try (go_bits; try go_simp)); first | ((with_reducible refine hK _ _ ?_); clear hK K) | ((try (simp only [IntWalk.iteOmega]; try go_simp)); (try go_bits); (with_reducible refine hK _ _ ?_); clear hK K))
            refine Mix.step2n (by first | rfl | simp [Region.wanted, yielded]) fun K hK => ?_
            go_wp2_with fail
            refine Mix.post_mk (C := (fun _ => True)) trivial (hK _ _ ?_)
            clear hK K
            refine Mix.done ?_
            have hs3 := hs2.drew
            clear hs hs2 n0 n1 c0 m0 m1 t0 t1 y2 wf p0 p1 ef et ek
            have hs := hs3
            clear hs3
            generalize World.drew _ = W6 at hs ⊢
            have n0 := cell_of (hs.cells 7 rfl) 0
            have n1 := cell_of (hs.cells 7 rfl) 1
            have c0 := cell_of (hs.cells 4 rfl) 0
            have m0 := cell_of (hs.cells 3 rfl) 0
            have m1 := cell_of (hs.cells 3 rfl) 1
            have t0 := cell_of (hs.cells 1 rfl) 0
            have t1 := cell_of (hs.cells 1 rfl) 1
            simp only [List.getElem?_toArray, List.getElem?_cons_zero, List.getElem?_cons_succ] at n0 n1 c0 m0 m1 t0 t1
            have hML := moreL_len es (X % es.length) y
            cases hrm : rightB nn (moreL es (X % es.length) y)
            · have HRM := Lib.hid hrm
              clear hrm
              go_wp2_with fail
              refine (rright_l nn _ cM _ es.length _ hML (hs.rdRecs 2 rfl)).mono ?_
              rintro en w7 ⟨rfl, hb⟩
              rw [HRM.out]
              have hs2 := hs.belowStep hb
              clear hs hb n0 n1 c0 m0 m1 t0 t1
              have hs := hs2
              clear hs2
              have n0 := cell_of (hs.cells 7 rfl) 0
              have n1 := cell_of (hs.cells 7 rfl) 1
              have c0 := cell_of (hs.cells 4 rfl) 0
              have m0 := cell_of (hs.cells 3 rfl) 0
              have m1 := cell_of (hs.cells 3 rfl) 1
              have t0 := cell_of (hs.cells 1 rfl) 0
              have t1 := cell_of (hs.cells 1 rfl) 1
              simp only [List.getElem?_toArray, List.getElem?_cons_zero, List.getElem?_cons_succ] at n0 n1 c0 m0 m1 t0 t1
              clear hML
              go_wp2_with fail
              have hTL := twiceL_len es
              cases hrt : rightB nn (twiceL es)
              · have HRT := Lib.hid hrt
                clear hrt
                refine (rright_l nn _ cT _ es.length _ hTL (hs.rdRecs 0 rfl)).mono ?_
                rintro en w10 ⟨rfl, hb⟩
                rw [HRT.out]
                have hs2 := hs.belowStep hb
                clear hs hb n0 n1 c0 m0 m1 t0 t1
                have hs := hs2
                clear hs2
                have n0 := cell_of (hs.cells 7 rfl) 0
                have n1 := cell_of (hs.cells 7 rfl) 1
                have c0 := cell_of (hs.cells 4 rfl) 0
                have m0 := cell_of (hs.cells 3 rfl) 0
                have m1 := cell_of (hs.cells 3 rfl) 1
                have t0 := cell_of (hs.cells 1 rfl) 0
                have t1 := cell_of (hs.cells 1 rfl) 1
                simp only [List.getElem?_toArray, List.getElem?_cons_zero, List.getElem?_cons_succ] at n0 n1 c0 m0 m1 t0 t1
                clear hTL
                go_wp2_with fail
                refine (works_any _).mono ?_
                rintro en w11 ⟨rfl, hb⟩
                have hs2 := hs.belowStep hb
                clear hs hb n0 n1 c0 m0 m1 t0 t1
                go_wp2_with fail
                go_ret
                exact ⟨rfl, hs2.below⟩
              · have HRT := Lib.hid hrt
                clear hrt
                refine (rright_l nn _ cT _ es.length _ hTL (hs.rdRecs 0 rfl)).mono ?_
                rintro en w10 ⟨rfl, hb⟩
                rw [HRT.out]
                have hs2 := hs.belowStep hb
                clear hs hb n0 n1 c0 m0 m1 t0 t1
                have hs := hs2
                clear hs2
                have n0 := cell_of (hs.cells 7 rfl) 0
                have n1 := cell_of (hs.cells 7 rfl) 1
                have c0 := cell_of (hs.cells 4 rfl) 0
                have m0 := cell_of (hs.cells 3 rfl) 0
                have m1 := cell_of (hs.cells 3 rfl) 1
                have t0 := cell_of (hs.cells 1 rfl) 0
                have t1 := cell_of (hs.cells 1 rfl) 1
                simp only [List.getElem?_toArray, List.getElem?_cons_zero, List.getElem?_cons_succ] at n0 n1 c0 m0 m1 t0 t1
                go_wp2_with fail
                refine (best_l nn _ cT _ es.length _ hTL (hs.rdRecs 0 rfl) HRT.out).mono ?_
                rintro en w12 ⟨af2, cf2, ap2, cp2, fl2, pot2, st2, hck2, rfl, k1⟩
                have hs4 := (hs.join k1).newCells #[.slice af2 fl2.length cf2, .slice ap2 pot2.length cp2] 29
                simp only [List.cons_append, List.nil_append] at hs4
                have HTC := Lib.hid (twice_cost HCK.out hck2)
                have htb := cost_bound2 (flows_iff.1 (check_flows hck2)).1
                rw [HTC.out] at htb
                rw [← HK.out] at HTC htb
                obtain ⟨tb0, tb1⟩ := htb
                clear hs k1 n0 n1 c0 m0 m1 t0 t1 hck2
                go_upto_region 24 with fail
                obtain ⟨B9, hB9⟩ : ∃ B9, B9 = w12.heap.size := ⟨_, rfl⟩
                rw [← hB9] at hs4 ⊢
                clear hB9
                generalize World.alloc w12 _ = W9 at hs4 ⊢
                have hs := hs4
                clear hs4
                have x0 := cell_of (hs.cells 0 rfl) 0
                simp only [List.getElem?_toArray, List.getElem?_cons_zero, List.getElem?_cons_succ] at x0
                have n0 := cell_of (hs.cells 10 rfl) 0
                have n1 := cell_of (hs.cells 10 rfl) 1
                have c0 := cell_of (hs.cells 7 rfl) 0
                have m0 := cell_of (hs.cells 6 rfl) 0
                have m1 := cell_of (hs.cells 6 rfl) 1
                have t0 := cell_of (hs.cells 4 rfl) 0
                have t1 := cell_of (hs.cells 4 rfl) 1
                simp only [List.getElem?_toArray, List.getElem?_cons_zero, List.getElem?_cons_succ] at n0 n1 c0 m0 m1 t0 t1
                go_wp2_with fail
                refine (rcost_l nn _ cT _ es.length _ fl2 _ hTL (hs.rdRecs 3 rfl) (hs.rdInts 1 rfl)).mono ?_
                rintro en w13 ⟨rfl, hb⟩
                rw [HTC.out]
                have hs5 := (hs.belowStep hb).tail.tail.tail
                clear hs hb n0 n1 c0 m0 m1 t0 t1 x0 HTC
                have hs := hs5
                clear hs5 hTL
                go_wp2_with fail
                refine (works_any _).mono ?_
                rintro en w14 ⟨rfl, hb⟩
                have hs2 := hs.belowStep hb
                clear hs hb
                go_wp2_with fail
                go_ret
                exact ⟨rfl, hs2.below⟩
            · have HRM := Lib.hid hrm
              clear hrm
              go_wp2_with fail
              refine (rright_l nn _ cM _ es.length _ hML (hs.rdRecs 2 rfl)).mono ?_
              rintro en w7 ⟨rfl, hb⟩
              rw [HRM.out]
              have hs2 := hs.belowStep hb
              clear hs hb n0 n1 c0 m0 m1 t0 t1
              have hs := hs2
              clear hs2
              have n0 := cell_of (hs.cells 7 rfl) 0
              have n1 := cell_of (hs.cells 7 rfl) 1
              have c0 := cell_of (hs.cells 4 rfl) 0
              have m0 := cell_of (hs.cells 3 rfl) 0
              have m1 := cell_of (hs.cells 3 rfl) 1
              have t0 := cell_of (hs.cells 1 rfl) 0
              have t1 := cell_of (hs.cells 1 rfl) 1
              simp only [List.getElem?_toArray, List.getElem?_cons_zero, List.getElem?_cons_succ] at n0 n1 c0 m0 m1 t0 t1
              go_wp2_with fail
              refine (best_l nn _ cM _ es.length _ hML (hs.rdRecs 2 rfl) HRM.out).mono ?_
              rintro en w8 ⟨af', cf', ap', cp', fl', pot', st', hck', rfl, k1⟩
              have hs4 := (hs.join k1).newCells #[.slice af' fl'.length cf', .slice ap' pot'.length cp'] 29
              simp only [List.cons_append, List.nil_append] at hs4
              have HLE := Lib.hid (more_less (show 0 ≤ y from hy.1) HCK.out HRM.out hck')
              rw [← HK.out] at HLE
              obtain ⟨K', hK'⟩ : ∃ K', K' = costV nn (moreL es (X % es.length) y) fl' := ⟨_, rfl⟩
              rw [← hK'] at HLE
              have HK' := Lib.hid hK'
              have hle' : decide (K < K') = false := decide_eq_false (by have := HLE.out; omega)
              clear hs k1 n0 n1 c0 m0 m1 t0 t1 hck' HLE hK'
              go_upto_region 20 with fail
              obtain ⟨B8, hB8⟩ : ∃ B8, B8 = w8.heap.size := ⟨_, rfl⟩
              rw [← hB8] at hs4 ⊢
              clear hB8
              generalize World.alloc w8 _ = W8 at hs4 ⊢
              have hs := hs4
              clear hs4
              have x0 := cell_of (hs.cells 0 rfl) 0
              simp only [List.getElem?_toArray, List.getElem?_cons_zero, List.getElem?_cons_succ] at x0
              have n0 := cell_of (hs.cells 10 rfl) 0
              have n1 := cell_of (hs.cells 10 rfl) 1
              have c0 := cell_of (hs.cells 7 rfl) 0
              have m0 := cell_of (hs.cells 6 rfl) 0
              have m1 := cell_of (hs.cells 6 rfl) 1
              have t0 := cell_of (hs.cells 4 rfl) 0
              have t1 := cell_of (hs.cells 4 rfl) 1
              simp only [List.getElem?_toArray, List.getElem?_cons_zero, List.getElem?_cons_succ] at n0 n1 c0 m0 m1 t0 t1
              go_wp2_with fail
              refine (rcost_l nn _ cM _ es.length _ fl' _ hML (hs.rdRecs 5 rfl) (hs.rdInts 1 rfl)).mono ?_
              rintro en w9 ⟨rfl, hb⟩
              rw [← HK'.out]
              have hs5 := (hs.belowStep hb).tail.tail.tail
              clear hs hb n0 n1 c0 m0 m1 t0 t1 x0 HK'
              have hs := hs5
              clear hs5
              have n0 := cell_of (hs.cells 7 rfl) 0
              have n1 := cell_of (hs.cells 7 rfl) 1
              have c0 := cell_of (hs.cells 4 rfl) 0
              have m0 := cell_of (hs.cells 3 rfl) 0
              have m1 := cell_of (hs.cells 3 rfl) 1
              have t0 := cell_of (hs.cells 1 rfl) 0
              have t1 := cell_of (hs.cells 1 rfl) 1
              simp only [List.getElem?_toArray, List.getElem?_cons_zero, List.getElem?_cons_succ] at n0 n1 c0 m0 m1 t0 t1
              clear hML
              go_wp2_with fail
              clear hle'
              have hTL := twiceL_len es
              cases hrt : rightB nn (twiceL es)
              · have HRT := Lib.hid hrt
                clear hrt
                refine (rright_l nn _ cT _ es.length _ hTL (hs.rdRecs 0 rfl)).mono ?_
                rintro en w10 ⟨rfl, hb⟩
                rw [HRT.out]
                have hs2 := hs.belowStep hb
                clear hs hb n0 n1 c0 m0 m1 t0 t1
                have hs := hs2
                clear hs2
                have n0 := cell_of (hs.cells 7 rfl) 0
                have n1 := cell_of (hs.cells 7 rfl) 1
                have c0 := cell_of (hs.cells 4 rfl) 0
                have m0 := cell_of (hs.cells 3 rfl) 0
                have m1 := cell_of (hs.cells 3 rfl) 1
                have t0 := cell_of (hs.cells 1 rfl) 0
                have t1 := cell_of (hs.cells 1 rfl) 1
                simp only [List.getElem?_toArray, List.getElem?_cons_zero, List.getElem?_cons_succ] at n0 n1 c0 m0 m1 t0 t1
                clear hTL
                go_wp2_with fail
                refine (works_any _).mono ?_
                rintro en w11 ⟨rfl, hb⟩
                have hs2 := hs.belowStep hb
                clear hs hb n0 n1 c0 m0 m1 t0 t1
                go_wp2_with fail
                go_ret
                exact ⟨rfl, hs2.below⟩
              · have HRT := Lib.hid hrt
                clear hrt
                refine (rright_l nn _ cT _ es.length _ hTL (hs.rdRecs 0 rfl)).mono ?_
                rintro en w10 ⟨rfl, hb⟩
                rw [HRT.out]
                have hs2 := hs.belowStep hb
                clear hs hb n0 n1 c0 m0 m1 t0 t1
                have hs := hs2
                clear hs2
                have n0 := cell_of (hs.cells 7 rfl) 0
                have n1 := cell_of (hs.cells 7 rfl) 1
                have c0 := cell_of (hs.cells 4 rfl) 0
                have m0 := cell_of (hs.cells 3 rfl) 0
                have m1 := cell_of (hs.cells 3 rfl) 1
                have t0 := cell_of (hs.cells 1 rfl) 0
                have t1 := cell_of (hs.cells 1 rfl) 1
                simp only [List.getElem?_toArray, List.getElem?_cons_zero, List.getElem?_cons_succ] at n0 n1 c0 m0 m1 t0 t1
                go_wp2_with fail
                refine (best_l nn _ cT _ es.length _ hTL (hs.rdRecs 0 rfl) HRT.out).mono ?_
                rintro en w12 ⟨af2, cf2, ap2, cp2, fl2, pot2, st2, hck2, rfl, k1⟩
                have hs4 := (hs.join k1).newCells #[.slice af2 fl2.length cf2, .slice ap2 pot2.length cp2] 29
                simp only [List.cons_append, List.nil_append] at hs4
                have HTC := Lib.hid (twice_cost HCK.out hck2)
                have htb := cost_bound2 (flows_iff.1 (check_flows hck2)).1
                rw [HTC.out] at htb
                rw [← HK.out] at HTC htb
                obtain ⟨tb0, tb1⟩ := htb
                clear hs k1 n0 n1 c0 m0 m1 t0 t1 hck2
                go_upto_region 24 with fail
                obtain ⟨B9, hB9⟩ : ∃ B9, B9 = w12.heap.size := ⟨_, rfl⟩
                rw [← hB9] at hs4 ⊢
                clear hB9
                generalize World.alloc w12 _ = W9 at hs4 ⊢
                have hs := hs4
                clear hs4
                have x0 := cell_of (hs.cells 0 rfl) 0
                simp only [List.getElem?_toArray, List.getElem?_cons_zero, List.getElem?_cons_succ] at x0
                have n0 := cell_of (hs.cells 10 rfl) 0
                have n1 := cell_of (hs.cells 10 rfl) 1
                have c0 := cell_of (hs.cells 7 rfl) 0
                have m0 := cell_of (hs.cells 6 rfl) 0
                have m1 := cell_of (hs.cells 6 rfl) 1
                have t0 := cell_of (hs.cells 4 rfl) 0
                have t1 := cell_of (hs.cells 4 rfl) 1
                simp only [List.getElem?_toArray, List.getElem?_cons_zero, List.getElem?_cons_succ] at n0 n1 c0 m0 m1 t0 t1
                go_wp2_with fail
                refine (rcost_l nn _ cT _ es.length _ fl2 _ hTL (hs.rdRecs 3 rfl) (hs.rdInts 1 rfl)).mono ?_
                rintro en w13 ⟨rfl, hb⟩
                rw [HTC.out]
                have hs5 := (hs.belowStep hb).tail.tail.tail
                clear hs hb n0 n1 c0 m0 m1 t0 t1 x0 HTC
                have hs := hs5
                clear hs5 hTL
                go_wp2_with fail
                refine (works_any _).mono ?_
                rintro en w14 ⟨rfl, hb⟩
                have hs2 := hs.belowStep hb
                clear hs hb
                go_wp2_with fail
                go_ret
                exact ⟨rfl, hs2.below⟩
end Go.Proofs.Ytacbfpgijmpilaa
