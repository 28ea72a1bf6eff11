/-
  The law SolveHolds, walked.
-/
import Derived.Test.YtacbfpgijmpilaaSWk
namespace Go.Proofs.Ytacbfpgijmpilaa
open Go Go.RowKit Go.Mem Go.NetP Go.RestP Go.CertP Go.PathP Go.SolveP Go.Shelf
set_option maxHeartbeats 800000 in
theorem same_eq (v v' : Value) (zs : List Int) (w : World) (h : Rd .i64 w v zs) (h' : Rd .i64 w v' zs) : Calls Try.prog 11 #[v, v'] w fun e w' => e = .returned (.bool true) ∧ Below w.heap.size w w' := by
  have hle := h.le'
  obtain ⟨a, cap, rfl⟩ := h.shape
  obtain ⟨a', cap', rfl⟩ := h'.shape
  go_enter Try.func11, Try.ntmps11
  go_wp2_with fail
  refine wp_loopM [none, none, none, none, some 4, some 5, none, none, none, none, none, some 11, some 12, some 13, some 14, some 15, some 16, some 17, some 18, some 19, some 20, some 21, some 22, some 23, some 24, some 25] (fun (n : Nat) (f : Nat → Value) (wr : World) => (fun (v : Value) => ∃ i : Nat, v = .int .i64 i ∧ i ≤ zs.length ∧ n = zs.length - i ∧ Sep w wr []) (f 5)) (zs.length) (by kernel_rfl) ?atStart1 ?round1
  case' atStart1 => (try dsimp only [nthV])
  case' round1 =>
    intro gk f wr l hl hrel J1 K1 hJ1 hK1
    (try simp only [mask] at hl)
    generalize f 5 = u5 at hl hrel
    subst hl
    (try dsimp only at hrel)
  case atStart1 => exact ⟨0, rfl, Nat.zero_le _, rfl, Sep.start w⟩
  case round1 =>
    obtain ⟨i, rfl, hi, rfl, hs⟩ := hrel
    by_cases hlt : i < zs.length
    · obtain ⟨b1, o1, rfl, hb1, hc1⟩ := (hs.rd h).at i hlt
      obtain ⟨b2, o2, rfl, hb2, hc2⟩ := (hs.rd h').at i hlt
      go_wp2_with fail
      refine Mix.region [0, 0, 0, 0, 0, 0, 0, 0, 0] (fun _ => True) (by kernel_rfl) (by kernel_rfl) trivial ?_
      simp only [List.zip_cons_cons, List.zip_nil_right]
      iterate 9 (refine Mix.step0 fun K hK => ?_; go_simp; (try (go_bits; try go_simp)); first | ((with_reducible refine hK _ _ ?_); clear hK K) | ((try (simp only [IntWalk.iteOmega]; try go_simp)); (try go_bits); (with_reducible refine hK _ _ ?_); clear hK K))
      refine Mix.done ?_
      go_wp2_with fail
      refine Round.intro (zs.length - (i + 1)) ?measure2 (by kernel_rfl) (hJ1 _ _ _ ?rel2)
      case' rel2 => (try dsimp only [nthV])
      case measure2 => omega
      case rel2 => exact ⟨i + 1, by go_num, hlt, rfl, hs.drew⟩
    · go_wp2_with fail
      go_ret
      exact ⟨rfl, hs.below⟩
set_option maxRecDepth 100000 in
set_option maxHeartbeats 3000000 in
theorem solveHolds_any (nn : Int) (a : Option Addr) (c : Nat) (es : List Ed) (w : World) (h : RdG edR w (.slice a es.length c) es) :
    Calls Try.prog 3 #[.agg #[.int .i64 nn, .slice a es.length c]] w fun en w' => en = .returned (.bool true) ∧ Below w.heap.size w w' := by
  obtain ⟨e0, he0, he1, he2, he3⟩ := info_parts Try.infoEdgb
  have hle := h.le'
  have hs := (Sep.start w).newCells #[.int .i64 nn, .slice a es.length c] 24
  obtain ⟨B1, hB⟩ : ∃ B1, B1 = w.heap.size := ⟨_, rfl⟩
  rw [← hB] at hs
  have n0 := cell_of (hs.cells 0 rfl) 0
  have n1 := cell_of (hs.cells 0 rfl) 1
  simp only [List.getElem?_toArray, List.getElem?_cons_zero, List.getElem?_cons_succ] at n0 n1
  cases hfw : fewN nn es.length
  · have HF := Lib.hid hfw
    clear hfw
    go_enter Try.func3, Try.ntmps3
    go_wp2_with fail
    (try rw [← hB])
    clear hB
    refine (few_any nn a es.length c _ (by omega)).mono ?_
    rintro en w1 ⟨rfl, hb⟩
    rw [HF.out]
    have hs1 := hs.belowStep hb
    clear hs hb n0 n1
    go_wp2_with fail
    refine (works_any _).mono ?_
    rintro en w2 ⟨rfl, hb⟩
    have hs2 := hs1.belowStep hb
    clear hs1 hb
    go_wp2_with fail
    go_ret
    exact ⟨rfl, hs2.below⟩
  have hl300 : es.length ≤ 300 := by simp [fewN] at hfw; omega
  have hnn : nn ≤ 100 := by simp [fewN] at hfw; omega
  have HF := Lib.hid hfw
  clear hfw
  go_enter Try.func3, Try.ntmps3
  go_wp2_with fail
  (try rw [← hB])
  clear hB
  refine (few_any nn a es.length c _ (by omega)).mono ?_
  rintro en w1 ⟨rfl, hb⟩
  rw [HF.out]
  have hs1 := hs.belowStep hb
  clear hs hb n0 n1
  have hs := hs1
  clear hs1
  have n0 := cell_of (hs.cells 0 rfl) 0
  have n1 := cell_of (hs.cells 0 rfl) 1
  simp only [List.getElem?_toArray, List.getElem?_cons_zero, List.getElem?_cons_succ] at n0 n1
  have hs3 := hs.litRecs edR 34 [] (by simp [maxLen])
  simp only [List.length_nil, Rec.flat, List.flatMap_nil] at hs3
  have m1 := cell_of (hs3.cells 1 rfl) 1
  simp only [List.getElem?_toArray, List.getElem?_cons_zero, List.getElem?_cons_succ] at m1
  go_wp2_with (at_builtin; refine wpList_appRdG edR rfl (.tmp 15) (.tmp 17) 22 rfl 34 e0 _ 32 Try.underlying22 he0 he1 he2 he3 rfl _ [] _ es hs3 0 rfl (hs3.rdG h) rfl rfl ?c3 ?c4 ?grow)
  case c3 => (try simp); (try simp only [maxLen]); (try omega)
  case c4 => (try simp); (try simp only [maxLen]); (try omega)
  case grow =>
    intro vo w2 hs2
    (try simp only [List.set_cons_zero, List.nil_append] at hs2)
    obtain ⟨ao, co, rfl⟩ := (hs2.rdRecs 0 rfl).shape
    clear hs hs3 n0 n1 m1
    have hs := hs2
    clear hs2
    have n0 := cell_of (hs.cells 1 rfl) 0
    have n1 := cell_of (hs.cells 1 rfl) 1
    simp only [List.getElem?_toArray, List.getElem?_cons_zero, List.getElem?_cons_succ] at n0 n1
    go_wp2_with fail
    refine (best_uni nn ao co es _ (hs.rdRecs 0 rfl)).mono ?_
    rintro en w3 ⟨af, cf, ap, cp, fl, pot, st, er, hbd, rfl, k1⟩
    have hs4 := (hs.join k1).newCells #[.slice af fl.length cf, .slice ap pot.length cp] 29
    simp only [List.cons_append, List.nil_append] at hs4
    clear hs k1 n0 n1
    have HBD := Lib.hid hbd
    go_upto_region 5 with fail
    obtain ⟨B4, hB4⟩ : ∃ B4, B4 = w3.heap.size := ⟨_, rfl⟩
    rw [← hB4] at hs4 ⊢
    clear hB4
    generalize World.alloc w3 _ = W4 at hs4 ⊢
    have hs := hs4
    clear hs4
    have n0 := cell_of (hs.cells 4 rfl) 0
    have n1 := cell_of (hs.cells 4 rfl) 1
    simp only [List.getElem?_toArray, List.getElem?_cons_zero, List.getElem?_cons_succ] at n0 n1
    go_wp2_with fail
    refine (best_uni nn a c es _ (hs.rdG h)).mono ?_
    rintro en w5 ⟨af', cf', ap', cp', fl', pot', st', er', hbd', rfl, k1⟩
    obtain ⟨rfl, rfl, rfl, rfl⟩ := hbd.det hbd'
    clear hbd hbd'
    have hs4 := (hs.join k1).newCells #[.slice af' fl.length cf', .slice ap' pot.length cp'] 29
    simp only [List.cons_append, List.nil_append] at hs4
    clear hs k1 n0 n1
    go_upto_region 6 with fail
    obtain ⟨B6, hB6⟩ : ∃ B6, B6 = w5.heap.size := ⟨_, rfl⟩
    rw [← hB6] at hs4 ⊢
    clear hB6
    generalize World.alloc w5 _ = W6 at hs4 ⊢
    go_wp2_with fail
    refine wp_loopM [none, none, some 2, none, none, none, none, none, none, none, some 10, none, none, none, none, none, none, none, none, none, none, none, none, none, none, none, none, none, none, none, none, none, none, none, some 34, some 35, some 36, some 37, some 38, some 39, some 40, some 41, some 42, some 43, some 44, some 45, some 46, some 47, some 48, some 49, none, none, none, none, none, none, none, none, none, none, none, none, none, none, none, none, none, none, none, none, none, none, none, none, none, none, none, none, none, none, none, none, none, none, none, none, none, none, none, none, none, none, none, none, none, none, none, none, none, none, none, none, none, none, none, none, none, none, none, none, none, none, none, none, none, none, none, none, none, none, none, none] (fun (r : Nat) (f : Nat → Value) (wr : World) => (fun (v : Value) => ∃ i : Nat, v = .int .i64 i ∧ i ≤ es.length ∧ r = es.length - i ∧ Sep w wr [cellsT B6 #[.slice af' fl.length cf', .slice ap' pot.length cp'] 29, intsT .i64 2 (.slice af' fl.length cf') fl, intsT .i64 2 (.slice ap' pot.length cp') pot, cellsT B4 #[.slice af fl.length cf, .slice ap pot.length cp] 29, intsT .i64 2 (.slice af fl.length cf) fl, intsT .i64 2 (.slice ap pot.length cp) pot, recT edR 34 (.slice ao es.length co) es, cellsT B1 #[.int .i64 nn, .slice a es.length c] 24]) (f 10)) (es.length) (by kernel_rfl) ?atStart3 ?round3
    case' atStart3 => (try dsimp only [nthV])
    case' round3 =>
      intro gk f wr l hl hrel J1 K1 hJ1 hK1
      (try simp only [mask] at hl)
      generalize f 10 = u10 at hl hrel
      subst hl
      (try dsimp only at hrel)
    case atStart3 => exact ⟨0, rfl, Nat.zero_le _, rfl, hs4⟩
    case round3 =>
      clear hs4
      obtain ⟨i, rfl, hi, rfl, hs⟩ := hrel
      have n0 := cell_of (hs.cells 7 rfl) 0
      have n1 := cell_of (hs.cells 7 rfl) 1
      simp only [List.getElem?_toArray, List.getElem?_cons_zero, List.getElem?_cons_succ] at n0 n1
      by_cases hlt : i < es.length
      · obtain ⟨b1, o1, eq1, _, hc1⟩ := (hs.rdRecs 6 rfl).at i hlt
        obtain ⟨b2, o2, eq2, _, hc2⟩ := (hs.rdG h).at i hlt
        subst eq1
        subst eq2
        obtain ⟨E, hE⟩ : ∃ E, E = es[i] := ⟨_, rfl⟩
        rw [← hE] at hc1 hc2
        clear hE
        have x0 := hc1 0 (by decide)
        have x1 := hc1 1 (by decide)
        have x2 := hc1 2 (by decide)
        have x3 := hc1 3 (by decide)
        have y0 := hc2 0 (by decide)
        have y1 := hc2 1 (by decide)
        have y2 := hc2 2 (by decide)
        have y3 := hc2 3 (by decide)
        simp only [edR, Nat.add_zero, List.getElem?_cons_zero, List.getElem?_cons_succ] at x0 x1 x2 x3 y0 y1 y2 y3
        obtain ⟨ef, et, ec, ek⟩ := E
        dsimp only at x0 x1 x2 x3 y0 y1 y2 y3
        clear hc1 hc2
        have hiI : (i : Int) < es.length := by omega
        go_wp2_with fail
        refine Mix.region [0, 0, 0, 0, 0, 0, 0, 0, 0, 0] (fun _ => True) (by kernel_rfl) (by kernel_rfl) trivial ?_
        simp only [List.zip_cons_cons, List.zip_nil_right]
        iterate 10 (refine Mix.step0 fun K hK => ?_; go_simp; (try (go_bits; try go_simp)); first | ((with_reducible refine hK _ _ ?_); clear hK K) | ((try (simp only [IntWalk.iteOmega]; try go_simp)); (try go_bits); (with_reducible refine hK _ _ ?_); clear hK K))
        refine Mix.done ?_
        go_wp2_with fail
        refine Round.intro (es.length - (i + 1)) ?measure4 (by kernel_rfl) (hJ1 _ _ _ ?rel4)
        case' rel4 => (try dsimp only [nthV])
        case measure4 => omega
        case rel4 => exact ⟨i + 1, by go_num, hlt, rfl, hs.drew⟩
      · obtain rfl : i = es.length := by omega
        have c0 := cell_of (hs.cells 3 rfl) 0
        have c1 := cell_of (hs.cells 3 rfl) 1
        simp only [List.getElem?_toArray, List.getElem?_cons_zero, List.getElem?_cons_succ] at c0 c1
        have d0 := cell_of (hs.cells 0 rfl) 0
        have d1 := cell_of (hs.cells 0 rfl) 1
        simp only [List.getElem?_toArray, List.getElem?_cons_zero, List.getElem?_cons_succ] at d0 d1
        go_wp2_with fail
        refine (same_eq _ _ fl _ (hs.rdInts 4 rfl) (hs.rdInts 1 rfl)).mono ?_
        rintro en w8 ⟨rfl, hb⟩
        have hs2 := hs.belowStep hb
        clear hs hb n0 n1 c0 c1 d0 d1
        have hs := hs2
        clear hs2
        have n0 := cell_of (hs.cells 7 rfl) 0
        have n1 := cell_of (hs.cells 7 rfl) 1
        simp only [List.getElem?_toArray, List.getElem?_cons_zero, List.getElem?_cons_succ] at n0 n1
        have c0 := cell_of (hs.cells 3 rfl) 0
        have c1 := cell_of (hs.cells 3 rfl) 1
        simp only [List.getElem?_toArray, List.getElem?_cons_zero, List.getElem?_cons_succ] at c0 c1
        have d0 := cell_of (hs.cells 0 rfl) 0
        have d1 := cell_of (hs.cells 0 rfl) 1
        simp only [List.getElem?_toArray, List.getElem?_cons_zero, List.getElem?_cons_succ] at d0 d1
        go_wp2_with fail
        refine (same_eq _ _ pot _ (hs.rdInts 5 rfl) (hs.rdInts 2 rfl)).mono ?_
        rintro en w9 ⟨rfl, hb⟩
        have hs2 := hs.belowStep hb
        clear hs hb n0 n1 c0 c1 d0 d1
        have hs := hs2
        clear hs2
        have n0 := cell_of (hs.cells 7 rfl) 0
        have n1 := cell_of (hs.cells 7 rfl) 1
        simp only [List.getElem?_toArray, List.getElem?_cons_zero, List.getElem?_cons_succ] at n0 n1
        have c0 := cell_of (hs.cells 3 rfl) 0
        have c1 := cell_of (hs.cells 3 rfl) 1
        simp only [List.getElem?_toArray, List.getElem?_cons_zero, List.getElem?_cons_succ] at c0 c1
        have d0 := cell_of (hs.cells 0 rfl) 0
        have d1 := cell_of (hs.cells 0 rfl) 1
        simp only [List.getElem?_toArray, List.getElem?_cons_zero, List.getElem?_cons_succ] at d0 d1
        go_wp2_with fail
        refine (rright_any nn a c es _ (hs.rdG h)).mono ?_
        rintro en w10 ⟨rfl, hb⟩
        have hs2 := hs.belowStep hb
        clear hs hb n0 n1 c0 c1 d0 d1
        have hs := hs2
        clear hs2
        have n0 := cell_of (hs.cells 7 rfl) 0
        have n1 := cell_of (hs.cells 7 rfl) 1
        simp only [List.getElem?_toArray, List.getElem?_cons_zero, List.getElem?_cons_succ] at n0 n1
        have c0 := cell_of (hs.cells 3 rfl) 0
        have c1 := cell_of (hs.cells 3 rfl) 1
        simp only [List.getElem?_toArray, List.getElem?_cons_zero, List.getElem?_cons_succ] at c0 c1
        have d0 := cell_of (hs.cells 0 rfl) 0
        have d1 := cell_of (hs.cells 0 rfl) 1
        simp only [List.getElem?_toArray, List.getElem?_cons_zero, List.getElem?_cons_succ] at d0 d1
        cases hr : rightB nn es
        · obtain ⟨rfl, rfl, rfl, rfl⟩ := HBD.out.no hr
          simp only [List.length_nil] at hs c0 c1 d0 d1 ⊢
          clear hr HBD
          go_wp2_with fail
          refine (works_any _).mono ?_
          rintro en w11 ⟨rfl, hb⟩
          have hs2 := hs.belowStep hb
          clear hs hb n0 n1 c0 c1 d0 d1
          go_wp2_with fail
          go_ret
          exact ⟨rfl, hs2.below⟩
        · obtain ⟨rfl, hck, t0, t1, hfl⟩ := HBD.out.yes hr
          clear hfl
          obtain ⟨hn1, hn40, _⟩ := right_cap hr
          have HCK := Lib.hid hck
          have hd1 : decide (0 ≤ st) = true := decide_eq_true t0
          have hd2 : decide (st ≤ 212 * (nn + es.length) + 53) = true := decide_eq_true (by omega)
          clear hr HBD hck
          go_wp2_with fail
          refine (rcheck_any nn a c es _ fl _ pot _ (hs.rdG h) (hs.rdInts 4 rfl) (hs.rdInts 5 rfl)).mono ?_
          rintro en w11 ⟨rfl, hb⟩
          rw [HCK.out]
          have hs2 := hs.belowStep hb
          clear hs hb n0 n1 c0 c1 d0 d1
          have hs := hs2
          clear hs2
          have n0 := cell_of (hs.cells 7 rfl) 0
          have n1 := cell_of (hs.cells 7 rfl) 1
          simp only [List.getElem?_toArray, List.getElem?_cons_zero, List.getElem?_cons_succ] at n0 n1
          have c0 := cell_of (hs.cells 3 rfl) 0
          have c1 := cell_of (hs.cells 3 rfl) 1
          simp only [List.getElem?_toArray, List.getElem?_cons_zero, List.getElem?_cons_succ] at c0 c1
          have d0 := cell_of (hs.cells 0 rfl) 0
          have d1 := cell_of (hs.cells 0 rfl) 1
          simp only [List.getElem?_toArray, List.getElem?_cons_zero, List.getElem?_cons_succ] at d0 d1
          go_wp2_with fail
          refine (works_any _).mono ?_
          rintro en w12 ⟨rfl, hb⟩
          have hs2 := hs.belowStep hb
          clear hs hb n0 n1 c0 c1 d0 d1
          go_wp2_with fail
          go_ret
          exact ⟨rfl, hs2.below⟩
end Go.Proofs.Ytacbfpgijmpilaa
