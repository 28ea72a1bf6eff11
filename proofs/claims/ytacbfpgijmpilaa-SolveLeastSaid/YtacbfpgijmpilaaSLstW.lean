/-
  The law SolveLeast, walked.
-/
import Derived.Test.YtacbfpgijmpilaaSLeastW
set_option linter.unusedVariables false
set_option linter.unusedSimpArgs false
namespace Go.Proofs.Ytacbfpgijmpilaa
open Go Go.RowKit Go.Mem Go.NetP Go.RestP Go.CertP Go.PathP Go.SolveP Go.Shelf
set_option maxRecDepth 100000 in
set_option maxHeartbeats 4000000 in
theorem solveLeast_any (nn : Int) (a : Option Addr) (c : Nat) (es : List Ed) (w : World) (h : RdG edR w (.slice a es.length c) es) :
    Calls Try.prog 4 #[.agg #[.int .i64 nn, .slice a es.length c]] w fun en w' => en = .returned (.bool true) ∧ Below w.heap.size w w' := by
  have hle := h.le'
  have hs := (Sep.start w).newCells #[.int .i64 nn, .slice a es.length c] 24
  obtain ⟨B1, hB⟩ : ∃ B1, B1 = w.heap.size := ⟨_, rfl⟩
  rw [← hB] at hs
  have n0 := cell_of (hs.cells 0 rfl) 0
  have n1 := cell_of (hs.cells 0 rfl) 1
  simp only [List.getElem?_toArray, List.getElem?_cons_zero, List.getElem?_cons_succ] at n0 n1
  by_cases q2 : 40 < es.length
  · have d0 : decide (40 < (es.length : Int)) = true := decide_eq_true (by omega)
    go_enter Try.func4, Try.ntmps4
    go_wp2_with fail
    (try rw [← hB])
    clear hB
    refine (works_any _).mono ?_
    rintro en w2 ⟨rfl, hb⟩
    have hs2 := hs.belowStep hb
    clear hs hb
    go_wp2_with fail
    go_ret
    exact ⟨rfl, hs2.below⟩
  have d0 : decide (40 < (es.length : Int)) = false := decide_eq_false (by omega)
  by_cases q0 : 12 < nn
  · go_enter Try.func4, Try.ntmps4
    go_wp2_with fail
    (try rw [← hB])
    clear hB
    refine (works_any _).mono ?_
    rintro en w2 ⟨rfl, hb⟩
    have hs2 := hs.belowStep hb
    clear hs hb
    go_wp2_with fail
    go_ret
    exact ⟨rfl, hs2.below⟩
  have hl1 : es.length ≤ 40 := by omega
  clear q2
  cases hr : rightB nn es
  · have HR := Lib.hid hr
    clear hr
    go_enter Try.func4, Try.ntmps4
    go_wp2_with fail
    (try rw [← hB])
    clear hB
    refine (rright_any nn a c es _ (hs.rdG h)).mono ?_
    rintro en w1 ⟨rfl, hb⟩
    rw [HR.out]
    replace hs := hs.belowStep hb
    clear hb n0 n1
    go_wp2_with fail
    refine (works_any _).mono ?_
    rintro en w2 ⟨rfl, hb⟩
    have hs2 := hs.belowStep hb
    clear hs hb
    go_wp2_with fail
    go_ret
    exact ⟨rfl, hs2.below⟩
  have HR := Lib.hid hr
  clear hr
  obtain ⟨N, rfl⟩ : ∃ N : Nat, nn = N := ⟨nn.toNat, by have := (right_cap HR.out).1; omega⟩
  go_enter Try.func4, Try.ntmps4
  go_wp2_with fail
  (try rw [← hB])
  clear hB
  refine (rright_any N a c es _ (hs.rdG h)).mono ?_
  rintro en w1 ⟨rfl, hb⟩
  rw [HR.out]
  replace hs := hs.belowStep hb
  clear hb n0 n1
  go_wp2_with fail
  refine wp_loopM [none, none, some 2, some 3, none, none, none, none, none, none, none, none, none, none, none, none, none, none, none, none, none, none, none, none, some 24, some 25, some 26, some 27, some 28, some 29, some 30, some 31, some 32, some 33, some 34, some 35, some 36, some 37, some 38, none, none, none, none, none, none, none, none, none, none, none, none, none, none, none, none, none, none, none, none, none, none, none, none, none, none, none, none, none, none, none, none, none] (fun (r : Nat) (f : Nat → Value) (wr : World) => (fun (v : Value) => ∃ i : Nat, v = .int .i64 i ∧ i ≤ es.length ∧ r = es.length - i ∧ Sep w wr [cellsT B1 #[.int .i64 N, .slice a es.length c] 24]) (f 3)) (es.length) (by kernel_rfl) ?atStart1 ?round1
  case' atStart1 => (try dsimp only [nthV])
  case' round1 =>
    intro gk f wr l hl hrel J1 K1 hJ1 hK1
    (try simp only [mask] at hl)
    generalize f 3 = u3 at hl hrel
    subst hl
    (try dsimp only at hrel)
  case atStart1 => exact ⟨0, rfl, Nat.zero_le _, rfl, hs⟩
  case round1 =>
    clear hs
    obtain ⟨i, rfl, hi, rfl, hs⟩ := hrel
    have n0 := cell_of (hs.cells 0 rfl) 0
    have n1 := cell_of (hs.cells 0 rfl) 1
    simp only [List.getElem?_toArray, List.getElem?_cons_zero, List.getElem?_cons_succ] at n0 n1
    by_cases hlt : i < es.length
    · have hiI : (i : Int) < es.length := by omega
      obtain ⟨ba, oa, eqa, _, hca⟩ := (hs.rdG h).at i hlt
      subst eqa
      have x2 := hca 2 (by decide)
      simp only [edR, List.getElem?_cons_zero, List.getElem?_cons_succ] at x2
      obtain ⟨X, hX⟩ : ∃ X, X = es[i].c := ⟨_, rfl⟩
      rw [← hX] at x2
      clear hca hX
      by_cases q5 : 200 < X
      · go_wp2_with fail
        refine (works_any _).mono ?_
        rintro en w2 ⟨rfl, hb⟩
        have hs2 := hs.belowStep hb
        clear hs hb
        go_wp2_with fail
        go_ret
        exact ⟨rfl, hs2.below⟩
      · go_wp2_with fail
        refine Round.intro (es.length - (i + 1)) ?measure2 (by kernel_rfl) (hJ1 _ _ _ ?rel2)
        case' rel2 => (try dsimp only [nthV])
        case measure2 => omega
        case rel2 => exact ⟨i + 1, by go_num, hlt, rfl, hs⟩
    · obtain rfl : i = es.length := by omega
      clear hi hlt
      go_wp2_with fail
      refine (refLeast_any N a c es 2000 _ (hs.rdG h) HR.out (by omega)).mono ?_
      rintro en w3 ⟨⟨K, b, rfl, hK⟩, hb⟩
      have HK := Lib.hid hK
      replace hs := hs.belowStep hb
      clear hb hK n0 n1
      have n0 := cell_of (hs.cells 0 rfl) 0
      have n1 := cell_of (hs.cells 0 rfl) 1
      simp only [List.getElem?_toArray, List.getElem?_cons_zero, List.getElem?_cons_succ] at n0 n1
      cases b
      · clear HK
        go_wp2_with fail
        refine (works_any _).mono ?_
        rintro en w2 ⟨rfl, hb⟩
        have hs2 := hs.belowStep hb
        clear hs hb
        go_wp2_with fail
        go_ret
        exact ⟨rfl, hs2.below⟩
      · obtain ⟨fl0, pot0, hck0, hK⟩ := HK.out rfl
        have HC0 := Lib.hid hck0
        have HKK := Lib.hid hK
        clear HK hck0 hK
        go_wp2_with fail
        refine (best_uni N a c es _ (hs.rdG h)).mono ?_
        rintro en w3 ⟨af, cf, ap, cp, fl, pot, st, er, hbd, rfl, k1⟩
        obtain ⟨rfl, hck, _, _, hfl⟩ := hbd.yes HR.out
        clear hfl hbd
        have HCK := Lib.hid hck
        have HFL := Lib.hid (SolveP.check_flows hck)
        have HKE := Lib.hid ((check_cost hck HC0.out).trans HKK.out.symm)
        clear hck
        have hs4 := (hs.join k1).newCells #[.slice af fl.length cf, .slice ap pot.length cp] 29
        simp only [List.cons_append, List.nil_append] at hs4
        clear hs k1 n0 n1
        go_upto_region 12 with fail
        obtain ⟨B4, hB4⟩ : ∃ B4, B4 = w3.heap.size := ⟨_, rfl⟩
        rw [← hB4] at hs4 ⊢
        clear hB4
        generalize World.alloc w3 _ = W4 at hs4 ⊢
        have hs := hs4
        clear hs4
        have n0 := cell_of (hs.cells 3 rfl) 0
        have n1 := cell_of (hs.cells 3 rfl) 1
        simp only [List.getElem?_toArray, List.getElem?_cons_zero, List.getElem?_cons_succ] at n0 n1
        have c0 := cell_of (hs.cells 0 rfl) 0
        simp only [List.getElem?_toArray, List.getElem?_cons_zero, List.getElem?_cons_succ] at c0
        go_wp2_with fail
        refine (rflows_any N a c es _ fl _ (hs.rdG h) (hs.rdInts 1 rfl)).mono ?_
        rintro en w5 ⟨rfl, hb⟩
        rw [HFL.out]
        replace hs := hs.belowStep hb
        clear hb n0 n1 c0
        have n0 := cell_of (hs.cells 3 rfl) 0
        have n1 := cell_of (hs.cells 3 rfl) 1
        simp only [List.getElem?_toArray, List.getElem?_cons_zero, List.getElem?_cons_succ] at n0 n1
        have c0 := cell_of (hs.cells 0 rfl) 0
        simp only [List.getElem?_toArray, List.getElem?_cons_zero, List.getElem?_cons_succ] at c0
        go_wp2_with fail
        refine (rcost_any N a c es _ fl _ (hs.rdG h) (hs.rdInts 1 rfl)).mono ?_
        rintro en w6 ⟨rfl, hb⟩
        rw [HKE.out]
        replace hs := hs.belowStep hb
        clear hb n0 n1 c0
        go_wp2_with fail
        refine (works_any _).mono ?_
        rintro en w2 ⟨rfl, hb⟩
        have hs2 := hs.belowStep hb
        clear hs hb
        go_wp2_with fail
        go_ret
        exact ⟨rfl, hs2.below⟩
end Go.Proofs.Ytacbfpgijmpilaa
