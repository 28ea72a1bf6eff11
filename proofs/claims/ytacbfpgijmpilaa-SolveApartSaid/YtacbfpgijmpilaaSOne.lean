/-
  The statements of solve: least, walked.
-/
import Derived.Test.YtacbfpgijmpilaaSWk
set_option linter.unusedVariables false
set_option linter.unusedSimpArgs false
namespace Go.Proofs.Ytacbfpgijmpilaa
open Go Go.RowKit Go.Mem Go.NetP Go.RestP Go.CertP Go.PathP Go.SolveP Go.Shelf
set_option maxRecDepth 100000 in
set_option maxHeartbeats 1000000 in
theorem least_any (nn : Int) (a : Option Addr) (c : Nat) (es : List Ed) (w : World) (h : RdG edR w (.slice a es.length c) es) (hr : rightB nn es = true) :
    Calls Try.prog 17 #[.agg #[.int .i64 nn, .slice a es.length c]] w fun en w' => (∃ fl pot, checkB nn es fl pot = true ∧ en = .returned (.tuple #[.int .i64 (costV nn es fl), .bool true])) ∧ Below w.heap.size w w' := by
  have hs := (Sep.start w).newCells #[.int .i64 nn, .slice a es.length c] 24
  obtain ⟨B1, hB⟩ : ∃ B1, B1 = w.heap.size := ⟨_, rfl⟩
  rw [← hB] at hs
  have n0 := cell_of (hs.cells 0 rfl) 0
  have n1 := cell_of (hs.cells 0 rfl) 1
  simp only [List.getElem?_toArray, List.getElem?_cons_zero, List.getElem?_cons_succ] at n0 n1
  have HR := Lib.hid hr
  clear hr
  go_enter Try.func17, Try.ntmps17
  go_wp2_with fail
  (try rw [← hB])
  clear hB
  refine (best_uni nn a c es _ (hs.rdG h)).mono ?_
  rintro en w3 ⟨af, cf, ap, cp, fl, pot, st, er, hbd, rfl, k1⟩
  obtain ⟨rfl, hck, _, _, hfl⟩ := hbd.yes HR.out
  clear hfl hbd
  have HCK := Lib.hid hck
  clear hck
  have hs4 := (hs.join k1).newCells #[.slice af fl.length cf, .slice ap pot.length cp] 29
  simp only [List.cons_append, List.nil_append] at hs4
  clear hs k1 n0 n1
  go_upto_region 2 with fail
  obtain ⟨B4, hB4⟩ : ∃ B4, B4 = w3.heap.size := ⟨_, rfl⟩
  rw [← hB4] at hs4 ⊢
  clear hB4
  generalize World.alloc w3 _ = W4 at hs4 ⊢
  have n0 := cell_of (hs4.cells 3 rfl) 0
  have n1 := cell_of (hs4.cells 3 rfl) 1
  have c0 := cell_of (hs4.cells 0 rfl) 0
  simp only [List.getElem?_toArray, List.getElem?_cons_zero, List.getElem?_cons_succ] at n0 n1 c0
  go_wp2_with fail
  refine (rcost_any nn a c es _ fl _ (hs4.rdG h) (hs4.rdInts 1 rfl)).mono ?_
  rintro en w5 ⟨rfl, hb⟩
  have hs5 := hs4.belowStep hb
  clear hs4 hb n0 n1 c0
  go_wp2_with fail
  go_ret2
  exact ⟨⟨fl, pot, HCK.out, rfl⟩, hs5.below⟩
end Go.Proofs.Ytacbfpgijmpilaa
