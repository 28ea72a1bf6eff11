/-
  The reference's Check, Gap; the chapter's example, walked.
-/
import Derived.Test.YtlbpkfjebaelpaaRA
import Derived.Test.YtlbpkfjebaelpaaLA
set_option linter.unusedVariables false
set_option linter.unusedSimpArgs false
namespace Go.Proofs.Ytlbpkfjebaelpaa
open Go Go.RowKit Go.Mem Go.NetP Go.RestP Go.CertP Go.Shelf

set_option maxHeartbeats 2000000 in
theorem rcheck_any (n : Int) (a : Option Addr) (c : Nat) (es : List Ed) (vf : Value) (fl : List Int) (vp : Value) (pot : List Int) (w : World) (h : RdG edR w (.slice a es.length c) es) (hf : Rd .i64 w vf fl) (hp : Rd .i64 w vp pot) :
    Calls Try.prog 22 #[.agg #[.int .i64 n, .slice a es.length c], .agg #[vf, vp]] w fun en w' => en = .returned (.bool (checkB n es fl pot)) ∧ Below w.heap.size w w' := by
  obtain ⟨af, cf, rfl⟩ := hf.shape
  obtain ⟨ap, cp, rfl⟩ := hp.shape
  have hs := ((Sep.start w).newCells #[.int .i64 n, .slice a es.length c] 28).newCells #[.slice af fl.length cf, .slice ap pot.length cp] 47
  simp only [World.size_alloc] at hs
  rw [← check_fits]
  cases hr : rightB n es
  · have HR := Lib.hid hr
    clear hr
    go_enter Try.func22, Try.ntmps22
    go_wp2_with fail
    refine (rright_any _ a c es _ (hs.rdG h)).mono ?_
    rintro en w1 ⟨rfl, hb⟩
    rw [HR.out]
    replace hs := hs.belowStep hb
    clear hb
    (try clear n0 n1 c0 c1)
    go_wp2_with fail
    go_ret
    exact ⟨rfl, hs.below⟩
  · cases hfl : flowsB n es fl
    · have HR := Lib.hid hr
      have HFL := Lib.hid hfl
      clear hr hfl
      go_enter Try.func22, Try.ntmps22
      go_wp2_with fail
      refine (rright_any _ a c es _ (hs.rdG h)).mono ?_
      rintro en w1 ⟨rfl, hb⟩
      rw [HR.out]
      replace hs := hs.belowStep hb
      clear hb
      (try clear n0 n1 c0 c1)
      have n0 := cell_of (hs.cells 1 rfl) 0
      have n1 := cell_of (hs.cells 1 rfl) 1
      have c0 := cell_of (hs.cells 0 rfl) 0
      have c1 := cell_of (hs.cells 0 rfl) 1
      simp only [List.getElem?_toArray, List.getElem?_cons_zero, List.getElem?_cons_succ] at n0 n1 c0 c1
      go_wp2_with fail
      refine (rflows_any _ a c es _ fl _ (hs.rdG h) (hs.rd hf)).mono ?_
      rintro en w2 ⟨rfl, hb⟩
      rw [HFL.out]
      replace hs := hs.belowStep hb
      clear hb
      (try clear n0 n1 c0 c1)
      go_wp2_with fail
      go_ret
      exact ⟨rfl, hs.below⟩
    · have HR := Lib.hid hr
      have HFL := Lib.hid hfl
      clear hr hfl
      obtain ⟨T, hT⟩ : ∃ T, T = fitsB n es fl pot := ⟨_, rfl⟩
      rw [← hT]
      have HT := Lib.hid hT
      clear hT
      go_enter Try.func22, Try.ntmps22
      go_wp2_with fail
      refine (rright_any _ a c es _ (hs.rdG h)).mono ?_
      rintro en w1 ⟨rfl, hb⟩
      rw [HR.out]
      replace hs := hs.belowStep hb
      clear hb
      (try clear n0 n1 c0 c1)
      have n0 := cell_of (hs.cells 1 rfl) 0
      have n1 := cell_of (hs.cells 1 rfl) 1
      have c0 := cell_of (hs.cells 0 rfl) 0
      have c1 := cell_of (hs.cells 0 rfl) 1
      simp only [List.getElem?_toArray, List.getElem?_cons_zero, List.getElem?_cons_succ] at n0 n1 c0 c1
      go_wp2_with fail
      refine (rflows_any _ a c es _ fl _ (hs.rdG h) (hs.rd hf)).mono ?_
      rintro en w2 ⟨rfl, hb⟩
      rw [HFL.out]
      replace hs := hs.belowStep hb
      clear hb
      (try clear n0 n1 c0 c1)
      have n0 := cell_of (hs.cells 1 rfl) 0
      have n1 := cell_of (hs.cells 1 rfl) 1
      have c0 := cell_of (hs.cells 0 rfl) 0
      have c1 := cell_of (hs.cells 0 rfl) 1
      simp only [List.getElem?_toArray, List.getElem?_cons_zero, List.getElem?_cons_succ] at n0 n1 c0 c1
      go_wp2_with fail
      refine (rfits_any _ a c es _ fl _ pot _ (hs.rdG h) (hs.rd hf) (hs.rd hp)).mono ?_
      rintro en w3 ⟨rfl, hb⟩
      rw [← HT.out]
      replace hs := hs.belowStep hb
      clear hb
      (try clear n0 n1 c0 c1)
      go_wp2_with fail
      go_ret
      exact ⟨rfl, hs.below⟩
def twoL : List Ed := [⟨0, 1, 5, -2⟩, ⟨1, 0, 3, 0⟩]
end Go.Proofs.Ytlbpkfjebaelpaa
