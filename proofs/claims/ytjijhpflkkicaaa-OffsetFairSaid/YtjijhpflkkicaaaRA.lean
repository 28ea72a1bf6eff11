/-
  Packages rest and cert and their references, walked.
-/
import Derived.Test.YtjijhpflkkicaaaNB
import Derived.Test.YtjijhpflkkicaaaNA
import Derived.Test.YtjijhpflkkicaaaLA
import Derived.WalkSpells
import Derived.Test.YtjijhpflkkicaaaNC
import Derived.Shelf.Abstract
import Derived.Laws.EntriesVeiled
set_option linter.unusedVariables false
set_option linter.unusedSimpArgs false
namespace Go.Proofs.Ytjijhpflkkicaaa
open Go Go.RowKit Go.Mem Go.NetP Go.RestP

set_option maxHeartbeats 400000 in
theorem has_any (n : Int) (a : Option Addr) (l c : Nat) (i : Int) (w : World) (hl : l ≤ 1000000000) : Calls Try.prog 86 #[.agg #[.int .i64 n, .slice a l c], .int .i64 i] w fun e w' => e = .returned (.bool (hasB l i)) ∧ Below w.heap.size w w' := by
  have hs := (Sep.start w).newCells #[.int .i64 n, .slice a l c] 48
  by_cases h0 : 0 ≤ i
  · have H := Lib.hid (show hasB l i = decide (i < 2 * (l : Int)) by simp [hasB, h0])
    go_enter Try.func86, Try.ntmps86
    go_wp2_with fail
    go_ret
    exact ⟨by rw [H.out]; rfl, hs.below⟩
  · have H := Lib.hid (show hasB l i = false by simp [hasB, h0])
    go_enter Try.func86, Try.ntmps86
    go_wp2_with fail
    go_ret
    exact ⟨by rw [H.out]; rfl, hs.below⟩

set_option maxHeartbeats 400000 in
theorem back_any (a : Nat) (w : World) (ha : a ≤ 1000000000) : Calls Try.prog 97 #[.int .i64 a] w fun e w' => e = .returned (.bool (oddB a)) ∧ w = w' := by
  have hb := and1_i64 a (by omega)
  rcases Nat.mod_two_eq_zero_or_one a with h | h
  · have H := Lib.hid (show oddB a = false by simp [oddB, h])
    have hb' : bits .and .i64 (a : Int) 1 = 0 := by rw [hb]; omega
    clear hb h
    go_enter Try.func97, Try.ntmps97
    go_wp2_with fail
    go_ret
    exact ⟨by rw [H.out]; rfl, rfl⟩
  · have H := Lib.hid (show oddB a = true by simp [oddB, h])
    have hb' : bits .and .i64 (a : Int) 1 = 1 := by rw [hb]; omega
    clear hb h
    go_enter Try.func97, Try.ntmps97
    go_wp2_with fail
    go_ret
    exact ⟨by rw [H.out]; rfl, rfl⟩

set_option maxHeartbeats 1000000 in
theorem ends_any (n : Int) (a : Option Addr) (c : Nat) (es : List Ed) (i : Nat) (w : World) (h : RdG edR w (.slice a es.length c) es) (hi : hasB es.length i = true) (hsm : es.length ≤ 100000) (hk : ∀ e ∈ es, -1000 ≤ e.k ∧ e.k ≤ 1000) :
    Calls Try.prog 96 #[.agg #[.int .i64 n, .slice a es.length c], .int .i64 i] w fun en w' => en = .returned (.tuple #[.int .i64 (endsE es i).1, .int .i64 (endsE es i).2.1, .int .i64 (endsE es i).2.2]) ∧ Below w.heap.size w w' := by
  have hh := has_half hi
  have hs := (Sep.start w).newCells #[.int .i64 n, .slice a es.length c] 48
  have n1 := cell_of (hs.cells 0 rfl) 1
  obtain ⟨b1, o1, e1, hb1, hc1⟩ := (hs.rdG h).at (i / 2) hh
  subst e1
  obtain ⟨e, hee⟩ : ∃ e, e = es[i / 2] := ⟨_, rfl⟩
  have hk' := hk e (by rw [hee]; exact List.getElem_mem hh)
  have HE := Lib.hid (show endsE es i = if oddB i = true then (e.t, e.f, -e.k) else (e.f, e.t, e.k) by unfold endsE; rw [edAt_of hh, hee])
  rw [← hee] at hc1
  have x0 := hc1 0 (by decide)
  have x1 := hc1 1 (by decide)
  have x2 := hc1 2 (by decide)
  have x3 := hc1 3 (by decide)
  simp only [edR, Nat.add_zero, List.getElem?_toArray, List.getElem?_cons_zero, List.getElem?_cons_succ] at x0 x1 x2 x3 n1
  have hs2 := hs.newCells #[.int .i64 e.f, .int .i64 e.t, .int .i64 e.c, .int .i64 e.k] 77
  obtain ⟨k0, k1⟩ := hk'
  clear hc1 hee hk
  go_enter Try.func96, Try.ntmps96
  go_wp2_with fail
  refine (back_any i _ (by omega)).mono ?_
  rintro en w1 ⟨rfl, rfl⟩
  cases ho : oddB i
  · rw [ho] at HE
    go_wp2_with fail
    refine Mix.region [0, 0, 0, 0, 0, 0, 0, 0, 0] (fun _ => True) (by kernel_rfl) (by kernel_rfl) trivial ?_
    simp only [List.zip_cons_cons, List.zip_nil_right]
    iterate 9 (refine Mix.step0 fun K hK => ?_; go_simp; (try (go_bits; try go_simp)); first | ((with_reducible refine hK _ _ ?_); clear hK K) | ((try (simp only [IntWalk.iteOmega]; try go_simp)); (try go_bits); (with_reducible refine hK _ _ ?_); clear hK K))
    refine Mix.done ?_
    go_wp2_with fail
    go_ret3
    exact ⟨by rw [HE.out]; rfl, hs2.drew.below⟩
  · rw [ho] at HE
    go_wp2_with fail
    refine Mix.region [0, 0, 0, 0, 0, 0, 0, 0, 0, 0] (fun _ => True) (by kernel_rfl) (by kernel_rfl) trivial ?_
    simp only [List.zip_cons_cons, List.zip_nil_right]
    iterate 10 (refine Mix.step0 fun K hK => ?_; go_simp; (try (go_bits; try go_simp)); first | ((with_reducible refine hK _ _ ?_); clear hK K) | ((try (simp only [IntWalk.iteOmega]; try go_simp)); (try go_bits); (with_reducible refine hK _ _ ?_); clear hK K))
    refine Mix.done ?_
    go_wp2_with fail
    go_ret3
    exact ⟨by rw [HE.out]; rfl, hs2.drew.below⟩

set_option maxHeartbeats 1000000 in
theorem room_any (n : Int) (a : Option Addr) (c : Nat) (es : List Ed) (v : Value) (fl : List Int) (i : Nat) (w : World) (h : RdG edR w (.slice a es.length c) es) (h' : Rd .i64 w v fl) (hi : hasB es.length i = true) (hw : withinB n es fl = true) :
    Calls Try.prog 88 #[.agg #[.int .i64 n, .slice a es.length c], v, .int .i64 i] w fun en w' => en = .returned (.int .i64 (roomE es fl i)) ∧ Below w.heap.size w w' := by
  obtain ⟨a', c', rfl⟩ := h'.shape
  have hh := has_half hi
  have hlen := (within_cap hw).1
  have hl200 := (right_cap (within_cap hw).2.1).2.2.1
  have hhf : i / 2 < fl.length := by omega
  have hs := (Sep.start w).newCells #[.int .i64 n, .slice a es.length c] 48
  have n1 := cell_of (hs.cells 0 rfl) 1
  obtain ⟨b1, o1, e1, hb1, hc1⟩ := (hs.rdG h).at (i / 2) hh
  obtain ⟨b2, o2, e2, hb2, x0⟩ := (hs.rd h').at (i / 2) hhf
  subst e1; subst e2
  obtain ⟨y0, y1⟩ := within_at hw hh
  have he := (edgeB_iff _ _).1 ((right_cap (within_cap hw).2.1).2.2.2.2 _ (List.getElem_mem hh))
  obtain ⟨_, _, q0, q1, _, _⟩ := he
  have HE := Lib.hid (show roomE es fl i = if oddB i = true then fl.getD (i / 2) 0 else es[i / 2].c - fl.getD (i / 2) 0 by unfold roomE; rw [edAt_of hh])
  have x2 := hc1 2 (by decide)
  simp only [edR, Nat.add_zero, List.getElem?_toArray, List.getElem?_cons_zero, List.getElem?_cons_succ] at x2 n1
  generalize fl.getD (i / 2) 0 = x at *
  generalize es[i / 2].c = q at *
  have HHI := Lib.hid hi
  clear hc1 hw hlen hi
  have hi0 : i ≤ 1000000 := by omega
  go_enter Try.func88, Try.ntmps88
  go_wp2_with fail
  refine (back_any i _ (by omega)).mono ?_
  rintro en w1 ⟨rfl, rfl⟩
  cases ho : oddB i
  · rw [ho] at HE
    go_wp2_with fail
    go_ret
    exact ⟨by rw [HE.out]; rfl, hs.below⟩
  · rw [ho] at HE
    go_wp2_with fail
    go_ret
    exact ⟨by rw [HE.out]; rfl, hs.below⟩

set_option maxHeartbeats 1000000 in
theorem endsX_any (n : Int) (a : Option Addr) (c : Nat) (es : List Ed) (i : Int) (w : World) (h : RdG edR w (.slice a es.length c) es) (hsm : es.length ≤ 100000) :
    Calls Try.prog 85 #[.agg #[.int .i64 n, .slice a es.length c], .int .i64 i] w fun en w' => en = .returned (.tuple #[.int .i64 (endsV n es i).1, .int .i64 (endsV n es i).2.1, .int .i64 (endsV n es i).2.2]) ∧ Below w.heap.size w w' := by
  have hs := (Sep.start w).newCells #[.int .i64 n, .slice a es.length c] 48
  go_enter Try.func85, Try.ntmps85
  go_wp2_with fail
  refine (has_any n a es.length c i _ (by omega)).mono ?_
  rintro en w1 ⟨rfl, hb⟩
  replace hs := hs.belowStep hb
  clear hb; (try clear n0 n1)
  cases hh : hasB es.length i
  · have HE := Lib.hid (show endsV n es i = (0, 0, 0) by simp [endsV, hh])
    clear hh
    go_wp2_with fail
    go_ret3
    exact ⟨by rw [HE.out]; rfl, hs.below⟩
  · have n0 := cell_of (hs.cells 0 rfl) 0
    have n1 := cell_of (hs.cells 0 rfl) 1
    simp only [List.getElem?_toArray, List.getElem?_cons_zero, List.getElem?_cons_succ] at n0 n1
    go_wp2_with fail
    refine (right_any n a c es _ (hs.rdG h)).mono ?_
    rintro en w2 ⟨rfl, hb⟩
    replace hs := hs.belowStep hb
    clear hb; (try clear n0 n1)
    cases hr : rightB n es
    · have HE := Lib.hid (show endsV n es i = (0, 0, 0) by simp [endsV, hr])
      clear hh hr
      go_wp2_with fail
      go_ret3
      exact ⟨by rw [HE.out]; rfl, hs.below⟩
    · have hi := (hasB_iff _ _).1 hh
      obtain ⟨I, rfl⟩ : ∃ I : Nat, i = I := ⟨i.toNat, by omega⟩
      have HE := Lib.hid (show endsV n es I = endsE es I by simp [endsV, hh, hr])
      have HR := Lib.hid hr
      have HH := Lib.hid hh
      clear hi hh hr
      have n0 := cell_of (hs.cells 0 rfl) 0
      have n1 := cell_of (hs.cells 0 rfl) 1
      simp only [List.getElem?_toArray, List.getElem?_cons_zero, List.getElem?_cons_succ] at n0 n1
      go_wp2_with fail
      refine (ends_any n a c es I _ (hs.rdG h) HH.out hsm (fun e he => by have := (edgeB_iff _ _).1 ((right_cap HR.out).2.2.2.2 e he); omega)).mono ?_
      rintro en w3 ⟨rfl, hb⟩
      replace hs := hs.belowStep hb
      clear hb; (try clear n0 n1)
      go_wp2_with fail
      go_ret3
      exact ⟨by rw [HE.out]; rfl, hs.below⟩

set_option maxHeartbeats 1000000 in
theorem roomX_any (n : Int) (a : Option Addr) (c : Nat) (es : List Ed) (v : Value) (fl : List Int) (i : Int) (w : World) (h : RdG edR w (.slice a es.length c) es) (h' : Rd .i64 w v fl) (hsm : es.length ≤ 100000) :
    Calls Try.prog 65 #[.agg #[.int .i64 n, .slice a es.length c], v, .int .i64 i] w fun en w' => en = .returned (.int .i64 (roomV n es fl i)) ∧ Below w.heap.size w w' := by
  have hs := (Sep.start w).newCells #[.int .i64 n, .slice a es.length c] 48
  obtain ⟨a', c', rfl⟩ := h'.shape
  go_enter Try.func65, Try.ntmps65
  go_wp2_with fail
  refine (has_any n a es.length c i _ (by omega)).mono ?_
  rintro en w1 ⟨rfl, hb⟩
  replace hs := hs.belowStep hb
  clear hb; (try clear n0 n1)
  cases hh : hasB es.length i
  · have HE := Lib.hid (show roomV n es fl i = 0 by simp [roomV, hh])
    clear hh
    go_wp2_with fail
    go_ret
    exact ⟨by rw [HE.out]; rfl, hs.below⟩
  · have n0 := cell_of (hs.cells 0 rfl) 0
    have n1 := cell_of (hs.cells 0 rfl) 1
    simp only [List.getElem?_toArray, List.getElem?_cons_zero, List.getElem?_cons_succ] at n0 n1
    go_wp2_with fail
    refine (within_any n a c es _ fl _ (hs.rdG h) (hs.rd h')).mono ?_
    rintro en w2 ⟨rfl, hb⟩
    replace hs := hs.belowStep hb
    clear hb; (try clear n0 n1)
    cases hr : withinB n es fl
    · have HE := Lib.hid (show roomV n es fl i = 0 by simp [roomV, hr])
      clear hh hr
      go_wp2_with fail
      go_ret
      exact ⟨by rw [HE.out]; rfl, hs.below⟩
    · have hi := (hasB_iff _ _).1 hh
      obtain ⟨I, rfl⟩ : ∃ I : Nat, i = I := ⟨i.toNat, by omega⟩
      have HE := Lib.hid (show roomV n es fl I = roomE es fl I by simp [roomV, hh, hr])
      have HR := Lib.hid hr
      have HH := Lib.hid hh
      clear hi hh hr
      have n0 := cell_of (hs.cells 0 rfl) 0
      have n1 := cell_of (hs.cells 0 rfl) 1
      simp only [List.getElem?_toArray, List.getElem?_cons_zero, List.getElem?_cons_succ] at n0 n1
      go_wp2_with fail
      refine (room_any n a c es _ fl I _ (hs.rdG h) (hs.rd h') HH.out HR.out).mono ?_
      rintro en w3 ⟨rfl, hb⟩
      replace hs := hs.belowStep hb
      clear hb; (try clear n0 n1)
      go_wp2_with fail
      go_ret
      exact ⟨by rw [HE.out]; rfl, hs.below⟩
end Go.Proofs.Ytjijhpflkkicaaa
namespace Go.Proofs.Ytjijhpflkkicaaa
open Go Go.RowKit Go.Mem Go.NetP Go.RestP

end Go.Proofs.Ytjijhpflkkicaaa
namespace Go.Proofs.Ytjijhpflkkicaaa
open Go Go.RowKit Go.Mem Go.NetP Go.RestP

end Go.Proofs.Ytjijhpflkkicaaa
namespace Go.Proofs.Ytjijhpflkkicaaa
open Go Go.RowKit Go.Mem Go.NetP Go.RestP Go.CertP

def fewN (n : Int) (l : Nat) : Bool := decide (l ≤ 300) && decide (n ≤ 100)
end Go.Proofs.Ytjijhpflkkicaaa
namespace Go.Proofs.Ytjijhpflkkicaaa
open Go Go.RowKit Go.Mem Go.NetP Go.RestP Go.CertP Go.Shelf

/-- A net and what is accepted, in blocks. -/
structure InC (W : World) (nb cb : Nat) (n : Int) (vn vf vp : Value) : Prop where
  n0 : W.cell? ⟨nb, 0, none⟩ = some (.int .i64 n)
  n1 : W.cell? ⟨nb, 1, none⟩ = some vn
  c0 : W.cell? ⟨cb, 0, none⟩ = some vf
  c1 : W.cell? ⟨cb, 1, none⟩ = some vp
end Go.Proofs.Ytjijhpflkkicaaa
namespace Go.Proofs.Ytjijhpflkkicaaa
open Go Go.RowKit Go.Mem Go.NetP Go.RestP Go.CertP Go.Shelf

end Go.Proofs.Ytjijhpflkkicaaa
namespace Go.Proofs.Ytjijhpflkkicaaa
open Go Go.RowKit Go.Mem Go.NetP Go.RestP Go.CertP Go.Shelf

end Go.Proofs.Ytjijhpflkkicaaa
