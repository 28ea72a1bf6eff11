/-
  The reference's rests (gabletref12), walked.
-/
import Derived.Test.YtfnkmkfkomhhnaaRW2
import Derived.Test.YtfnkmkfkomhhnaaNRef2W
import Derived.Test.YtfnkmkfkomhhnaaRPlain2
namespace Go.Proofs.Ytfnkmkfkomhhnaa
open Go Go.RowKit Go.Mem Go.NetP Go.RestP

set_option maxHeartbeats 400000 in
theorem rhas_any (n : Int) (a : Option Addr) (l c : Nat) (i : Int) (w : World) (hl : l ≤ 1000000000) : Calls Try.prog 47 #[.agg #[.int .i64 n, .slice a l c], .int .i64 i] w fun e w' => e = .returned (.bool (hasB l i)) ∧ Below w.heap.size w w' := by
  have hs := (Sep.start w).newCells #[.int .i64 n, .slice a l c] 34
  by_cases h0 : 0 ≤ i
  · have H := Lib.hid (show hasB l i = decide (i < 2 * (l : Int)) by simp [hasB, h0])
    go_enter Try.func47, Try.ntmps47
    go_wp2_with fail
    go_ret
    exact ⟨by rw [H.out]; rfl, hs.below⟩
  · have H := Lib.hid (show hasB l i = false by simp [hasB, h0])
    go_enter Try.func47, Try.ntmps47
    go_wp2_with fail
    go_ret
    exact ⟨by rw [H.out]; rfl, hs.below⟩

/-- The test of the reference: even or odd. -/
theorem even_no {i : Nat} (h : oddB i = true) : ((i : Int) % 2 == 0) = false := by
  have : i % 2 = 1 := by simpa [oddB] using h
  rw [beq_eq_false_iff_ne]; omega
theorem even_yes {i : Nat} (h : oddB i = false) : ((i : Int) % 2 == 0) = true := by
  have : ¬ i % 2 = 1 := by simpa [oddB] using h
  rw [beq_iff_eq]; omega

set_option maxHeartbeats 1000000 in
theorem rends_any (n : Int) (a : Option Addr) (c : Nat) (es : List Ed) (i : Int) (w : World) (h : RdG edR w (.slice a es.length c) es) (hsm : es.length ≤ 100000) :
    Calls Try.prog 48 #[.agg #[.int .i64 n, .slice a es.length c], .int .i64 i] w fun en w' => en = .returned (.tuple #[.int .i64 (endsV n es i).1, .int .i64 (endsV n es i).2.1, .int .i64 (endsV n es i).2.2]) ∧ Below w.heap.size w w' := by
  have hs := (Sep.start w).newCells #[.int .i64 n, .slice a es.length c] 34
  go_enter Try.func48, Try.ntmps48
  go_wp2_with fail
  refine (rright_any n a c es _ (hs.rdG h)).mono ?_
  rintro en w1 ⟨rfl, hb⟩
  replace hs := hs.belowStep hb
  clear hb; (try clear n0 n1)
  cases hr : rightB n es
  · have HE := Lib.hid (show endsV n es i = (0, 0, 0) by simp [endsV, hr])
    clear hr
    go_wp2_with fail
    go_ret3
    exact ⟨by rw [HE.out]; rfl, hs.below⟩
  · have n0 := cell_of (hs.cells 0 rfl) 0
    have n1 := cell_of (hs.cells 0 rfl) 1
    simp only [List.getElem?_toArray, List.getElem?_cons_zero, List.getElem?_cons_succ] at n0 n1
    go_wp2_with fail
    refine (rhas_any n a es.length c i _ (by omega)).mono ?_
    rintro en w2 ⟨rfl, hb⟩
    replace hs := hs.belowStep hb
    clear hb; (try clear n0 n1)
    cases hh : hasB es.length i
    · have HE := Lib.hid (show endsV n es i = (0, 0, 0) by simp [endsV, hh])
      clear hh hr
      go_wp2_with fail
      go_ret3
      exact ⟨by rw [HE.out]; rfl, hs.below⟩
    · have hi := (hasB_iff _ _).1 hh
      obtain ⟨I, rfl⟩ : ∃ I : Nat, i = I := ⟨i.toNat, by omega⟩
      have hhf := has_half hh
      have HE := Lib.hid (show endsV n es I = endsE es I by simp [endsV, hh, hr])
      obtain ⟨b1, o1, e1, hb1, hc1⟩ := (hs.rdG h).at (I / 2) hhf
      subst e1
      obtain ⟨e, hee⟩ : ∃ e, e = es[I / 2] := ⟨_, rfl⟩
      have hk := (edgeB_iff _ _).1 ((right_cap hr).2.2.2.2 e (by rw [hee]; exact List.getElem_mem hhf))
      obtain ⟨_, _, _, _, k0, k1⟩ := hk
      have HEE := Lib.hid (show endsE es I = if oddB I = true then (e.t, e.f, -e.k) else (e.f, e.t, e.k) by unfold endsE; rw [edAt_of hhf, hee])
      rw [← hee] at hc1
      have x0 := hc1 0 (by decide)
      have x1 := hc1 1 (by decide)
      have x2 := hc1 2 (by decide)
      have x3 := hc1 3 (by decide)
      simp only [edR, Nat.add_zero, List.getElem?_cons_zero, List.getElem?_cons_succ] at x0 x1 x2 x3
      clear hc1 hee hh hr hi
      have n0 := cell_of (hs.cells 0 rfl) 0
      have n1 := cell_of (hs.cells 0 rfl) 1
      simp only [List.getElem?_toArray, List.getElem?_cons_zero, List.getElem?_cons_succ] at n0 n1
      have hs2 := hs.newCells #[.int .i64 e.f, .int .i64 e.t, .int .i64 e.c, .int .i64 e.k] 70
      cases ho : oddB I
      · rw [ho] at HEE
        have hev := even_yes ho
        go_wp2_with fail
        refine Mix.region [0, 0, 0, 0, 0, 0, 0, 0, 0] (fun _ => True) (by kernel_rfl) (by kernel_rfl) trivial ?_
        simp only [List.zip_cons_cons, List.zip_nil_right]
        iterate 9 (refine Mix.step0 fun K hK => ?_; go_simp; (try (go_bits; try go_simp)); first | ((with_reducible refine hK _ _ ?_); clear hK K) | ((try (simp only [IntWalk.iteOmega]; try go_simp)); (try go_bits); (with_reducible refine hK _ _ ?_); clear hK K))
        refine Mix.done ?_
        go_wp2_with fail
        go_ret3
        exact ⟨by rw [HE.out, HEE.out]; rfl, hs2.drew.below⟩
      · rw [ho] at HEE
        have hev := even_no ho
        go_wp2_with fail
        refine Mix.region [0, 0, 0, 0, 0, 0, 0, 0, 0, 0] (fun _ => True) (by kernel_rfl) (by kernel_rfl) trivial ?_
        simp only [List.zip_cons_cons, List.zip_nil_right]
        iterate 10 (refine Mix.step0 fun K hK => ?_; go_simp; (try (go_bits; try go_simp)); first | ((with_reducible refine hK _ _ ?_); clear hK K) | ((try (simp only [IntWalk.iteOmega]; try go_simp)); (try go_bits); (with_reducible refine hK _ _ ?_); clear hK K))
        refine Mix.done ?_
        go_wp2_with fail
        go_ret3
        exact ⟨by rw [HE.out, HEE.out]; rfl, hs2.drew.below⟩

set_option maxHeartbeats 1000000 in
theorem rroom_any (n : Int) (a : Option Addr) (c : Nat) (es : List Ed) (v : Value) (fl : List Int) (i : Int) (w : World) (h : RdG edR w (.slice a es.length c) es) (h' : Rd .i64 w v fl) (hsm : es.length ≤ 100000) :
    Calls Try.prog 37 #[.agg #[.int .i64 n, .slice a es.length c], v, .int .i64 i] w fun en w' => en = .returned (.int .i64 (roomV n es fl i)) ∧ Below w.heap.size w w' := by
  have hs := (Sep.start w).newCells #[.int .i64 n, .slice a es.length c] 34
  obtain ⟨a', c', rfl⟩ := h'.shape
  go_enter Try.func37, Try.ntmps37
  go_wp2_with fail
  refine (rwithin_any n a c es _ fl _ (hs.rdG h) (hs.rd h')).mono ?_
  rintro en w1 ⟨rfl, hb⟩
  replace hs := hs.belowStep hb
  clear hb; (try clear n0 n1)
  cases hr : withinB n es fl
  · have HE := Lib.hid (show roomV n es fl i = 0 by simp [roomV, hr])
    clear hr
    go_wp2_with fail
    go_ret
    exact ⟨by rw [HE.out]; rfl, hs.below⟩
  · have n0 := cell_of (hs.cells 0 rfl) 0
    have n1 := cell_of (hs.cells 0 rfl) 1
    simp only [List.getElem?_toArray, List.getElem?_cons_zero, List.getElem?_cons_succ] at n0 n1
    go_wp2_with fail
    refine (rhas_any n a es.length c i _ (by omega)).mono ?_
    rintro en w2 ⟨rfl, hb⟩
    replace hs := hs.belowStep hb
    clear hb; (try clear n0 n1)
    cases hh : hasB es.length i
    · have HE := Lib.hid (show roomV n es fl i = 0 by simp [roomV, hh])
      clear hh hr
      go_wp2_with fail
      go_ret
      exact ⟨by rw [HE.out]; rfl, hs.below⟩
    · have hi := (hasB_iff _ _).1 hh
      obtain ⟨I, rfl⟩ : ∃ I : Nat, i = I := ⟨i.toNat, by omega⟩
      have hhf := has_half hh
      have HE := Lib.hid (show roomV n es fl I = roomE es fl I by simp [roomV, hh, hr])
      have hlen := (within_cap hr).1
      have hhf2 : I / 2 < fl.length := by omega
      obtain ⟨b1, o1, e1, hb1, hc1⟩ := (hs.rdG h).at (I / 2) hhf
      obtain ⟨b2, o2, e2, hb2, x0⟩ := (hs.rd h').at (I / 2) hhf2
      subst e1; subst e2
      obtain ⟨y0, y1⟩ := within_at hr hhf
      have he := (edgeB_iff _ _).1 ((right_cap (within_cap hr).2.1).2.2.2.2 _ (List.getElem_mem hhf))
      obtain ⟨_, _, q0, q1, _, _⟩ := he
      have HEE := Lib.hid (show roomE es fl I = if oddB I = true then fl.getD (I / 2) 0 else es[I / 2].c - fl.getD (I / 2) 0 by unfold roomE; rw [edAt_of hhf])
      have x2 := hc1 2 (by decide)
      simp only [edR, Nat.add_zero, List.getElem?_cons_zero, List.getElem?_cons_succ] at x2
      generalize fl.getD (I / 2) 0 = x at *
      generalize es[I / 2].c = q at *
      clear hc1 hr hlen hh hi
      have n0 := cell_of (hs.cells 0 rfl) 0
      have n1 := cell_of (hs.cells 0 rfl) 1
      simp only [List.getElem?_toArray, List.getElem?_cons_zero, List.getElem?_cons_succ] at n0 n1
      cases ho : oddB I
      · rw [ho] at HEE
        have hev := even_yes ho
        go_wp2_with fail
        refine Mix.region [0, 0, 0, 0, 0, 0, 0, 0, 0, 0, 0, 0, 0, 0] (fun _ => True) (by kernel_rfl) (by kernel_rfl) trivial ?_
        simp only [List.zip_cons_cons, List.zip_nil_right]
        iterate 14 (refine Mix.step0 fun K hK => ?_; go_simp; (try (go_bits; try go_simp)); first | ((with_reducible refine hK _ _ ?_); clear hK K) | ((try (simp only [IntWalk.iteOmega]; try go_simp)); (try go_bits); (with_reducible refine hK _ _ ?_); clear hK K))
        refine Mix.done ?_
        go_wp2_with fail
        go_ret
        exact ⟨by rw [HE.out, HEE.out]; rfl, hs.drew.below⟩
      · rw [ho] at HEE
        have hev := even_no ho
        go_wp2_with fail
        go_ret
        exact ⟨by rw [HE.out, HEE.out]; rfl, hs.below⟩

end Go.Proofs.Ytfnkmkfkomhhnaa
