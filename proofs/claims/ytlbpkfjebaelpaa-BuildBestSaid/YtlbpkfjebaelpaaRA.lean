/-
  Packages rest and cert and their references, walked.
-/
import Derived.Test.YtlbpkfjebaelpaaNB
import Derived.Test.YtlbpkfjebaelpaaNA
import Derived.Test.YtlbpkfjebaelpaaLA
import Derived.WalkSpells
import Derived.Test.YtlbpkfjebaelpaaNC
import Derived.Shelf.Abstract
import Derived.Laws.EntriesVeiled
set_option linter.unusedVariables false
set_option linter.unusedSimpArgs false
namespace Go.Proofs.Ytlbpkfjebaelpaa
open Go Go.RowKit Go.Mem Go.NetP Go.RestP

set_option maxHeartbeats 400000 in
theorem has_any (n : Int) (a : Option Addr) (l c : Nat) (i : Int) (w : World) (hl : l ≤ 1000000000) : Calls Try.prog 75 #[.agg #[.int .i64 n, .slice a l c], .int .i64 i] w fun e w' => e = .returned (.bool (hasB l i)) ∧ Below w.heap.size w w' := by
  have hs := (Sep.start w).newCells #[.int .i64 n, .slice a l c] 28
  by_cases h0 : 0 ≤ i
  · have H := Lib.hid (show hasB l i = decide (i < 2 * (l : Int)) by simp [hasB, h0])
    go_enter Try.func75, Try.ntmps75
    go_wp2_with fail
    go_ret
    exact ⟨by rw [H.out]; rfl, hs.below⟩
  · have H := Lib.hid (show hasB l i = false by simp [hasB, h0])
    go_enter Try.func75, Try.ntmps75
    go_wp2_with fail
    go_ret
    exact ⟨by rw [H.out]; rfl, hs.below⟩

set_option maxHeartbeats 400000 in
theorem back_any (a : Nat) (w : World) (ha : a ≤ 1000000000) : Calls Try.prog 88 #[.int .i64 a] w fun e w' => e = .returned (.bool (oddB a)) ∧ w = w' := by
  have hb := and1_i64 a (by omega)
  rcases Nat.mod_two_eq_zero_or_one a with h | h
  · have H := Lib.hid (show oddB a = false by simp [oddB, h])
    have hb' : bits .and .i64 (a : Int) 1 = 0 := by rw [hb]; omega
    clear hb h
    go_enter Try.func88, Try.ntmps88
    go_wp2_with fail
    go_ret
    exact ⟨by rw [H.out]; rfl, rfl⟩
  · have H := Lib.hid (show oddB a = true by simp [oddB, h])
    have hb' : bits .and .i64 (a : Int) 1 = 1 := by rw [hb]; omega
    clear hb h
    go_enter Try.func88, Try.ntmps88
    go_wp2_with fail
    go_ret
    exact ⟨by rw [H.out]; rfl, rfl⟩

set_option maxHeartbeats 1000000 in
theorem ends_any (n : Int) (a : Option Addr) (c : Nat) (es : List Ed) (i : Nat) (w : World) (h : RdG edR w (.slice a es.length c) es) (hi : hasB es.length i = true) (hsm : es.length ≤ 100000) (hk : ∀ e ∈ es, -1000 ≤ e.k ∧ e.k ≤ 1000) :
    Calls Try.prog 87 #[.agg #[.int .i64 n, .slice a es.length c], .int .i64 i] w fun en w' => en = .returned (.tuple #[.int .i64 (endsE es i).1, .int .i64 (endsE es i).2.1, .int .i64 (endsE es i).2.2]) ∧ Below w.heap.size w w' := by
  have hh := has_half hi
  have hs := (Sep.start w).newCells #[.int .i64 n, .slice a es.length c] 28
  have n1 := cell_of (hs.cells 0 rfl) 1
  obtain ⟨b1, o1, e1, hb1, hc1⟩ := (hs.rdG h).at (i / 2) hh
  subst e1
  obtain ⟨e, hee⟩ : ∃ e, e = es[i / 2] := ⟨_, rfl⟩
  have hk' := hk e (by rw [hee]; exact List.getElem_mem hh)
  have HE := Lib.hid (show endsE es i = if oddB i = true then (e.t, e.f, -e.k) else (e.f, e.t, e.k) by unfold endsE; rw [edAt_of hh, hee])
  rw [← hee] at hc1
  have x0 := hc1 0 (by decide)
  have x1 := hc1 1 (by decide)
  have x2 := hc1 2 (by decide)
  have x3 := hc1 3 (by decide)
  simp only [edR, Nat.add_zero, List.getElem?_toArray, List.getElem?_cons_zero, List.getElem?_cons_succ] at x0 x1 x2 x3 n1
  have hs2 := hs.newCells #[.int .i64 e.f, .int .i64 e.t, .int .i64 e.c, .int .i64 e.k] 52
  obtain ⟨k0, k1⟩ := hk'
  clear hc1 hee hk
  go_enter Try.func87, Try.ntmps87
  go_wp2_with fail
  refine (back_any i _ (by omega)).mono ?_
  rintro en w1 ⟨rfl, rfl⟩
  cases ho : oddB i
  · rw [ho] at HE
    go_wp2_with fail
    refine Mix.region [0, 0, 0, 0, 0, 0, 0, 0, 0] (fun _ => True) (by kernel_rfl) (by kernel_rfl) trivial ?_
    simp only [List.zip_cons_cons, List.zip_nil_right]
    iterate 9 (refine Mix.step0 fun K hK => ?_; go_simp; (try (go_bits; try go_simp)); first | ((with_reducible refine hK _ _ ?_); clear hK K) | ((try (simp only [IntWalk.iteOmega]; try go_simp)); (try go_bits); (with_reducible refine hK _ _ ?_); clear hK K))
    refine Mix.done ?_
    go_wp2_with fail
    go_ret3
    exact ⟨by rw [HE.out]; rfl, hs2.drew.below⟩
  · rw [ho] at HE
    go_wp2_with fail
    refine Mix.region [0, 0, 0, 0, 0, 0, 0, 0, 0, 0] (fun _ => True) (by kernel_rfl) (by kernel_rfl) trivial ?_
    simp only [List.zip_cons_cons, List.zip_nil_right]
    iterate 10 (refine Mix.step0 fun K hK => ?_; go_simp; (try (go_bits; try go_simp)); first | ((with_reducible refine hK _ _ ?_); clear hK K) | ((try (simp only [IntWalk.iteOmega]; try go_simp)); (try go_bits); (with_reducible refine hK _ _ ?_); clear hK K))
    refine Mix.done ?_
    go_wp2_with fail
    go_ret3
    exact ⟨by rw [HE.out]; rfl, hs2.drew.below⟩

set_option maxHeartbeats 1000000 in
theorem room_any (n : Int) (a : Option Addr) (c : Nat) (es : List Ed) (v : Value) (fl : List Int) (i : Nat) (w : World) (h : RdG edR w (.slice a es.length c) es) (h' : Rd .i64 w v fl) (hi : hasB es.length i = true) (hw : withinB n es fl = true) :
    Calls Try.prog 77 #[.agg #[.int .i64 n, .slice a es.length c], v, .int .i64 i] w fun en w' => en = .returned (.int .i64 (roomE es fl i)) ∧ Below w.heap.size w w' := by
  obtain ⟨a', c', rfl⟩ := h'.shape
  have hh := has_half hi
  have hlen := (within_cap hw).1
  have hl200 := (right_cap (within_cap hw).2.1).2.2.1
  have hhf : i / 2 < fl.length := by omega
  have hs := (Sep.start w).newCells #[.int .i64 n, .slice a es.length c] 28
  have n1 := cell_of (hs.cells 0 rfl) 1
  obtain ⟨b1, o1, e1, hb1, hc1⟩ := (hs.rdG h).at (i / 2) hh
  obtain ⟨b2, o2, e2, hb2, x0⟩ := (hs.rd h').at (i / 2) hhf
  subst e1; subst e2
  obtain ⟨y0, y1⟩ := within_at hw hh
  have he := (edgeB_iff _ _).1 ((right_cap (within_cap hw).2.1).2.2.2.2 _ (List.getElem_mem hh))
  obtain ⟨_, _, q0, q1, _, _⟩ := he
  have HE := Lib.hid (show roomE es fl i = if oddB i = true then fl.getD (i / 2) 0 else es[i / 2].c - fl.getD (i / 2) 0 by unfold roomE; rw [edAt_of hh])
  have x2 := hc1 2 (by decide)
  simp only [edR, Nat.add_zero, List.getElem?_toArray, List.getElem?_cons_zero, List.getElem?_cons_succ] at x2 n1
  generalize fl.getD (i / 2) 0 = x at *
  generalize es[i / 2].c = q at *
  have HHI := Lib.hid hi
  clear hc1 hw hlen hi
  have hi0 : i ≤ 1000000 := by omega
  go_enter Try.func77, Try.ntmps77
  go_wp2_with fail
  refine (back_any i _ (by omega)).mono ?_
  rintro en w1 ⟨rfl, rfl⟩
  cases ho : oddB i
  · rw [ho] at HE
    go_wp2_with fail
    go_ret
    exact ⟨by rw [HE.out]; rfl, hs.below⟩
  · rw [ho] at HE
    go_wp2_with fail
    go_ret
    exact ⟨by rw [HE.out]; rfl, hs.below⟩

set_option maxHeartbeats 1000000 in
theorem endsX_any (n : Int) (a : Option Addr) (c : Nat) (es : List Ed) (i : Int) (w : World) (h : RdG edR w (.slice a es.length c) es) (hsm : es.length ≤ 100000) :
    Calls Try.prog 74 #[.agg #[.int .i64 n, .slice a es.length c], .int .i64 i] w fun en w' => en = .returned (.tuple #[.int .i64 (endsV n es i).1, .int .i64 (endsV n es i).2.1, .int .i64 (endsV n es i).2.2]) ∧ Below w.heap.size w w' := by
  have hs := (Sep.start w).newCells #[.int .i64 n, .slice a es.length c] 28
  go_enter Try.func74, Try.ntmps74
  go_wp2_with fail
  refine (has_any n a es.length c i _ (by omega)).mono ?_
  rintro en w1 ⟨rfl, hb⟩
  replace hs := hs.belowStep hb
  clear hb; (try clear n0 n1)
  cases hh : hasB es.length i
  · have HE := Lib.hid (show endsV n es i = (0, 0, 0) by simp [endsV, hh])
    clear hh
    go_wp2_with fail
    go_ret3
    exact ⟨by rw [HE.out]; rfl, hs.below⟩
  · have n0 := cell_of (hs.cells 0 rfl) 0
    have n1 := cell_of (hs.cells 0 rfl) 1
    simp only [List.getElem?_toArray, List.getElem?_cons_zero, List.getElem?_cons_succ] at n0 n1
    go_wp2_with fail
    refine (right_any n a c es _ (hs.rdG h)).mono ?_
    rintro en w2 ⟨rfl, hb⟩
    replace hs := hs.belowStep hb
    clear hb; (try clear n0 n1)
    cases hr : rightB n es
    · have HE := Lib.hid (show endsV n es i = (0, 0, 0) by simp [endsV, hr])
      clear hh hr
      go_wp2_with fail
      go_ret3
      exact ⟨by rw [HE.out]; rfl, hs.below⟩
    · have hi := (hasB_iff _ _).1 hh
      obtain ⟨I, rfl⟩ : ∃ I : Nat, i = I := ⟨i.toNat, by omega⟩
      have HE := Lib.hid (show endsV n es I = endsE es I by simp [endsV, hh, hr])
      have HR := Lib.hid hr
      have HH := Lib.hid hh
      clear hi hh hr
      have n0 := cell_of (hs.cells 0 rfl) 0
      have n1 := cell_of (hs.cells 0 rfl) 1
      simp only [List.getElem?_toArray, List.getElem?_cons_zero, List.getElem?_cons_succ] at n0 n1
      go_wp2_with fail
      refine (ends_any n a c es I _ (hs.rdG h) HH.out hsm (fun e he => by have := (edgeB_iff _ _).1 ((right_cap HR.out).2.2.2.2 e he); omega)).mono ?_
      rintro en w3 ⟨rfl, hb⟩
      replace hs := hs.belowStep hb
      clear hb; (try clear n0 n1)
      go_wp2_with fail
      go_ret3
      exact ⟨by rw [HE.out]; rfl, hs.below⟩

set_option maxHeartbeats 1000000 in
theorem roomX_any (n : Int) (a : Option Addr) (c : Nat) (es : List Ed) (v : Value) (fl : List Int) (i : Int) (w : World) (h : RdG edR w (.slice a es.length c) es) (h' : Rd .i64 w v fl) (hsm : es.length ≤ 100000) :
    Calls Try.prog 54 #[.agg #[.int .i64 n, .slice a es.length c], v, .int .i64 i] w fun en w' => en = .returned (.int .i64 (roomV n es fl i)) ∧ Below w.heap.size w w' := by
  have hs := (Sep.start w).newCells #[.int .i64 n, .slice a es.length c] 28
  obtain ⟨a', c', rfl⟩ := h'.shape
  go_enter Try.func54, Try.ntmps54
  go_wp2_with fail
  refine (has_any n a es.length c i _ (by omega)).mono ?_
  rintro en w1 ⟨rfl, hb⟩
  replace hs := hs.belowStep hb
  clear hb; (try clear n0 n1)
  cases hh : hasB es.length i
  · have HE := Lib.hid (show roomV n es fl i = 0 by simp [roomV, hh])
    clear hh
    go_wp2_with fail
    go_ret
    exact ⟨by rw [HE.out]; rfl, hs.below⟩
  · have n0 := cell_of (hs.cells 0 rfl) 0
    have n1 := cell_of (hs.cells 0 rfl) 1
    simp only [List.getElem?_toArray, List.getElem?_cons_zero, List.getElem?_cons_succ] at n0 n1
    go_wp2_with fail
    refine (within_any n a c es _ fl _ (hs.rdG h) (hs.rd h')).mono ?_
    rintro en w2 ⟨rfl, hb⟩
    replace hs := hs.belowStep hb
    clear hb; (try clear n0 n1)
    cases hr : withinB n es fl
    · have HE := Lib.hid (show roomV n es fl i = 0 by simp [roomV, hr])
      clear hh hr
      go_wp2_with fail
      go_ret
      exact ⟨by rw [HE.out]; rfl, hs.below⟩
    · have hi := (hasB_iff _ _).1 hh
      obtain ⟨I, rfl⟩ : ∃ I : Nat, i = I := ⟨i.toNat, by omega⟩
      have HE := Lib.hid (show roomV n es fl I = roomE es fl I by simp [roomV, hh, hr])
      have HR := Lib.hid hr
      have HH := Lib.hid hh
      clear hi hh hr
      have n0 := cell_of (hs.cells 0 rfl) 0
      have n1 := cell_of (hs.cells 0 rfl) 1
      simp only [List.getElem?_toArray, List.getElem?_cons_zero, List.getElem?_cons_succ] at n0 n1
      go_wp2_with fail
      refine (room_any n a c es _ fl I _ (hs.rdG h) (hs.rd h') HH.out HR.out).mono ?_
      rintro en w3 ⟨rfl, hb⟩
      replace hs := hs.belowStep hb
      clear hb; (try clear n0 n1)
      go_wp2_with fail
      go_ret
      exact ⟨by rw [HE.out]; rfl, hs.below⟩
end Go.Proofs.Ytlbpkfjebaelpaa
namespace Go.Proofs.Ytlbpkfjebaelpaa
open Go Go.RowKit Go.Mem Go.NetP Go.RestP

theorem Try.infoI64r : (Try.prog.info? 2).map (fun i => (i.zero, i.size, i.bytes)) = some (some (.int .i64 0), 1, 8) := by kernel_rfl

set_option maxRecDepth 100000 in
set_option maxHeartbeats 1000000 in
theorem clone_any (v : Value) (fl : List Int) (w : World) (h : Rd .i64 w v fl) (hsm : fl.length ≤ 1000000) :
    Calls Try.prog 26 #[v] w fun en w' => ∃ u, en = .returned u ∧ Sep w w' [intsT .i64 2 u fl] := by
  obtain ⟨i0, hi0, hz0, hz1, hz2⟩ := info_parts Try.infoI64r
  obtain ⟨a, c, rfl⟩ := h.shape
  match a with
  | none =>
    have hf : fl = [] := by
      rcases Nat.eq_zero_or_pos fl.length with h0 | h0
      · exact List.eq_nil_of_length_eq_zero h0
      · obtain ⟨b, o, e, _⟩ := h.at 0 h0; cases e
    subst hf
    have hc : c = 0 := by
      obtain ⟨a', c', e, _, hn, _⟩ := h
      injection e with e1 e2 e3
      rw [e3]; exact hn e1.symm
    subst hc
    have hs := (Sep.start w).nilInts .i64 2
    have hnil := fun (W : World) => Lib.run_eql_slice_nil (P := Try.prog) W 22 2 none 0 0 0 0 Try.underlying22
    go_enter Try.func26, Try.ntmps26
    go_wp2_with fail
    go_ret
    exact ⟨_, rfl, hs⟩
  | some a =>
    have hs2 := (Sep.start w).litInts .i64 2 [] (by simp [maxLen])
    simp only [List.map_cons, List.map_nil, List.length_cons, List.length_nil, Nat.reduceAdd, World.size_alloc] at hs2
    have hnil := fun (W : World) => Lib.run_eql_slice_nil (P := Try.prog) W 22 2 (some a) fl.length c 0 0 Try.underlying22
    go_enter Try.func26, Try.ntmps26
    go_wp2_with (at_builtin; refine wpList_appRd rfl (.tmp 5) (.tmp 6) 22 rfl 2 i0 _ 8 Try.underlying22 hi0 hz0 hz1 hz2 rfl _ [] .i64 _ fl hs2 0 rfl (hs2.rd h) rfl rfl ?c3 ?c4 ?grow)
    case c3 => (try simp); (try simp only [maxLen]); (try omega)
    case c4 => (try simp); (try simp only [maxLen]); (try omega)
    case grow =>
      intro vo w4 hs3
      go_wp2_with fail
      go_ret
      exact ⟨_, rfl, by simpa using hs3⟩

end Go.Proofs.Ytlbpkfjebaelpaa
namespace Go.Proofs.Ytlbpkfjebaelpaa
open Go Go.RowKit Go.Mem Go.NetP Go.RestP

set_option maxHeartbeats 400000 in
theorem rhas_any (n : Int) (a : Option Addr) (l c : Nat) (i : Int) (w : World) (hl : l ≤ 1000000000) : Calls Try.prog 79 #[.agg #[.int .i64 n, .slice a l c], .int .i64 i] w fun e w' => e = .returned (.bool (hasB l i)) ∧ Below w.heap.size w w' := by
  have hs := (Sep.start w).newCells #[.int .i64 n, .slice a l c] 28
  by_cases h0 : 0 ≤ i
  · have H := Lib.hid (show hasB l i = decide (i < 2 * (l : Int)) by simp [hasB, h0])
    go_enter Try.func79, Try.ntmps79
    go_wp2_with fail
    go_ret
    exact ⟨by rw [H.out]; rfl, hs.below⟩
  · have H := Lib.hid (show hasB l i = false by simp [hasB, h0])
    go_enter Try.func79, Try.ntmps79
    go_wp2_with fail
    go_ret
    exact ⟨by rw [H.out]; rfl, hs.below⟩

/-- The test of the reference: even or odd. -/
theorem even_no {i : Nat} (h : oddB i = true) : ((i : Int) % 2 == 0) = false := by
  have : i % 2 = 1 := by simpa [oddB] using h
  rw [beq_eq_false_iff_ne]; omega
theorem even_yes {i : Nat} (h : oddB i = false) : ((i : Int) % 2 == 0) = true := by
  have : ¬ i % 2 = 1 := by simpa [oddB] using h
  rw [beq_iff_eq]; omega

set_option maxHeartbeats 1000000 in
theorem rends_any (n : Int) (a : Option Addr) (c : Nat) (es : List Ed) (i : Int) (w : World) (h : RdG edR w (.slice a es.length c) es) (hsm : es.length ≤ 100000) :
    Calls Try.prog 80 #[.agg #[.int .i64 n, .slice a es.length c], .int .i64 i] w fun en w' => en = .returned (.tuple #[.int .i64 (endsV n es i).1, .int .i64 (endsV n es i).2.1, .int .i64 (endsV n es i).2.2]) ∧ Below w.heap.size w w' := by
  have hs := (Sep.start w).newCells #[.int .i64 n, .slice a es.length c] 28
  go_enter Try.func80, Try.ntmps80
  go_wp2_with fail
  refine (rright_any n a c es _ (hs.rdG h)).mono ?_
  rintro en w1 ⟨rfl, hb⟩
  replace hs := hs.belowStep hb
  clear hb; (try clear n0 n1)
  cases hr : rightB n es
  · have HE := Lib.hid (show endsV n es i = (0, 0, 0) by simp [endsV, hr])
    clear hr
    go_wp2_with fail
    go_ret3
    exact ⟨by rw [HE.out]; rfl, hs.below⟩
  · have n0 := cell_of (hs.cells 0 rfl) 0
    have n1 := cell_of (hs.cells 0 rfl) 1
    simp only [List.getElem?_toArray, List.getElem?_cons_zero, List.getElem?_cons_succ] at n0 n1
    go_wp2_with fail
    refine (rhas_any n a es.length c i _ (by omega)).mono ?_
    rintro en w2 ⟨rfl, hb⟩
    replace hs := hs.belowStep hb
    clear hb; (try clear n0 n1)
    cases hh : hasB es.length i
    · have HE := Lib.hid (show endsV n es i = (0, 0, 0) by simp [endsV, hh])
      clear hh hr
      go_wp2_with fail
      go_ret3
      exact ⟨by rw [HE.out]; rfl, hs.below⟩
    · have hi := (hasB_iff _ _).1 hh
      obtain ⟨I, rfl⟩ : ∃ I : Nat, i = I := ⟨i.toNat, by omega⟩
      have hhf := has_half hh
      have HE := Lib.hid (show endsV n es I = endsE es I by simp [endsV, hh, hr])
      obtain ⟨b1, o1, e1, hb1, hc1⟩ := (hs.rdG h).at (I / 2) hhf
      subst e1
      obtain ⟨e, hee⟩ : ∃ e, e = es[I / 2] := ⟨_, rfl⟩
      have hk := (edgeB_iff _ _).1 ((right_cap hr).2.2.2.2 e (by rw [hee]; exact List.getElem_mem hhf))
      obtain ⟨_, _, _, _, k0, k1⟩ := hk
      have HEE := Lib.hid (show endsE es I = if oddB I = true then (e.t, e.f, -e.k) else (e.f, e.t, e.k) by unfold endsE; rw [edAt_of hhf, hee])
      rw [← hee] at hc1
      have x0 := hc1 0 (by decide)
      have x1 := hc1 1 (by decide)
      have x2 := hc1 2 (by decide)
      have x3 := hc1 3 (by decide)
      simp only [edR, Nat.add_zero, List.getElem?_cons_zero, List.getElem?_cons_succ] at x0 x1 x2 x3
      clear hc1 hee hh hr hi
      have n0 := cell_of (hs.cells 0 rfl) 0
      have n1 := cell_of (hs.cells 0 rfl) 1
      simp only [List.getElem?_toArray, List.getElem?_cons_zero, List.getElem?_cons_succ] at n0 n1
      have hs2 := hs.newCells #[.int .i64 e.f, .int .i64 e.t, .int .i64 e.c, .int .i64 e.k] 52
      cases ho : oddB I
      · rw [ho] at HEE
        have hev := even_yes ho
        go_wp2_with fail
        refine Mix.region [0, 0, 0, 0, 0, 0, 0, 0, 0] (fun _ => True) (by kernel_rfl) (by kernel_rfl) trivial ?_
        simp only [List.zip_cons_cons, List.zip_nil_right]
        iterate 9 (refine Mix.step0 fun K hK => ?_; go_simp; (try (go_bits; try go_simp)); first | ((with_reducible refine hK _ _ ?_); clear hK K) | ((try (simp only [IntWalk.iteOmega]; try go_simp)); (try go_bits); (with_reducible refine hK _ _ ?_); clear hK K))
        refine Mix.done ?_
        go_wp2_with fail
        go_ret3
        exact ⟨by rw [HE.out, HEE.out]; rfl, hs2.drew.below⟩
      · rw [ho] at HEE
        have hev := even_no ho
        go_wp2_with fail
        refine Mix.region [0, 0, 0, 0, 0, 0, 0, 0, 0, 0] (fun _ => True) (by kernel_rfl) (by kernel_rfl) trivial ?_
        simp only [List.zip_cons_cons, List.zip_nil_right]
        iterate 10 (refine Mix.step0 fun K hK => ?_; go_simp; (try (go_bits; try go_simp)); first | ((with_reducible refine hK _ _ ?_); clear hK K) | ((try (simp only [IntWalk.iteOmega]; try go_simp)); (try go_bits); (with_reducible refine hK _ _ ?_); clear hK K))
        refine Mix.done ?_
        go_wp2_with fail
        go_ret3
        exact ⟨by rw [HE.out, HEE.out]; rfl, hs2.drew.below⟩

set_option maxHeartbeats 1000000 in
theorem rroom_any (n : Int) (a : Option Addr) (c : Nat) (es : List Ed) (v : Value) (fl : List Int) (i : Int) (w : World) (h : RdG edR w (.slice a es.length c) es) (h' : Rd .i64 w v fl) (hsm : es.length ≤ 100000) :
    Calls Try.prog 57 #[.agg #[.int .i64 n, .slice a es.length c], v, .int .i64 i] w fun en w' => en = .returned (.int .i64 (roomV n es fl i)) ∧ Below w.heap.size w w' := by
  have hs := (Sep.start w).newCells #[.int .i64 n, .slice a es.length c] 28
  obtain ⟨a', c', rfl⟩ := h'.shape
  go_enter Try.func57, Try.ntmps57
  go_wp2_with fail
  refine (rwithin_any n a c es _ fl _ (hs.rdG h) (hs.rd h')).mono ?_
  rintro en w1 ⟨rfl, hb⟩
  replace hs := hs.belowStep hb
  clear hb; (try clear n0 n1)
  cases hr : withinB n es fl
  · have HE := Lib.hid (show roomV n es fl i = 0 by simp [roomV, hr])
    clear hr
    go_wp2_with fail
    go_ret
    exact ⟨by rw [HE.out]; rfl, hs.below⟩
  · have n0 := cell_of (hs.cells 0 rfl) 0
    have n1 := cell_of (hs.cells 0 rfl) 1
    simp only [List.getElem?_toArray, List.getElem?_cons_zero, List.getElem?_cons_succ] at n0 n1
    go_wp2_with fail
    refine (rhas_any n a es.length c i _ (by omega)).mono ?_
    rintro en w2 ⟨rfl, hb⟩
    replace hs := hs.belowStep hb
    clear hb; (try clear n0 n1)
    cases hh : hasB es.length i
    · have HE := Lib.hid (show roomV n es fl i = 0 by simp [roomV, hh])
      clear hh hr
      go_wp2_with fail
      go_ret
      exact ⟨by rw [HE.out]; rfl, hs.below⟩
    · have hi := (hasB_iff _ _).1 hh
      obtain ⟨I, rfl⟩ : ∃ I : Nat, i = I := ⟨i.toNat, by omega⟩
      have hhf := has_half hh
      have HE := Lib.hid (show roomV n es fl I = roomE es fl I by simp [roomV, hh, hr])
      have hlen := (within_cap hr).1
      have hhf2 : I / 2 < fl.length := by omega
      obtain ⟨b1, o1, e1, hb1, hc1⟩ := (hs.rdG h).at (I / 2) hhf
      obtain ⟨b2, o2, e2, hb2, x0⟩ := (hs.rd h').at (I / 2) hhf2
      subst e1; subst e2
      obtain ⟨y0, y1⟩ := within_at hr hhf
      have he := (edgeB_iff _ _).1 ((right_cap (within_cap hr).2.1).2.2.2.2 _ (List.getElem_mem hhf))
      obtain ⟨_, _, q0, q1, _, _⟩ := he
      have HEE := Lib.hid (show roomE es fl I = if oddB I = true then fl.getD (I / 2) 0 else es[I / 2].c - fl.getD (I / 2) 0 by unfold roomE; rw [edAt_of hhf])
      have x2 := hc1 2 (by decide)
      simp only [edR, Nat.add_zero, List.getElem?_cons_zero, List.getElem?_cons_succ] at x2
      generalize fl.getD (I / 2) 0 = x at *
      generalize es[I / 2].c = q at *
      clear hc1 hr hlen hh hi
      have n0 := cell_of (hs.cells 0 rfl) 0
      have n1 := cell_of (hs.cells 0 rfl) 1
      simp only [List.getElem?_toArray, List.getElem?_cons_zero, List.getElem?_cons_succ] at n0 n1
      cases ho : oddB I
      · rw [ho] at HEE
        have hev := even_yes ho
        go_wp2_with fail
        refine Mix.region [0, 0, 0, 0, 0, 0, 0, 0, 0, 0, 0, 0, 0, 0] (fun _ => True) (by kernel_rfl) (by kernel_rfl) trivial ?_
        simp only [List.zip_cons_cons, List.zip_nil_right]
        iterate 14 (refine Mix.step0 fun K hK => ?_; go_simp; (try (go_bits; try go_simp)); first | ((with_reducible refine hK _ _ ?_); clear hK K) | ((try (simp only [IntWalk.iteOmega]; try go_simp)); (try go_bits); (with_reducible refine hK _ _ ?_); clear hK K))
        refine Mix.done ?_
        go_wp2_with fail
        go_ret
        exact ⟨by rw [HE.out, HEE.out]; rfl, hs.drew.below⟩
      · rw [ho] at HEE
        have hev := even_no ho
        go_wp2_with fail
        go_ret
        exact ⟨by rw [HE.out, HEE.out]; rfl, hs.below⟩

end Go.Proofs.Ytlbpkfjebaelpaa
namespace Go.Proofs.Ytlbpkfjebaelpaa
open Go Go.RowKit Go.Mem Go.NetP Go.RestP Go.CertP

def fewN (n : Int) (l : Nat) : Bool := decide (l ≤ 300) && decide (n ≤ 100)
end Go.Proofs.Ytlbpkfjebaelpaa
namespace Go.Proofs.Ytlbpkfjebaelpaa
open Go Go.RowKit Go.Mem Go.NetP Go.RestP Go.CertP Go.Shelf

/-- A net and what is accepted, in blocks. -/
structure InC (W : World) (nb cb : Nat) (n : Int) (vn vf vp : Value) : Prop where
  n0 : W.cell? ⟨nb, 0, none⟩ = some (.int .i64 n)
  n1 : W.cell? ⟨nb, 1, none⟩ = some vn
  c0 : W.cell? ⟨cb, 0, none⟩ = some vf
  c1 : W.cell? ⟨cb, 1, none⟩ = some vp
end Go.Proofs.Ytlbpkfjebaelpaa
namespace Go.Proofs.Ytlbpkfjebaelpaa
open Go Go.RowKit Go.Mem Go.NetP Go.RestP Go.CertP Go.Shelf

theorem cost_bound2 {n : Int} {es : List Ed} {x : List Int} (hx : withinB n es x = true) : -4611686018427387904 ≤ costV n es x ∧ costV n es x ≤ 4611686018427387904 := by
  unfold costV
  rw [if_pos hx]
  exact flowCost_bound hx (by rw [(within_cap hx).1]; exact Nat.le_refl _)
set_option maxHeartbeats 1000000 in
theorem rlen_any (n : Int) (a : Option Addr) (c : Nat) (es : List Ed) (v : Value) (pot : List Int) (i : Nat) (w : World) (h : RdG edR w (.slice a es.length c) es) (hp : Rd .i64 w v pot) (hr : rightB n es = true) (hi : i < 2 * es.length) (hpot : potB n pot = true) :
    Calls Try.prog 58 #[.agg #[.int .i64 n, .slice a es.length c], v, .int .i64 i] w fun en w' => en = .returned (.int .i64 (lenA es pot i)) ∧ Below w.heap.size w w' := by
  obtain ⟨ap, cp, rfl⟩ := hp.shape
  have he : es.length ≤ 200 := (right_cap hr).2.2.1
  have hs := (Sep.start w).newCells #[.int .i64 n, .slice a es.length c] 28
  have hh : hasB es.length (i : Int) = true := by rw [hasB_iff]; omega
  have hend : endsV n es i = endsE es i := by rw [endsV, if_pos (by rw [hh, hr]; rfl), Int.toNat_natCast]
  have hnode := ends_node hr hi
  obtain ⟨hpl, hpb⟩ := pot_cap hpot
  obtain ⟨f, hf'⟩ : ∃ f : Nat, (endsE es i).1 = f := ⟨(endsE es i).1.toNat, by omega⟩
  obtain ⟨t, ht'⟩ : ∃ t : Nat, (endsE es i).2.1 = t := ⟨(endsE es i).2.1.toNat, by omega⟩
  obtain ⟨K, hK'⟩ : ∃ K, (endsE es i).2.2 = K := ⟨_, rfl⟩
  have hlen : lenA es pot i = K + pot.getD f 0 - pot.getD t 0 := by
    unfold lenA potAt
    rw [hf', ht', hK', Int.toNat_natCast, Int.toNat_natCast]
  rw [hf', ht', hK'] at hnode
  have hfl : f < pot.length := by omega
  have htl : t < pot.length := by omega
  have hk0 : -1000 ≤ K := by omega
  have hk1 : K ≤ 1000 := by omega
  have hP := hpb f
  have hQ := hpb t
  have HEND := Lib.hid (show endsV n es i = ((f : Int), (t : Int), K) by rw [hend, ← hf', ← ht', ← hK'])
  obtain ⟨b1, o1, e1, hb1, hc1⟩ := hp.at f hfl
  obtain ⟨b2, o2, e2, hb2, hc2⟩ := hp.at t htl
  subst e1
  injection e2 with e2
  injection e2 with e2 e3
  subst e2
  subst e3
  obtain ⟨P, hPn⟩ : ∃ P, P = pot.getD f 0 := ⟨_, rfl⟩
  obtain ⟨Q, hQn⟩ : ∃ Q, Q = pot.getD t 0 := ⟨_, rfl⟩
  rw [← hPn] at hlen hc1 hP
  rw [← hQn] at hlen hc2 hQ
  have HLEN := Lib.hid hlen
  clear hh hend hnode hpl hpb hf' ht' hK' hlen hPn hQn hr hpot
  obtain ⟨hP0, hP1⟩ := hP
  obtain ⟨hQ0, hQ1⟩ := hQ
  go_enter Try.func58, Try.ntmps58
  go_wp2_with fail
  refine (rends_any n a c es i _ (hs.rdG h) (by omega)).mono ?_
  rintro en w2 ⟨rfl, hb⟩
  rw [HEND.out]
  replace hs := hs.belowStep hb
  clear hb
  have x1 := (hs.cell hb1).trans hc1
  have x2 := (hs.cell hb1).trans hc2
  go_wp2_with fail
  refine Mix.region [0, 0, 0, 0, 0, 0, 0, 0, 0, 0, 0, 0] (fun _ => True) (by kernel_rfl) (by kernel_rfl) trivial ?_
  simp only [List.zip_cons_cons, List.zip_nil_right]
  iterate 12 (refine Mix.step0 fun K hK => ?_; go_simp; (try (go_bits; try go_simp)); first | ((with_reducible refine hK _ _ ?_); clear hK K) | ((try (simp only [IntWalk.iteOmega]; try go_simp)); (try go_bits); (with_reducible refine hK _ _ ?_); clear hK K))
  refine Mix.done ?_
  go_wp2_with fail
  go_ret
  exact ⟨by rw [HLEN.out]; rfl, hs.drew.below⟩
end Go.Proofs.Ytlbpkfjebaelpaa
namespace Go.Proofs.Ytlbpkfjebaelpaa
open Go Go.RowKit Go.Mem Go.NetP Go.RestP Go.CertP Go.Shelf

set_option maxRecDepth 100000 in
set_option maxHeartbeats 4000000 in
theorem rfits_any (n : Int) (a : Option Addr) (c : Nat) (es : List Ed) (vf : Value) (fl : List Int) (vp : Value) (pot : List Int) (w : World) (h : RdG edR w (.slice a es.length c) es) (hf : Rd .i64 w vf fl) (hp : Rd .i64 w vp pot) :
    Calls Try.prog 39 #[.agg #[.int .i64 n, .slice a es.length c], vf, vp] w fun en w' => en = .returned (.bool (fitsB n es fl pot)) ∧ Below w.heap.size w w' := by
  obtain ⟨af, cf, rfl⟩ := hf.shape
  obtain ⟨ap, cp, rfl⟩ := hp.shape
  have hlf := hf.le'
  have hlp := hp.le'
  have hle := h.le'
  have hs := (Sep.start w).newCells #[.int .i64 n, .slice a es.length c] 28
  cases hr : rightB n es
  · have HE := Lib.hid (show fitsB n es fl pot = false by simp [fitsB, withinB, hr])
    have HR := Lib.hid hr
    clear hr
    go_enter Try.func39, Try.ntmps39
    go_wp2_with fail
    refine (rright_any n a c es _ (hs.rdG h)).mono ?_
    rintro en w1 ⟨rfl, hb⟩
    rw [HR.out]
    replace hs := hs.belowStep hb
    clear hb
    go_wp2_with fail
    go_ret
    exact ⟨by rw [HE.out]; rfl, hs.below⟩
  · have HR := Lib.hid hr
    have he : es.length ≤ 200 := (right_cap hr).2.2.1
    by_cases hl : fl.length = es.length
    · have e1 : ((fl.length : Int) != es.length) = false := by rw [hl]; simp
      by_cases hn : (pot.length : Int) = n
      · subst hn
        have e2 : ((pot.length : Int) != pot.length) = false := by simp
        have HL := Lib.hid hl
        have hf200 : fl.length ≤ 200 := by omega
        clear hr hl
        go_enter Try.func39, Try.ntmps39
        go_wp2_with fail
        refine (rright_any _ a c es _ (hs.rdG h)).mono ?_
        rintro en w1 ⟨rfl, hb⟩
        rw [HR.out]
        replace hs := hs.belowStep hb
        clear hb
        have n0 := cell_of (hs.cells 0 rfl) 0
        have n1 := cell_of (hs.cells 0 rfl) 1
        simp only [List.getElem?_toArray, List.getElem?_cons_zero, List.getElem?_cons_succ] at n0 n1
        go_wp2_with fail
        clear n0 n1 e1
        refine wp_loopM [none, none, none, none, none, none, some 6, some 7, none, none, none, none, none, none, none, none, none, none, none, none, none, none, none, none, none, none, none, none, some 28, some 29, some 30, some 31, some 32, some 33, some 34, some 35, some 36, some 37, some 38, some 39, some 40, some 41, some 42, some 43, some 44, some 45, some 46, some 47, some 48, some 49, some 50, some 51, none, none, none, none, none, none, none, none, none, none, none, none, none, none, none, none, none, none, none, none, none, none, none, none, none, none, none, none, none, none, none, none, none, none, none, none, none] (fun (r : Nat) (f : Nat → Value) (wr : World) => (fun (v : Value) => ∃ (i : Nat), v = .int .i64 i ∧ i ≤ fl.length ∧ r = fl.length - i ∧ Hid (∀ j, j < i → capB es fl j = true) ∧ Sep w wr [cellsT w.heap.size #[.int .i64 pot.length, .slice a es.length c] 28]) (f 7)) (fl.length) (by kernel_rfl) ?atStart1 ?round1
        case' atStart1 => (try dsimp only [nthV])
        case' round1 =>
          intro gk f wr l hl hrel J1 K1 hJ1 hK1
          (try simp only [mask] at hl)
          generalize f 7 = u7 at hl hrel
          subst hl
          (try dsimp only at hrel)
        case atStart1 => exact ⟨0, rfl, Nat.zero_le _, rfl, Lib.hid (fun j hj => by omega), hs⟩
        case round1 =>
          clear hs
          obtain ⟨i, rfl, hi, rfl, HA, hs⟩ := hrel
          have n0 := cell_of (hs.cells 0 rfl) 0
          have n1 := cell_of (hs.cells 0 rfl) 1
          simp only [List.getElem?_toArray, List.getElem?_cons_zero, List.getElem?_cons_succ] at n0 n1
          by_cases hlt : i < fl.length
          · have hie : i < es.length := by rw [← HL.out]; exact hlt
            obtain ⟨b1, o1, e1, hb1, hc1⟩ := (hs.rd hf).at i hlt
            obtain ⟨b2, o2, e2, hb2, hc2⟩ := (hs.rdG h).at i hie
            subst e1
            subst e2
            have x2 := hc2 2 (by decide)
            simp only [edR, List.getElem?_cons_zero, List.getElem?_cons_succ] at x2
            have hcap := capB_at (fl := fl) hie
            obtain ⟨X, hX⟩ : ∃ X, X = fl.getD i 0 := ⟨_, rfl⟩
            obtain ⟨Q, hQ⟩ : ∃ Q, Q = es[i].c := ⟨_, rfl⟩
            rw [← hX] at hc1 hcap
            rw [← hQ] at x2 hcap
            have HC := Lib.hid hcap
            clear hc2 hX hQ hcap
            by_cases hx0 : X < 0
            · have HE := Lib.hid (show fitsB pot.length es fl pot = false by
                have : capB es fl i = false := by rw [HC.out]; simp; intro; omega
                simp [fitsB, within_no hlt hie this])
              have d1 : decide (X < 0) = true := decide_eq_true hx0
              clear hx0
              go_wp2_with fail
              refine Mix.region [0, 0, 0, 0, 0, 0, 0, 0, 0, 0, 0, 0, 0, 0, 0, 0, 0, 0] (fun _ => True) (by kernel_rfl) (by kernel_rfl) trivial ?_
              simp only [List.zip_cons_cons, List.zip_nil_right]
              iterate 6 (refine Mix.step0 fun K hK => ?_; go_simp; (try (go_bits; try go_simp)); first | ((with_reducible refine hK _ _ ?_); clear hK K) | ((try (simp only [IntWalk.iteOmega]; try go_simp)); (try go_bits); (with_reducible refine hK _ _ ?_); clear hK K))
              iterate 11 (first | (refine Mix.stepS rfl fun K hK => ?_; go_simp; (with_reducible refine hK _ _ ?_); clear hK K) | (refine Mix.step0 fun K hK => ?_; go_simp; (try (go_bits; try go_simp)); first | ((with_reducible refine hK _ _ ?_); clear hK K) | ((try (simp only [IntWalk.iteOmega]; try go_simp)); (try go_bits); (with_reducible refine hK _ _ ?_); clear hK K)))
              iterate 1 (refine Mix.step0 fun K hK => ?_; go_simp; (try (go_bits; try go_simp)); first | ((with_reducible refine hK _ _ ?_); clear hK K) | ((try (simp only [IntWalk.iteOmega]; try go_simp)); (try go_bits); (with_reducible refine hK _ _ ?_); clear hK K))
              refine Mix.done ?_
              go_wp2_with fail
              go_ret
              exact ⟨by rw [HE.out]; rfl, hs.drew.below⟩
            · have d1 : decide (X < 0) = false := decide_eq_false hx0
              by_cases hx1 : Q < X
              · have HE := Lib.hid (show fitsB pot.length es fl pot = false by
                  have : capB es fl i = false := by rw [HC.out]; simp; intro; omega
                  simp [fitsB, within_no hlt hie this])
                have d2 : decide (Q < X) = true := decide_eq_true hx1
                clear hx0 hx1
                go_wp2_with fail
                refine Mix.region [0, 0, 0, 0, 0, 0, 0, 0, 0, 0, 0, 0, 0, 0, 0, 0, 0, 0] (fun _ => True) (by kernel_rfl) (by kernel_rfl) trivial ?_
                simp only [List.zip_cons_cons, List.zip_nil_right]
                iterate 6 (refine Mix.step0 fun K hK => ?_; go_simp; (try (go_bits; try go_simp)); first | ((with_reducible refine hK _ _ ?_); clear hK K) | ((try (simp only [IntWalk.iteOmega]; try go_simp)); (try go_bits); (with_reducible refine hK _ _ ?_); clear hK K))
                iterate 11 (first | (refine Mix.stepS rfl fun K hK => ?_; go_simp; (with_reducible refine hK _ _ ?_); clear hK K) | (refine Mix.step0 fun K hK => ?_; go_simp; (try (go_bits; try go_simp)); first | ((with_reducible refine hK _ _ ?_); clear hK K) | ((try (simp only [IntWalk.iteOmega]; try go_simp)); (try go_bits); (with_reducible refine hK _ _ ?_); clear hK K)))
                iterate 1 (refine Mix.step0 fun K hK => ?_; go_simp; (try (go_bits; try go_simp)); first | ((with_reducible refine hK _ _ ?_); clear hK K) | ((try (simp only [IntWalk.iteOmega]; try go_simp)); (try go_bits); (with_reducible refine hK _ _ ?_); clear hK K))
                refine Mix.done ?_
                go_wp2_with fail
                go_ret
                exact ⟨by rw [HE.out]; rfl, hs.drew.below⟩
              · have HST := Lib.hid (show ∀ j, j < i + 1 → capB es fl j = true from fun j hj => by
                  by_cases hji : j = i
                  · subst hji; rw [HC.out]; simp; omega
                  · exact HA.out j (by omega))
                have d2 : decide (Q < X) = false := decide_eq_false hx1
                clear hx0 hx1
                go_wp2_with fail
                refine Mix.region [0, 0, 0, 0, 0, 0, 0, 0, 0, 0, 0, 0, 0, 0, 0, 0, 0, 0] (fun _ => True) (by kernel_rfl) (by kernel_rfl) trivial ?_
                simp only [List.zip_cons_cons, List.zip_nil_right]
                iterate 6 (refine Mix.step0 fun K hK => ?_; go_simp; (try (go_bits; try go_simp)); first | ((with_reducible refine hK _ _ ?_); clear hK K) | ((try (simp only [IntWalk.iteOmega]; try go_simp)); (try go_bits); (with_reducible refine hK _ _ ?_); clear hK K))
                iterate 11 (first | (refine Mix.stepS rfl fun K hK => ?_; go_simp; (with_reducible refine hK _ _ ?_); clear hK K) | (refine Mix.step0 fun K hK => ?_; go_simp; (try (go_bits; try go_simp)); first | ((with_reducible refine hK _ _ ?_); clear hK K) | ((try (simp only [IntWalk.iteOmega]; try go_simp)); (try go_bits); (with_reducible refine hK _ _ ?_); clear hK K)))
                iterate 1 (refine Mix.step0 fun K hK => ?_; go_simp; (try (go_bits; try go_simp)); first | ((with_reducible refine hK _ _ ?_); clear hK K) | ((try (simp only [IntWalk.iteOmega]; try go_simp)); (try go_bits); (with_reducible refine hK _ _ ?_); clear hK K))
                refine Mix.done ?_
                go_wp2_with fail
                refine Round.intro (fl.length - (i + 1)) ?measure2 (by kernel_rfl) (hJ1 _ _ _ ?rel2)
                case' rel2 => (try dsimp only [nthV])
                case measure2 => omega
                case rel2 => exact ⟨i + 1, by go_num, hlt, rfl, HST, hs.drew⟩
          · obtain rfl : i = fl.length := by omega
            have HW := Lib.hid (within_ok HL.out HR.out HA.out)
            clear n0 n1
            go_wp2_with fail
            refine wp_loopM [none, none, none, none, none, none, some 6, none, some 8, none, none, none, none, none, none, none, none, none, none, none, none, none, none, none, none, none, none, none, none, none, none, none, none, none, none, none, none, none, none, none, none, none, none, none, none, none, none, none, none, none, none, none, some 52, some 53, some 54, some 55, some 56, some 57, some 58, some 59, some 60, some 61, some 62, some 63, some 64, some 65, some 66, some 67, some 68, some 69, none, none, none, none, none, none, none, none, none, none, none, none, none, none, none, none, none, none, none] (fun (r : Nat) (f : Nat → Value) (wq : World) => (fun (v : Value) => ∃ (i : Nat), v = .int .i64 i ∧ i ≤ pot.length ∧ r = pot.length - i ∧ Hid ((pot.take i).all farB = true) ∧ Sep w wq [cellsT w.heap.size #[.int .i64 pot.length, .slice a es.length c] 28]) (f 8)) (pot.length) (by kernel_rfl) ?atStart3 ?round3
            case' atStart3 => (try dsimp only [nthV])
            case' round3 =>
              intro gk f wr l hl hrel J2 K2 hJ2 hK2
              (try simp only [mask] at hl)
              generalize f 8 = u8 at hl hrel
              subst hl
              (try dsimp only at hrel)
            case atStart3 => exact ⟨0, rfl, Nat.zero_le _, rfl, Lib.hid (by simp), hs⟩
            case round3 =>
              clear hs
              obtain ⟨q, rfl, hq, rfl, HB, hs⟩ := hrel
              by_cases hqt : q < pot.length
              · obtain ⟨b1, o1, e1, hb1, hc1⟩ := (hs.rd hp).at q hqt
                subst e1
                have hst := far_step (pot := pot) hqt HB.out
                have hsp := far_stop (pot := pot) hqt
                obtain ⟨X, hX⟩ : ∃ X, X = pot.getD q 0 := ⟨_, rfl⟩
                rw [← hX] at hc1 hst hsp
                clear hX
                cases hfx : farB X
                · have HE := Lib.hid (show fitsB pot.length es fl pot = false by simp [fitsB, potB, hsp hfx])
                  rcases (farB_no X).1 hfx with q1 | q1
                  · have d1 : decide (1099511627776 < X) = false := decide_eq_false (by omega)
                    have d2 : decide (X < -1099511627776) = true := decide_eq_true q1
                    clear hst hsp hfx q1
                    go_wp2_with fail
                    go_ret
                    exact ⟨by rw [HE.out]; rfl, hs.below⟩
                  · have d1 : decide (1099511627776 < X) = true := decide_eq_true q1
                    clear hst hsp hfx q1
                    go_wp2_with fail
                    go_ret
                    exact ⟨by rw [HE.out]; rfl, hs.below⟩
                · have HST := Lib.hid (hst hfx)
                  have hq2 := (farB_iff X).1 hfx
                  have d1 : decide (X < -1099511627776) = false := decide_eq_false (by omega)
                  have d2 : decide (1099511627776 < X) = false := decide_eq_false (by omega)
                  clear hst hsp hfx hq2
                  go_wp2_with fail
                  refine Round.intro (pot.length - (q + 1)) ?measure4 (by kernel_rfl) (hJ2 _ _ _ ?rel4)
                  case' rel4 => (try dsimp only [nthV])
                  case measure4 => omega
                  case rel4 => exact ⟨q + 1, by go_num, hqt, rfl, HST, hs⟩
              · obtain rfl : q = pot.length := by omega
                have HP := Lib.hid (show potB pot.length pot = true by
                  have := HB.out
                  rw [List.take_length] at this
                  simp [potB, this])
                go_wp2_with fail
                refine wp_loopM [none, none, none, none, none, none, some 6, none, none, some 9, none, none, none, none, none, none, none, none, none, none, none, none, none, none, none, none, none, none, none, none, none, none, none, none, none, none, none, none, none, none, none, none, none, none, none, none, none, none, none, none, none, none, none, none, none, none, none, none, none, none, none, none, none, none, none, none, none, none, none, none, some 70, some 71, some 72, some 73, some 74, some 75, some 76, some 77, some 78, some 79, some 80, some 81, some 82, some 83, some 84, some 85, some 86, some 87, some 88] (fun (r : Nat) (f : Nat → Value) (wz : World) => (fun (v : Value) => ∃ (i : Nat), v = .int .i64 i ∧ i ≤ 2 * fl.length ∧ r = 2 * fl.length - i ∧ Hid ((List.range i).all (tightS es fl pot) = true) ∧ Sep w wz [cellsT w.heap.size #[.int .i64 pot.length, .slice a es.length c] 28]) (f 9)) (2 * fl.length) (by kernel_rfl) ?atStart5 ?round5
                case' atStart5 => (try dsimp only [nthV])
                case' round5 =>
                  intro gk f wr l hl hrel J3 K3 hJ3 hK3
                  (try simp only [mask] at hl)
                  generalize f 9 = u9 at hl hrel
                  subst hl
                  (try dsimp only at hrel)
                case atStart5 => exact ⟨0, by go_num, Nat.zero_le _, rfl, Lib.hid (by simp), hs⟩
                case round5 =>
                  clear hs
                  obtain ⟨z, rfl, hz, rfl, HC, hs⟩ := hrel
                  by_cases hzf : z < 2 * fl.length
                  · have hzt : z < 2 * es.length := by have := HL.out; omega
                    have hh : hasB es.length (z : Int) = true := by rw [hasB_iff]; omega
                    have hroom := room_in HW.out hh
                    obtain ⟨R, hRR⟩ : ∃ R, R = roomE es fl z := ⟨_, rfl⟩
                    rw [← hRR] at hroom
                    obtain ⟨T, hTT⟩ : ∃ T, T = lenA es pot z := ⟨_, rfl⟩
                    have HRR := Lib.hid hRR
                    have HTT := Lib.hid hTT
                    have HROOM := Lib.hid hroom
                    clear hRR hTT hroom hh
                    have n0 := cell_of (hs.cells 0 rfl) 0
                    have n1 := cell_of (hs.cells 0 rfl) 1
                    simp only [List.getElem?_toArray, List.getElem?_cons_zero, List.getElem?_cons_succ] at n0 n1
                    go_wp2_with fail
                    refine (rroom_any _ a c es _ fl z _ (hs.rdG h) (hs.rd hf) (by omega)).mono ?_
                    rintro en w5 ⟨rfl, hb⟩
                    rw [HROOM.out]
                    clear n0 n1
                    replace hs := hs.belowStep hb
                    clear hb
                    have n0 := cell_of (hs.cells 0 rfl) 0
                    have n1 := cell_of (hs.cells 0 rfl) 1
                    simp only [List.getElem?_toArray, List.getElem?_cons_zero, List.getElem?_cons_succ] at n0 n1
                    by_cases hR0 : 0 < R
                    · have d1 : decide (0 < R) = true := decide_eq_true hR0
                      go_wp2_with fail
                      refine (rlen_any _ a c es _ pot z _ (hs.rdG h) (hs.rd hp) HR.out hzt HP.out).mono ?_
                      rintro en w6 ⟨rfl, hb⟩
                      rw [← HTT.out]
                      clear n0 n1
                      replace hs := hs.belowStep hb
                      clear hb
                      by_cases hT0 : T < 0
                      · have HE := Lib.hid (show fitsB pot.length es fl pot = false by
                          have : tightB es fl pot = false := tight_stop hzt (by simp only [tightS, ← HTT.out, ← HRR.out]; simp [hT0, hR0])
                          simp [fitsB, this])
                        have d2 : decide (T < 0) = true := decide_eq_true hT0
                        clear hT0 hR0
                        go_wp2_with fail
                        go_ret
                        exact ⟨by rw [HE.out]; rfl, hs.below⟩
                      · have HST := Lib.hid (show (List.range (z + 1)).all (tightS es fl pot) = true by
                          rw [List.range_succ, List.all_append, HC.out]
                          simp only [List.all_cons, List.all_nil, Bool.and_true, Bool.true_and, tightS, ← HTT.out, ← HRR.out]
                          simp [hT0])
                        have d2 : decide (T < 0) = false := decide_eq_false hT0
                        clear hT0 hR0
                        go_wp2_with fail
                        refine Round.intro (2 * fl.length - (z + 1)) ?measure6 (by kernel_rfl) (hJ3 _ _ _ ?rel6)
                        case' rel6 => (try dsimp only [nthV])
                        case measure6 => omega
                        case rel6 => exact ⟨z + 1, by go_num, hzf, rfl, HST, hs⟩
                    · have d1 : decide (0 < R) = false := decide_eq_false hR0
                      have HST := Lib.hid (show (List.range (z + 1)).all (tightS es fl pot) = true by
                        rw [List.range_succ, List.all_append, HC.out]
                        simp only [List.all_cons, List.all_nil, Bool.and_true, Bool.true_and, tightS, ← HTT.out, ← HRR.out]
                        simp [hR0])
                      clear hR0
                      go_wp2_with fail
                      refine Round.intro (2 * fl.length - (z + 1)) ?measure7 (by kernel_rfl) (hJ3 _ _ _ ?rel7)
                      case' rel7 => (try dsimp only [nthV])
                      case measure7 => omega
                      case rel7 => exact ⟨z + 1, by go_num, hzf, rfl, HST, hs⟩
                  · obtain rfl : z = 2 * fl.length := by omega
                    have HE := Lib.hid (show fitsB pot.length es fl pot = true by
                      have : tightB es fl pot = true := by
                        have h1 := HC.out
                        rw [HL.out] at h1
                        exact h1
                      simp [fitsB, HW.out, HP.out, this])
                    go_wp2_with fail
                    go_ret
                    exact ⟨by rw [HE.out]; rfl, hs.below⟩
      · have e2 : ((pot.length : Int) != n) = true := by rw [bne_iff_ne]; exact hn
        have HE := Lib.hid (show fitsB n es fl pot = false by simp [fitsB, potB, hn])
        clear hr hn hl
        go_enter Try.func39, Try.ntmps39
        go_wp2_with fail
        refine (rright_any _ a c es _ (hs.rdG h)).mono ?_
        rintro en w1 ⟨rfl, hb⟩
        rw [HR.out]
        replace hs := hs.belowStep hb
        clear hb
        have n0 := cell_of (hs.cells 0 rfl) 0
        have n1 := cell_of (hs.cells 0 rfl) 1
        simp only [List.getElem?_toArray, List.getElem?_cons_zero, List.getElem?_cons_succ] at n0 n1
        go_wp2_with fail
        go_ret
        exact ⟨by rw [HE.out]; rfl, hs.below⟩
    · have e1 : ((fl.length : Int) != es.length) = true := by rw [bne_iff_ne]; omega
      have HE := Lib.hid (show fitsB n es fl pot = false by simp [fitsB, withinB, hl])
      clear hr hl
      go_enter Try.func39, Try.ntmps39
      go_wp2_with fail
      refine (rright_any _ a c es _ (hs.rdG h)).mono ?_
      rintro en w1 ⟨rfl, hb⟩
      rw [HR.out]
      replace hs := hs.belowStep hb
      clear hb
      have n0 := cell_of (hs.cells 0 rfl) 0
      have n1 := cell_of (hs.cells 0 rfl) 1
      simp only [List.getElem?_toArray, List.getElem?_cons_zero, List.getElem?_cons_succ] at n0 n1
      go_wp2_with fail
      go_ret
      exact ⟨by rw [HE.out]; rfl, hs.below⟩
end Go.Proofs.Ytlbpkfjebaelpaa
