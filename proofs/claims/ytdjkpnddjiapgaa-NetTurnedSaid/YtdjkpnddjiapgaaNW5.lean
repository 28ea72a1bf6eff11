/-
  Package net: Flows, walked; and the reference's Copy, SameNet, the law's copied.
-/
import Derived.Test.YtdjkpnddjiapgaaNRef6W
import Derived.Test.YtdjkpnddjiapgaaNW3
import Derived.Test.YtdjkpnddjiapgaaNW4
namespace Go.Proofs.Ytdjkpnddjiapgaa
open Go Go.RowKit Go.Mem Go.NetP

theorem Try.infoEdge : (Try.prog.info? 39).map (fun i => (i.zero, i.size, i.bytes)) = some (some (.agg #[.int .i64 0, .int .i64 0, .int .i64 0, .int .i64 0]), 4, 32) := by kernel_rfl

set_option maxHeartbeats 2000000 in
theorem flows_any (n : Int) (a : Option Addr) (c : Nat) (es : List Ed) (v : Value) (fl : List Int) (w : World) (h : RdG edR w (.slice a es.length c) es) (h' : Rd .i64 w v fl) :
    Calls Try.prog 17 #[.agg #[.int .i64 n, .slice a es.length c], v] w fun en w' => en = .returned (.bool (flowsB n es fl)) ∧ Below w.heap.size w w' := by
  obtain ⟨a', c', rfl⟩ := h'.shape
  have hs0 := (Sep.start w).newCells #[.int .i64 n, .slice a es.length c] 24
  go_enter Try.func17, Try.ntmps17
  go_wp2_with fail
  refine (within_any _ _ _ es _ fl _ (hs0.rdG h) (hs0.rd h')).mono ?_
  rintro en w1 ⟨rfl, hb1⟩
  have hs1 := hs0.belowStep hb1
  clear hs0 hb1
  cases hr : withinB n es fl
  · have H := Lib.hid (show flowsB n es fl = false by simp [flowsB, hr])
    clear hr
    go_wp2_with fail
    go_ret
    exact ⟨by rw [H.out]; rfl, hs1.below⟩
  · have HF := Lib.hid (show flowsB n es fl = (overV n es fl).all (fun x => x == 0) by simp [flowsB, hr])
    clear hr
    have n0 := cell_of (hs1.cells 0 rfl) 0
    have n1 := cell_of (hs1.cells 0 rfl) 1
    simp only [List.getElem?_toArray, List.getElem?_cons_zero, List.getElem?_cons_succ] at n0 n1
    go_wp2_with fail
    refine (over_any _ _ _ es _ fl _ (hs1.rdG h) (hs1.rd h')).mono ?_
    rintro en w2 ⟨u, rfl, hs2'⟩
    have hs2 := (hs1.join hs2').takeN 1
    clear hs1 hs2' n0 n1
    (try simp only [List.cons_append, List.nil_append, List.take_succ_cons, List.take_zero] at hs2)
    have hle := (hs2.rdInts 0 rfl).le'
    obtain ⟨au, cu, hu⟩ := (hs2.rdInts 0 rfl).shape
    subst hu
    generalize overV n es fl = ol at *
    go_wp2_with fail
    refine wp_loopM [none, none, none, none, some 4, none, some 6, none, none, none, none, none, none, none, none, some 15, some 16, some 17, some 18, some 19, some 20, some 21] (fun (r : Nat) (f : Nat → Value) (wr : World) => (fun (v : Value) => ∃ i : Nat, v = .int .i64 i ∧ i ≤ ol.length ∧ r = ol.length - i ∧ (∀ j, j < i → ol.getD j 0 = 0) ∧ Sep w wr [intsT .i64 2 (.slice au ol.length cu) ol]) (f 15)) (ol.length) (by kernel_rfl) ?atStart1 ?round1
    case' atStart1 => (try dsimp only [nthV])
    case' round1 =>
      intro gk f wr l hl hrel J1 K1 hJ1 hK1
      (try simp only [mask] at hl)
      generalize f 15 = u15 at hl hrel
      subst hl
      (try dsimp only at hrel)
    case atStart1 => exact ⟨0, rfl, Nat.zero_le _, rfl, by simp, hs2⟩
    case round1 =>
      clear hs2
      obtain ⟨i, rfl, hi, rfl, hq, hs⟩ := hrel
      have HQ := Lib.hid hq
      clear hq
      by_cases hlt : i < ol.length
      · obtain ⟨b1, o1, e1, hb1, hc1⟩ := (hs.rdInts 0 rfl).at i hlt
        subst e1
        obtain ⟨x, hx⟩ : ∃ x, x = ol.getD i 0 := ⟨_, rfl⟩
        rw [← hx] at hc1
        by_cases hx0 : x = 0
        · have HX := Lib.hid (show ol.getD i 0 = 0 by rw [← hx, hx0])
          rw [hx0] at hc1
          clear hx hx0
          go_wp2_with fail
          refine Round.intro (ol.length - (i + 1)) ?measure2 (by kernel_rfl) (hJ1 _ _ _ ?rel2)
          case' rel2 => (try dsimp only [nthV])
          case measure2 => omega
          case rel2 =>
            refine ⟨i + 1, by go_num, hlt, rfl, fun j hj => ?_, hs⟩
            by_cases hji : j = i
            · subst hji; exact HX.out
            · exact HQ.out j (by omega)
        · have H := Lib.hid (zero_no hlt (by rw [← hx]; exact hx0))
          have hd : (x != 0) = true := by simpa using hx0
          clear hx hx0
          go_wp2_with fail
          go_ret
          exact ⟨by rw [HF.out, H.out]; rfl, hs.below⟩
      · have H := Lib.hid (zero_all (l := ol) (fun j hj => HQ.out j (by omega)))
        go_wp2_with fail
        go_ret
        exact ⟨by rw [HF.out, H.out]; rfl, hs.below⟩

theorem copied_any (v : Value) (fl : List Int) (w : World) (h : Rd .i64 w v fl) (hsm : fl.length ≤ 1000000) :
    Calls Try.prog 12 #[v] w fun en w' => ∃ u, en = .returned u ∧ Sep w w' [intsT .i64 2 u fl] := by
  obtain ⟨i0, hi0, hz0, hz1, hz2⟩ := info_parts Try.infoI64
  obtain ⟨a, c, rfl⟩ := h.shape
  have hs2 := (Sep.start w).litInts .i64 2 [] (by simp [maxLen])
  simp only [List.map_cons, List.map_nil, List.length_cons, List.length_nil, Nat.reduceAdd, World.size_alloc] at hs2
  go_enter Try.func12, Try.ntmps12
  go_wp2_with (at_builtin; refine wpList_appRd rfl (.tmp 3) (.tmp 4) 25 rfl 2 i0 _ 8 Try.underlying25 hi0 hz0 hz1 hz2 rfl _ [] .i64 _ fl hs2 0 rfl (hs2.rd h) rfl rfl ?c3 ?c4 ?grow)
  case c3 => (try simp); (try simp only [maxLen]); (try omega)
  case c4 => (try simp); (try simp only [maxLen]); (try omega)
  case grow =>
    intro vo w4 hs3
    go_wp2_with fail
    go_ret
    exact ⟨_, rfl, by simpa using hs3⟩

set_option maxHeartbeats 1000000 in
theorem copy_any (n : Int) (a : Option Addr) (c : Nat) (es : List Ed) (w : World) (h : RdG edR w (.slice a es.length c) es) (hsm : es.length ≤ 1000000) :
    Calls Try.prog 11 #[.agg #[.int .i64 n, .slice a es.length c]] w fun en w' => ∃ a' c', en = .returned (.agg #[.int .i64 n, .slice a' es.length c']) ∧ Sep w w' [recT edR 39 (.slice a' es.length c') es] := by
  obtain ⟨i0, hi0, hz0, hz1, hz2⟩ := info_parts Try.infoEdge
  have hs0 := (Sep.start w).newCells #[.int .i64 n, .slice a es.length c] 24
  have hs1 := hs0.newCells #[.int .i64 0, .slice none 0 0] 24
  have hs2 := (hs1.litRecs edR 39 [] (by simp [maxLen])).drew
  simp only [World.size_alloc, List.length_nil, Rec.flat, List.flatMap_nil] at hs1 hs2
  go_enter Try.func11, Try.ntmps11
  go_wp2_with fail
  have FIN := Lib.hid (fun (W : World) (L : List Thing) (h : Sep w W (L ++ [cellsT w.heap.size #[.int .i64 n, .slice a es.length c] 24])) =>
    (show (fun W : World => W.cell? ⟨w.heap.size, 0, none⟩ = some (.int .i64 n) ∧ W.cell? ⟨w.heap.size, 1, none⟩ = some (.slice a es.length c)) W from by
      have hi : (L ++ [cellsT w.heap.size #[.int .i64 n, .slice a es.length c] 24])[L.length]? = some (cellsT w.heap.size #[.int .i64 n, .slice a es.length c] 24) := by simp
      exact ⟨cell_of (h.cells L.length hi) 0, cell_of (h.cells L.length hi) 1⟩))
  have hCW := FIN.out _ [_] hs1.drew
  refine Mix.region [1, 1, 2, 1, 1, 2, 0, 2] (fun W : World => W.cell? ⟨w.heap.size, 0, none⟩ = some (.int .i64 n) ∧ W.cell? ⟨w.heap.size, 1, none⟩ = some (.slice a es.length c)) (by kernel_rfl) (by kernel_rfl) hCW ?_
  simp only [List.zip_cons_cons, List.zip_nil_right]
  (refine Mix.step1 fun K hK => ?_; go_simp; (try (go_bits; try go_simp)); first | ((with_reducible refine hK _ _ ?_); clear hK K) | ((try (simp only [IntWalk.iteOmega]; try go_simp)); (try go_bits); (with_reducible refine hK _ _ ?_); clear hK K))
  (refine Mix.step1 fun K hK => ?_; go_simp; refine ⟨fun W => ?_, hK _ _ ?_⟩; (intro hW1; (try intro hW2); (try intro hW3); (try intro hW4); go_simp); clear hK K)
  refine Mix.step2n (by first | rfl | simp [Region.wanted, yielded]) fun K hK => ?_
  go_wp2_with fail
  have hCW := FIN.out _ [_, _] hs2
  refine Mix.post_mk (C := (fun W : World => W.cell? ⟨w.heap.size, 0, none⟩ = some (.int .i64 n) ∧ W.cell? ⟨w.heap.size, 1, none⟩ = some (.slice a es.length c))) (by first | exact hCW | exact HCW.out _) (hK _ _ ?_)
  clear hK K
  (refine Mix.step1 fun K hK => ?_; go_simp; (try (go_bits; try go_simp)); first | ((with_reducible refine hK _ _ ?_); clear hK K) | ((try (simp only [IntWalk.iteOmega]; try go_simp)); (try go_bits); (with_reducible refine hK _ _ ?_); clear hK K))
  (refine Mix.step1 fun K hK => ?_; go_simp; refine ⟨fun W => ?_, hK _ _ ?_⟩; (intro hW1; (try intro hW2); (try intro hW3); (try intro hW4); go_simp); clear hK K)
  refine Mix.step2n (by first | rfl | simp [Region.wanted, yielded]) fun K hK => ?_
  refine wpList_appRdG edR rfl (.tmp 5) (.tmp 7) 22 rfl 39 i0 _ 32 Try.underlying22 hi0 hz0 hz1 hz2 rfl _ [] _ es hs2 0 rfl (hs2.rdG h) rfl rfl (by simp [maxLen]; omega) (by simp; omega) ?_
  intro v' w2 hs3
  (try simp only [List.set_cons_zero, List.nil_append] at hs3)
  obtain ⟨a', c', rfl⟩ := (hs3.rdRecs 0 rfl).shape
  have hCW := FIN.out _ [_, _] hs3
  have q0 := cell_of (hs3.cells 1 rfl) 0
  have q1 := cell_of (hs3.cells 1 rfl) 1
  have qf := fun j => frozen_of (hs3.cells 1 rfl) j
  simp only [List.getElem?_toArray, List.getElem?_cons_zero, List.getElem?_cons_succ] at q0 q1
  clear hs1 hs2
  go_wp2_with fail
  refine Mix.post_mk (C := (fun W : World => W.cell? ⟨w.heap.size, 0, none⟩ = some (.int .i64 n) ∧ W.cell? ⟨w.heap.size, 1, none⟩ = some (.slice a es.length c))) (by first | exact hCW | exact HCW.out _) (hK _ _ ?_)
  clear hK K
  iterate 1 (refine Mix.step0 fun K hK => ?_; go_simp; (try (go_bits; try go_simp)); first | ((with_reducible refine hK _ _ ?_); clear hK K) | ((try (simp only [IntWalk.iteOmega]; try go_simp)); (try go_bits); (with_reducible refine hK _ _ ?_); clear hK K))
  refine Mix.step2n (by first | rfl | simp [Region.wanted, yielded]) fun K hK => ?_
  go_wp2_with fail
  have hs4 := ((hs3.setCells 1 rfl 0 (.int .i64 n) #[.int .i64 n, .slice none 0 0] rfl).setCells 1 rfl 1 (.slice a' es.length c') #[.int .i64 n, .slice a' es.length c'] rfl)
  have hCW := FIN.out _ [_, _] hs4
  refine Mix.post_mk (C := (fun W : World => W.cell? ⟨w.heap.size, 0, none⟩ = some (.int .i64 n) ∧ W.cell? ⟨w.heap.size, 1, none⟩ = some (.slice a es.length c))) (by first | exact hCW | exact HCW.out _) (hK _ _ ?_)
  clear hK K
  refine Mix.done ?_
  have q0 := cell_of (hs4.cells 1 rfl) 0
  have q1 := cell_of (hs4.cells 1 rfl) 1
  simp only [List.getElem?_toArray, List.getElem?_cons_zero, List.getElem?_cons_succ] at q0 q1
  go_wp2_with fail
  exact bodyPost_ret (v := .agg #[.int .i64 n, .slice a' es.length c']) (by simp [results, Try.results11, go_sem, q0, q1]) rfl ⟨_, _, rfl, hs4.takeN 1⟩

/-- Whether two nets are the same. -/
def sameNet (n m : Int) (es fs : List Ed) : Bool := n == m && es == fs

set_option maxHeartbeats 1000000 in
/-- Two nets that are the same. -/
theorem sameNet_same (n : Int) (a a' : Option Addr) (c c' : Nat) (es : List Ed) (w : World) (h : RdG edR w (.slice a es.length c) es) (h' : RdG edR w (.slice a' es.length c') es) :
    Calls Try.prog 24 #[.agg #[.int .i64 n, .slice a es.length c], .agg #[.int .i64 n, .slice a' es.length c']] w fun en w' => en = .returned (.bool true) ∧ Below w.heap.size w w' := by
  have hle := h.le
  unfold maxLen at hle
  have hs0 := ((Sep.start w).newCells #[.int .i64 n, .slice a es.length c] 24).newCells #[.int .i64 n, .slice a' es.length c'] 24
  simp only [World.size_alloc] at hs0
  have FIN := Lib.hid (fun (W : World) (h : Sep w W [cellsT (w.heap.size + 1) #[.int .i64 n, .slice a' es.length c'] 24, cellsT w.heap.size #[.int .i64 n, .slice a es.length c] 24]) =>
    (⟨cell_of (h.cells 1 rfl) 0, cell_of (h.cells 1 rfl) 1, cell_of (h.cells 0 rfl) 0, cell_of (h.cells 0 rfl) 1⟩ : W.cell? ⟨w.heap.size, 0, none⟩ = some (.int .i64 n) ∧ W.cell? ⟨w.heap.size, 1, none⟩ = some (.slice a es.length c) ∧ W.cell? ⟨w.heap.size + 1, 0, none⟩ = some (.int .i64 n) ∧ W.cell? ⟨w.heap.size + 1, 1, none⟩ = some (.slice a' es.length c')))
  go_enter Try.func24, Try.ntmps24
  go_wp2_with fail
  refine wp_loopM [none, none, none, none, some 4, some 5, none, none, none, none, none, none, none, none, none, none, none, none, none, none, some 20, some 21, some 22, some 23, some 24, some 25, some 26, some 27, some 28, some 29, some 30, some 31, some 32, some 33, some 34, some 35, some 36, some 37] (fun (r : Nat) (f : Nat → Value) (wr : World) => (fun (v : Value) => ∃ i : Nat, v = .int .i64 i ∧ i ≤ es.length ∧ r = es.length - i ∧ Sep w wr [cellsT (w.heap.size + 1) #[.int .i64 n, .slice a' es.length c'] 24, cellsT w.heap.size #[.int .i64 n, .slice a es.length c] 24]) (f 5)) (es.length) (by kernel_rfl) ?atStart3 ?round3
  case' atStart3 => (try dsimp only [nthV])
  case' round3 =>
    intro gk f wr l hl hrel J1 K1 hJ1 hK1
    (try simp only [mask] at hl)
    generalize f 5 = u5 at hl hrel
    subst hl
    (try dsimp only at hrel)
  case atStart3 => exact ⟨0, rfl, Nat.zero_le _, rfl, hs0⟩
  case round3 =>
    clear hs0
    obtain ⟨i, rfl, hi, rfl, hs⟩ := hrel
    obtain ⟨n0, n1, m0, m1⟩ := FIN.out _ hs
    by_cases hlt : i < es.length
    · obtain ⟨b1, o1, e1, hb1, hc1⟩ := (hs.rdG h).at i hlt
      obtain ⟨b2, o2, e2, hb2, hc2⟩ := (hs.rdG h').at i hlt
      subst e1; subst e2
      obtain ⟨e, hee⟩ : ∃ e, e = es[i] := ⟨_, rfl⟩
      rw [← hee] at hc1 hc2
      have x0 := hc1 0 (by decide)
      have x1 := hc1 1 (by decide)
      have x2 := hc1 2 (by decide)
      have x3 := hc1 3 (by decide)
      have y0 := hc2 0 (by decide)
      have y1 := hc2 1 (by decide)
      have y2 := hc2 2 (by decide)
      have y3 := hc2 3 (by decide)
      simp only [edR, Nat.add_zero, List.getElem?_cons_zero, List.getElem?_cons_succ] at x0 x1 x2 x3 y0 y1 y2 y3
      clear hc1 hc2 hee
      go_wp2_with fail
      refine Mix.region [0, 0, 0, 0, 0, 0, 0, 0, 0, 0, 0] (fun _ => True) (by kernel_rfl) (by kernel_rfl) trivial ?_
      simp only [List.zip_cons_cons, List.zip_nil_right]
      iterate 11 (refine Mix.step0 fun K hK => ?_; go_simp; (try (go_bits; try go_simp)); first | ((with_reducible refine hK _ _ ?_); clear hK K) | ((try (simp only [IntWalk.iteOmega]; try go_simp)); (try go_bits); (with_reducible refine hK _ _ ?_); clear hK K))
      refine Mix.done ?_
      go_wp2_with fail
      refine Round.intro (es.length - (i + 1)) ?measure4 (by kernel_rfl) (hJ1 _ _ _ ?rel4)
      case' rel4 => (try dsimp only [nthV])
      case measure4 => omega
      case rel4 => exact ⟨i + 1, by go_num, hlt, rfl, hs.drew⟩
    · go_wp2_with fail
      go_ret
      exact ⟨rfl, hs.below⟩
end Go.Proofs.Ytdjkpnddjiapgaa
