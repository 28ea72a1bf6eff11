/-
  Package rest: Bottle, walked.
-/
import Derived.Test.YtmfjfhmoljnnkaaRW4
import Derived.Test.YtmfjfhmoljnnkaaRPlain3
import Derived.Test.YtmfjfhmoljnnkaaMap
namespace Go.Proofs.Ytmfjfhmoljnnkaa
open Go Go.RowKit Go.Mem Go.NetP Go.RestP Go.Maps

theorem wf64 (x : Int) (h : 0 ≤ x) (h' : x ≤ 1000000000) : (Lit.int .i64 x).wf = true := by simp only [Lit.wf, IntKind.min, IntKind.max, IntKind.bits]; simp; omega
theorem IsMap_of {P : Program} {k : TypeId} {R : Value → Option (DataW Unit × List MemPlace)} {w : World} {b n : Nat} {D : DataW Unit} (h : w.ownsMap P k R b n D) : IsMap D := h.isMap
theorem lawI : Keyed Try.prog 3 := int_keyed Try.underlying3
theorem zeroL (w : World) : (zeroValue 2).run Try.prog w = .ok (.int .i64 0) w := by kernel_rfl
theorem keyI (I : Nat) (h : I ≤ 1000000000) : keyOf Try.prog 3 (.int .i64 (I : Int)) = some (.int .i64 (I : Int)) :=
  keyOf_int_mk Try.underlying3 (by simp only [Lit.wf, IntKind.min, IntKind.max, IntKind.bits]; simp; omega)

set_option maxHeartbeats 2000000 in
theorem bottle_any (n : Int) (a : Option Addr) (c : Nat) (es : List Ed) (v : Value) (fl : List Int) (va : Value) (arcs : List Int) (w : World) (h : RdG edR w (.slice a es.length c) es) (h' : Rd .i64 w v fl) (ha : Rd .i64 w va arcs) (hsm : es.length ≤ 100000) (hal : arcs.length ≤ 1000000) :
    Calls Try.prog 23 #[.agg #[.int .i64 n, .slice a es.length c], v, va] w fun en w' => en = .returned (.int .i64 (bottleV n es fl arcs)) ∧ Below w.heap.size w w' := by
  have hs := (Sep.start w).newCells #[.int .i64 n, .slice a es.length c] 24
  obtain ⟨a', c', rfl⟩ := h'.shape
  obtain ⟨a2, c2, rfl⟩ := ha.shape
  have hmm := @run_makeMap Try.prog
  go_enter Try.func23, Try.ntmps23
  go_wp2_with fail
  refine (way_any n a c es _ arcs _ (hs.rdG h) (hs.rd ha) hsm).mono ?_
  rintro en w1 ⟨rfl, hb⟩
  replace hs := hs.belowStep hb
  clear hb; (try clear n0 n1)
  cases hw : wayB n es arcs
  · have HE := Lib.hid (show bottleV n es fl arcs = 0 by simp [bottleV, hw])
    clear hw
    go_wp2_with fail
    (repeat rw [Exit.noGoto_ret]); go_ret
    exact ⟨by rw [HE.out]; rfl, hs.below⟩
  · have n0 := cell_of (hs.cells 0 rfl) 0
    have n1 := cell_of (hs.cells 0 rfl) 1
    simp only [List.getElem?_toArray, List.getElem?_cons_zero, List.getElem?_cons_succ] at n0 n1
    go_wp2_with fail
    refine (within_any n a c es _ fl _ (hs.rdG h) (hs.rd h')).mono ?_
    rintro en w2 ⟨rfl, hb⟩
    replace hs := hs.belowStep hb
    clear hb; (try clear n0 n1)
    cases hr : withinB n es fl
    · have HE := Lib.hid (show bottleV n es fl arcs = 0 by simp [bottleV, hr])
      clear hw hr
      go_wp2_with fail
      (repeat rw [Exit.noGoto_ret]); go_ret
      exact ⟨by rw [HE.out]; rfl, hs.below⟩
    · have HV := Lib.hid (show bottleV n es fl arcs = leastS es fl arcs arcs.length by simp [bottleV, hw, hr])
      have HW := Lib.hid hw
      have HR := Lib.hid hr
      clear hw hr
      have hpos := (way_cap HW.out).1
      obtain ⟨b2, o2, e2, hb2, x0⟩ := (hs.rd ha).at 0 hpos
      subst e2
      have hst := step_has ((way_cap HW.out).2.2 0 hpos)
      obtain ⟨I, hI⟩ : ∃ I : Nat, arcs.getD 0 0 = I := ⟨_, has_cast hst⟩
      rw [hI] at x0 hst
      have HH := Lib.hid hst
      have HI := Lib.hid hI
      have hne : arcs ≠ [] := fun e => by rw [e] at hpos; simp at hpos
      simp only [Nat.add_zero] at x0
      clear hI hst
      have n0 := cell_of (hs.cells 0 rfl) 0
      have n1 := cell_of (hs.cells 0 rfl) 1
      simp only [List.getElem?_toArray, List.getElem?_cons_zero, List.getElem?_cons_succ] at n0 n1
      go_wp2_with fail
      refine Mix.region [0, 0, 0, 0, 0, 2, 0] (fun _ => True) (by kernel_rfl) (by kernel_rfl) trivial ?_
      simp only [List.zip_cons_cons, List.zip_nil_right]
      iterate 5 (refine Mix.step0 fun K hK => ?_; go_simp; (try (go_bits; try go_simp)); first | ((with_reducible refine hK _ _ ?_); clear hK K) | ((try (simp only [IntWalk.iteOmega]; try go_simp)); (try go_bits); (with_reducible refine hK _ _ ?_); clear hK K))
      refine Mix.step2n (by first | rfl | simp [Region.wanted, yielded]) fun K hK => ?_
      go_wp2_with fail
      replace hs := hs.drew
      refine (room_any n a c es _ fl I _ (hs.rdG h) (hs.rd h') HH.out HR.out).mono ?_
      rintro en w5 ⟨rfl, hb⟩
      replace hs := hs.belowStep hb
      clear hb; (try clear n0 n1)
      go_wp2_with fail
      refine Mix.post_mk (C := (fun _ => True)) trivial (hK _ _ ?_)
      clear hK K
      iterate 1 (refine Mix.step0 fun K hK => ?_; go_simp; (try (go_bits; try go_simp)); first | ((with_reducible refine hK _ _ ?_); clear hK K) | ((try (simp only [IntWalk.iteOmega]; try go_simp)); (try go_bits); (with_reducible refine hK _ _ ?_); clear hK K))
      refine Mix.done ?_
      have HL0 := Lib.hid (show roomE es fl I = leastS es fl arcs 0 by unfold leastS arcAt; rw [HI.out]; rfl)
      rw [HL0.out]
      clear HL0
      replace hs := hs.newMap Try.prog 3 2
      go_wp2_with fail
      clear x0 HI HH hb2
      obtain ⟨B, hB⟩ : ∃ B, B = w5.heap.size := ⟨_, rfl⟩
      rw [← hB] at hs ⊢
      clear hB hmm
      refine wp_loopM [none, none, none, none, none, none, none, some 7, none, none, some 10, some 11, none, none, none, none, none, none, none, none, none, none, none, none, none, none, none, none, none, none, none, some 31, some 32, some 33, some 34, some 35, some 36, some 37, some 38, some 39, some 40, some 41, some 42, some 43, some 44, some 45, some 46, some 47, some 48, some 49, some 50, some 51, some 52, some 53, some 54, some 55, some 56, some 57, some 58, none] (fun (r : Nat) (f : Nat → Value) (wr : World) => (fun (v vl : Value) => ∃ (i : Nat) (D : DataW Unit), v = .int .i64 i ∧ vl = .int .i64 (leastS es fl arcs i) ∧ i ≤ arcs.length ∧ r = arcs.length - i ∧ (∀ x : Int, D.atKey (.int .i64 x) (.lit (.int .i64 0)) = .lit (.int .i64 (cnt arcs i x))) ∧ Sep w wr [mapT Try.prog 3 2 B i D, cellsT w.heap.size #[.int .i64 n, .slice a es.length c] 24]) (f 31) (f 7)) (arcs.length) (by kernel_rfl) ?atStart1 ?round1
      case' atStart1 => (try dsimp only [nthV])
      case' round1 =>
        intro gk f wr l hl hrel J1 K1 hJ1 hK1
        (try simp only [mask] at hl)
        generalize f 31 = u31 at hl hrel
        generalize f 7 = u7 at hl hrel
        subst hl
        (try dsimp only at hrel)
      case atStart1 => exact ⟨0, .map [], rfl, rfl, Nat.zero_le _, rfl, fun x => by rw [cnt_zero]; rfl, hs⟩
      case round1 =>
        clear hs
        obtain ⟨i, D, rfl, rfl, hi, rfl, hD, hs⟩ := hrel
        have HD := Lib.hid hD
        clear hD
        by_cases hlt : i < arcs.length
        · obtain ⟨b3, o3, e3, hb3, x0⟩ := (hs.rd ha).at i hlt
          injection e3 with e3
          injection e3 with e4 e5 _
          subst e4; subst e5
          have hst := step_has ((way_cap HW.out).2.2 i hlt)
          obtain ⟨I, hI⟩ : ∃ I : Nat, arcs.getD i 0 = I := ⟨_, has_cast hst⟩
          rw [hI] at x0 hst
          have HI := Lib.hid hI
          have HH := Lib.hid hst
          have hI2 := (hasB_iff _ _).1 hst
          have hI3 : I ≤ 1000000 := by omega
          have hI4 : Mem.flip I ≤ 1000001 := by unfold Mem.flip; split <;> omega
          have hx1 := xor1_i64 I (by omega)
          obtain ⟨J, hJf⟩ : ∃ J, J = Mem.flip I := ⟨_, rfl⟩
          rw [← hJf] at hx1 hI4
          have HJ := Lib.hid hJf
          have hk1 := keyI I (by omega)
          have hk2 := keyI J (by omega)
          have hown := hs.map 0 rfl
          have hc1 := HD.out I
          have hc2 := HD.out J
          have hb1 := cnt_bound arcs i I
          have hb2 := cnt_bound arcs i J
          obtain ⟨c1, h1⟩ : ∃ c1, cnt arcs i I = c1 := ⟨_, rfl⟩
          obtain ⟨c2', h2⟩ : ∃ c2, cnt arcs i J = c2 := ⟨_, rfl⟩
          rw [h1] at hc1 hb1
          rw [h2] at hc2 hb2
          have HN := Lib.hid (show need arcs i = 1 + c1 - c2' by unfold need arcAt; rw [HI.out, Int.toNat_natCast, ← HJ.out, h1, h2])
          have HC1 := Lib.hid h1
          clear hJf hI hst hI2 h1 h2
          have n0 := cell_of (hs.cells 1 rfl) 0
          have n1 := cell_of (hs.cells 1 rfl) 1
          simp only [List.getElem?_toArray, List.getElem?_cons_zero, List.getElem?_cons_succ] at n0 n1
          obtain ⟨hb11, hb12⟩ := hb1
          obtain ⟨hb21, hb22⟩ := hb2
          have HCN := Lib.hid (cnt_succ (arcs := arcs) hlt)
          by_cases hnd : c2' < 1 + c1
          · have HL := Lib.hid (show min (leastS es fl arcs i) (roomE es fl I / (1 + c1 - c2')) = leastS es fl arcs (i + 1) by rw [leastS, HN.out, if_pos (by omega)]; unfold arcAt; rw [HI.out, Int.toNat_natCast])
            go_wp2_with (first
              | (at_lookup; first | refine wpList_lookG rfl _ _ 55 rfl 3 2 lawI Try.underlying55 Try.underlying2 (zeroL _) B i D rfl hown I c1 rfl hk1 hc1 ?_ | refine wpList_lookG rfl _ _ 55 rfl 3 2 lawI Try.underlying55 Try.underlying2 (zeroL _) B i D rfl hown J c2' rfl hk2 hc2 ?_)
              | (at_mapUpdate; refine wpList_mapUpdate_own _ rfl _ _ _ 55 rfl 3 2 lawI Try.underlying55 _ B i D rfl hown (by simp [maxLen]; omega) _ _ _ rfl rfl hk1 _ [] (plainElem_int (a := c1 + 1) Try.underlying2 (wf64 (c1 + 1) (by omega) (by omega))) ?_; intro w7 hown1 hgrow1)
              | fail)
            have hrb := room_bound HR.out HH.out
            refine (room_any n a c es _ fl I _ (hs.rdG h) (hs.rd h') HH.out HR.out).mono ?_
            rintro en w6 ⟨rfl, hb⟩
            clear hown
            replace hs := hs.belowStep hb
            clear hb; (try clear n0 n1)
            have hown := hs.map 0 rfl
            generalize roomE es fl I = Rm at *
            obtain ⟨hr0, hr1⟩ := hrb
            have hlb := least_bound HW.out HR.out i hi
            generalize leastS es fl arcs i = Le at *
            obtain ⟨hl0, hl1⟩ := hlb
            go_wp2_with (first
              | (at_lookup; first | refine wpList_lookG rfl _ _ 55 rfl 3 2 lawI Try.underlying55 Try.underlying2 (zeroL _) B i D rfl hown I c1 rfl hk1 hc1 ?_ | refine wpList_lookG rfl _ _ 55 rfl 3 2 lawI Try.underlying55 Try.underlying2 (zeroL _) B i D rfl hown J c2' rfl hk2 hc2 ?_)
              | (at_mapUpdate; refine wpList_mapUpdate_own _ rfl _ _ _ 55 rfl 3 2 lawI Try.underlying55 _ B i D rfl hown (by simp [maxLen]; omega) _ _ _ rfl rfl hk1 _ [] (plainElem_int (a := c1 + 1) Try.underlying2 (wf64 (c1 + 1) (by omega) (by omega))) ?_; intro w7 hown1 hgrow1)
              | fail)
            · have hD2 := put_at (IsMap_of hown) I (c1 + 1) (cnt arcs i) (cnt arcs (i + 1)) HD.out (by rw [HCN.out, if_pos HI.out, HC1.out]) (fun x hx => by rw [HCN.out, if_neg (by rw [HI.out]; exact fun e => hx e.symm), Int.add_zero]) (by simp [WideAt.IsKeyLit])
              replace hs := hs.setMap 0 rfl hown1 hgrow1
              simp only [List.set_cons_zero] at hs
              refine Round.intro (arcs.length - (i + 1)) ?measure2 (by kernel_rfl) (hJ1 _ _ _ ?rel2)
              case' rel2 => (try dsimp only [nthV])
              case measure2 => omega
              case rel2 => exact ⟨i + 1, _, by go_num, by (rw [← HL.out, Int.min_def]; first | rw [if_pos (by omega)] | rw [if_neg (by omega)]), hlt, rfl, hD2, hs⟩
            · have hD2 := put_at (IsMap_of hown) I (c1 + 1) (cnt arcs i) (cnt arcs (i + 1)) HD.out (by rw [HCN.out, if_pos HI.out, HC1.out]) (fun x hx => by rw [HCN.out, if_neg (by rw [HI.out]; exact fun e => hx e.symm), Int.add_zero]) (by simp [WideAt.IsKeyLit])
              replace hs := hs.setMap 0 rfl hown1 hgrow1
              simp only [List.set_cons_zero] at hs
              refine Round.intro (arcs.length - (i + 1)) ?measure3 (by kernel_rfl) (hJ1 _ _ _ ?rel3)
              case' rel3 => (try dsimp only [nthV])
              case measure3 => omega
              case rel3 => exact ⟨i + 1, _, by go_num, by (rw [← HL.out, Int.min_def]; first | rw [if_pos (by omega)] | rw [if_neg (by omega)]), hlt, rfl, hD2, hs⟩
          · have HL := Lib.hid (show leastS es fl arcs i = leastS es fl arcs (i + 1) by rw [leastS, HN.out, if_neg (by omega)])
            have hnd2 : decide (c2' < 1 + c1) = false := by simpa using hnd
            go_wp2_with (first
              | (at_lookup; first | refine wpList_lookG rfl _ _ 55 rfl 3 2 lawI Try.underlying55 Try.underlying2 (zeroL _) B i D rfl hown I c1 rfl hk1 hc1 ?_ | refine wpList_lookG rfl _ _ 55 rfl 3 2 lawI Try.underlying55 Try.underlying2 (zeroL _) B i D rfl hown J c2' rfl hk2 hc2 ?_)
              | (at_mapUpdate; refine wpList_mapUpdate_own _ rfl _ _ _ 55 rfl 3 2 lawI Try.underlying55 _ B i D rfl hown (by simp [maxLen]; omega) _ _ _ rfl rfl hk1 _ [] (plainElem_int (a := c1 + 1) Try.underlying2 (wf64 (c1 + 1) (by omega) (by omega))) ?_; intro w7 hown1 hgrow1)
              | fail)
            have hD2 := put_at (IsMap_of hown) I (c1 + 1) (cnt arcs i) (cnt arcs (i + 1)) HD.out (by rw [HCN.out, if_pos HI.out, HC1.out]) (fun x hx => by rw [HCN.out, if_neg (by rw [HI.out]; exact fun e => hx e.symm), Int.add_zero]) (by simp [WideAt.IsKeyLit])
            replace hs := hs.setMap 0 rfl hown1 hgrow1
            simp only [List.set_cons_zero] at hs
            refine Round.intro (arcs.length - (i + 1)) ?measure4 (by kernel_rfl) (hJ1 _ _ _ ?rel4)
            case' rel4 => (try dsimp only [nthV])
            case measure4 => omega
            case rel4 => exact ⟨i + 1, _, by go_num, by rw [← HL.out], hlt, rfl, hD2, hs⟩
        · obtain rfl : i = arcs.length := by omega
          go_wp2_with fail
          go_ret
          exact ⟨by rw [HV.out]; rfl, hs.below⟩
end Go.Proofs.Ytmfjfhmoljnnkaa
