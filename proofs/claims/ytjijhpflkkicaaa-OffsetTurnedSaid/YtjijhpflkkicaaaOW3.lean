/-
  The reference of cycles: May, Nets, walked.
-/
import Derived.Test.YtjijhpflkkicaaaOW2
set_option linter.unusedVariables false
set_option linter.unusedSimpArgs false
namespace Go.Proofs.Ytjijhpflkkicaaa
open Go Go.RowKit Go.Mem Go.MoneyP Go.NetP Go.BuildP Go.OffP Go.Shelf
set_option maxRecDepth 100000 in
set_option maxHeartbeats 4000000 in
theorem rmay29_any (n : Int) (l : List Du) (vl : Value) (w : World) (h : RdG duR w vl l) :
    Calls Try.prog 17 #[.int .i64 n, vl] w fun en w' => en = .returned (.bool (may29 n l)) ∧ Below w.heap.size w w' := by
  obtain ⟨al, cl, rfl⟩ := h.shape
  have hle := h.le'
  by_cases h0 : n < 0
  · have H := Lib.hid (show may29 n l = false by simp [may29]; omega)
    go_enter Try.func17, Try.ntmps17
    go_wp2_with fail
    go_ret
    exact ⟨by rw [H.out]; rfl, Below.refl _ _⟩
  by_cases h1 : 16 < n
  · have H := Lib.hid (show may29 n l = false by simp [may29]; omega)
    go_enter Try.func17, Try.ntmps17
    go_wp2_with fail
    go_ret
    exact ⟨by rw [H.out]; rfl, Below.refl _ _⟩
  by_cases h2 : 64 < l.length
  · have e2 : decide (64 < (l.length : Int)) = true := decide_eq_true (by omega)
    have H := Lib.hid (show may29 n l = false by simp [may29, allB]; omega)
    go_enter Try.func17, Try.ntmps17
    go_wp2_with fail
    go_ret
    exact ⟨by rw [H.out]; rfl, Below.refl _ _⟩
  have e2 : decide (64 < (l.length : Int)) = false := decide_eq_false (by omega)
  have HL := Lib.hid h2
  clear h2
  go_enter Try.func17, Try.ntmps17
  go_wp2_with fail
  refine wp_loopM [none, none, none, none, some 4, some 5, none, none, none, none, none, none, none, none, none, none, none, some 17, some 18, some 19, some 20, some 21, some 22, some 23, some 24, some 25, some 26, some 27, some 28, some 29, some 30, some 31, some 32, some 33, some 34, some 35, some 36, some 37, some 38, some 39, some 40, some 41, some 42, some 43, some 44, some 45, some 46] (fun (r : Nat) (f : Nat → Value) (wr : World) => (fun (v vr : Value) => ∃ (i : Nat), v = .int .i64 i ∧ vr = .bool false ∧ i ≤ l.length ∧ r = l.length - i ∧ Hid (∀ d ∈ l.take i, mayD d = true ∧ belowX n d = true) ∧ Sep w wr []) (f 5) (f 4)) (l.length) (by kernel_rfl) ?atStart1 ?round1
  case' atStart1 => (try dsimp only [nthV])
  case' round1 =>
    intro gk f wr l hl hrel J1 K1 hJ1 hK1
    (try simp only [mask] at hl)
    generalize f 5 = u5 at hl hrel
    generalize f 4 = u4 at hl hrel
    subst hl
    (try dsimp only at hrel)
  case atStart1 => exact ⟨0, rfl, rfl, Nat.zero_le _, rfl, Lib.hid (by simp), Sep.start w⟩
  case round1 =>
    obtain ⟨i, rfl, rfl, hi, rfl, HA, hs⟩ := hrel
    by_cases hlt : i < l.length
    · have hiI : (i : Int) < l.length := by omega
      obtain ⟨b1, o1, e1, _, hc1⟩ := (hs.rdG h).at i hlt
      subst e1
      obtain ⟨x, hx⟩ : ∃ x, x = l[i] := ⟨_, rfl⟩
      rw [← hx] at hc1
      have HX := Lib.hid hx
      have hxm : x ∈ l := by rw [hx]; exact List.getElem_mem hlt
      clear hx
      have HE := Lib.hid (rmayD_any x wr)
      have HNO := Lib.hid (show mayD x = false ∨ belowX n x = false → may29 n l = false from fun q => by
        rcases q with q | q
        · have : allB l = false := by
            rw [Bool.eq_false_iff]; intro e
            have := (Bool.and_eq_true _ _).mp e
            have := List.all_eq_true.1 this.2 x hxm
            rw [q] at this; cases this
          simp [may29, this]
        · have : belowB n l = false := by
            rw [Bool.eq_false_iff]; intro e
            have := List.all_eq_true.1 e x hxm
            rw [q] at this; cases this
          simp [may29, this])
      have HYES := Lib.hid (show mayD x = true → belowX n x = true → ∀ d ∈ l.take (i + 1), mayD d = true ∧ belowX n d = true from fun a b => by
        rw [List.take_succ_eq_append_getElem hlt]
        intro d hd
        rcases List.mem_append.1 hd with q | q
        · exact HA.out d q
        · rw [List.mem_singleton.1 q, ← HX.out]; exact ⟨a, b⟩)
      clear hxm
      cases hm : mayD x
      · rw [hm] at HE
        have H := Lib.hid (HNO.out (.inl hm))
        clear hm HYES HNO
        obtain ⟨id, f, t, xx, we, u, hh⟩ := x
        have x0 := hc1 0 (by decide)
        have x1 := hc1 1 (by decide)
        have x2 := hc1 2 (by decide)
        have x3 := hc1 3 (by decide)
        have x4 := hc1 4 (by decide)
        have x5 := hc1 5 (by decide)
        have x6 := hc1 6 (by decide)
        simp only [duR, Nat.add_zero, List.getElem?_cons_zero, List.getElem?_cons_succ] at x0 x1 x2 x3 x4 x5 x6
        clear hc1
        dsimp only [Du.val] at HE
        go_wp2_with fail
        refine HE.out.mono ?_
        rintro en w1 ⟨rfl, hb⟩
        clear HE x0 x1 x2 x3 x4 x5 x6
        go_wp2_with fail
        (repeat rw [Exit.noGoto_ret])
        go_ret
        exact ⟨by rw [H.out]; rfl, (hs.belowStep hb).below⟩
      · rw [hm] at HE
        have HM := Lib.hid hm
        clear hm
        by_cases hf : n ≤ x.f
        · have H := Lib.hid (HNO.out (.inr (by simp [belowX]; omega)))
          clear HYES HNO
          obtain ⟨id, f, t, xx, we, u, hh⟩ := x
          have x0 := hc1 0 (by decide)
          have x1 := hc1 1 (by decide)
          have x2 := hc1 2 (by decide)
          have x3 := hc1 3 (by decide)
          have x4 := hc1 4 (by decide)
          have x5 := hc1 5 (by decide)
          have x6 := hc1 6 (by decide)
          simp only [duR, Nat.add_zero, List.getElem?_cons_zero, List.getElem?_cons_succ] at x0 x1 x2 x3 x4 x5 x6
          clear hc1
          (try dsimp only at hf)
          dsimp only [Du.val] at HE
          go_wp2_with fail
          refine HE.out.mono ?_
          rintro en w1 ⟨rfl, hb⟩
          clear HE x0 x1 x2 x3 x4 x5 x6
          replace hs := hs.belowStep hb
          clear hb
          obtain ⟨b1', o1', e1', _, hc2⟩ := (hs.rdG h).at i hlt
          injection e1' with e1'
          injection e1' with q3 q4
          subst q3
          subst q4
          rw [← HX.out] at hc2
          have x0 := hc2 0 (by decide)
          have x1 := hc2 1 (by decide)
          have x2 := hc2 2 (by decide)
          have x3 := hc2 3 (by decide)
          have x4 := hc2 4 (by decide)
          have x5 := hc2 5 (by decide)
          have x6 := hc2 6 (by decide)
          simp only [duR, Nat.add_zero, List.getElem?_cons_zero, List.getElem?_cons_succ] at x0 x1 x2 x3 x4 x5 x6
          clear hc2
          have d1 : decide (n ≤ f) = true := decide_eq_true (by omega)
          go_wp2_with fail
          (repeat rw [Exit.noGoto_ret])
          go_ret
          exact ⟨by rw [H.out]; rfl, hs.below⟩
        · by_cases ht : n ≤ x.t
          · have H := Lib.hid (HNO.out (.inr (by simp [belowX]; omega)))
            clear HYES HNO
            obtain ⟨id, f, t, xx, we, u, hh⟩ := x
            have x0 := hc1 0 (by decide)
            have x1 := hc1 1 (by decide)
            have x2 := hc1 2 (by decide)
            have x3 := hc1 3 (by decide)
            have x4 := hc1 4 (by decide)
            have x5 := hc1 5 (by decide)
            have x6 := hc1 6 (by decide)
            simp only [duR, Nat.add_zero, List.getElem?_cons_zero, List.getElem?_cons_succ] at x0 x1 x2 x3 x4 x5 x6
            clear hc1
            (try dsimp only at hf)
            dsimp only [Du.val] at HE
            go_wp2_with fail
            refine HE.out.mono ?_
            rintro en w1 ⟨rfl, hb⟩
            clear HE x0 x1 x2 x3 x4 x5 x6
            replace hs := hs.belowStep hb
            clear hb
            obtain ⟨b1', o1', e1', _, hc2⟩ := (hs.rdG h).at i hlt
            injection e1' with e1'
            injection e1' with q3 q4
            subst q3
            subst q4
            rw [← HX.out] at hc2
            have x0 := hc2 0 (by decide)
            have x1 := hc2 1 (by decide)
            have x2 := hc2 2 (by decide)
            have x3 := hc2 3 (by decide)
            have x4 := hc2 4 (by decide)
            have x5 := hc2 5 (by decide)
            have x6 := hc2 6 (by decide)
            simp only [duR, Nat.add_zero, List.getElem?_cons_zero, List.getElem?_cons_succ] at x0 x1 x2 x3 x4 x5 x6
            clear hc2
            (try dsimp only at ht)
            have d1 : decide (n ≤ f) = false := decide_eq_false (by omega)
            have d2 : decide (n ≤ t) = true := decide_eq_true (by omega)
            go_wp2_with fail
            (repeat rw [Exit.noGoto_ret])
            go_ret
            exact ⟨by rw [H.out]; rfl, hs.below⟩
          · have HA2 := Lib.hid (HYES.out HM.out (by simp [belowX]; omega))
            clear HYES HNO
            obtain ⟨id, f, t, xx, we, u, hh⟩ := x
            have x0 := hc1 0 (by decide)
            have x1 := hc1 1 (by decide)
            have x2 := hc1 2 (by decide)
            have x3 := hc1 3 (by decide)
            have x4 := hc1 4 (by decide)
            have x5 := hc1 5 (by decide)
            have x6 := hc1 6 (by decide)
            simp only [duR, Nat.add_zero, List.getElem?_cons_zero, List.getElem?_cons_succ] at x0 x1 x2 x3 x4 x5 x6
            clear hc1
            (try dsimp only at hf)
            dsimp only [Du.val] at HE
            go_wp2_with fail
            refine HE.out.mono ?_
            rintro en w1 ⟨rfl, hb⟩
            clear HE x0 x1 x2 x3 x4 x5 x6
            replace hs := hs.belowStep hb
            clear hb
            obtain ⟨b1', o1', e1', _, hc2⟩ := (hs.rdG h).at i hlt
            injection e1' with e1'
            injection e1' with q3 q4
            subst q3
            subst q4
            rw [← HX.out] at hc2
            have x0 := hc2 0 (by decide)
            have x1 := hc2 1 (by decide)
            have x2 := hc2 2 (by decide)
            have x3 := hc2 3 (by decide)
            have x4 := hc2 4 (by decide)
            have x5 := hc2 5 (by decide)
            have x6 := hc2 6 (by decide)
            simp only [duR, Nat.add_zero, List.getElem?_cons_zero, List.getElem?_cons_succ] at x0 x1 x2 x3 x4 x5 x6
            clear hc2
            (try dsimp only at ht)
            have d1 : decide (n ≤ f) = false := decide_eq_false (by omega)
            have d2 : decide (n ≤ t) = false := decide_eq_false (by omega)
            go_wp2_with fail
            refine Round.intro (l.length - (i + 1)) ?measure2 (by kernel_rfl) (hJ1 _ _ _ ?rel2)
            case' rel2 => (try dsimp only [nthV])
            case measure2 => omega
            case rel2 => exact ⟨i + 1, by go_num, rfl, hlt, rfl, HA2, hs⟩
    · obtain rfl : i = l.length := by omega
      have H := Lib.hid (show may29 n l = true by
        have h3 := HA.out
        rw [List.take_length] at h3
        have h4 := HL.out
        simp only [may29, allB, belowB, Bool.and_eq_true, decide_eq_true_eq, List.all_eq_true]
        exact ⟨⟨⟨by omega, by omega⟩, by omega, fun d hd => (h3 d hd).1⟩, fun d hd => (h3 d hd).2⟩)
      go_wp2_with fail
      (repeat rw [Exit.noGoto_ret])
      go_ret
      exact ⟨by rw [H.out]; rfl, hs.below⟩
set_option maxRecDepth 100000 in
set_option maxHeartbeats 4000000 in
theorem rnets_any (n : Int) (l : List Du) (vl : Value) (w : World) (h : RdG duR w vl l) :
    Calls Try.prog 28 #[.int .i64 n, vl] w fun en w' => NetsD n l w en w' := by
  obtain ⟨i0, hi0, hz0, hz1, hz2⟩ := info_parts Try.infoI64o
  have HMY := Lib.hid (fun W (hW : RdG duR W vl l) => rmay29_any n l vl W hW)
  obtain ⟨al, cl, rfl⟩ := h.shape
  have hle := h.le'
  by_cases h0 : n < 0
  · go_enter Try.func28, Try.ntmps28
    have H := Lib.hid (netsE_arg (l := l) (.inl h0))
    go_wp2_with fail
    go_ret2
    exact .inl ⟨by rw [H.out]; decide, by rw [H.out]; rfl, (Below.refl _ _)⟩
  by_cases h1 : 16 < n
  · go_enter Try.func28, Try.ntmps28
    have H := Lib.hid (netsE_arg (l := l) (.inr (.inl h1)))
    go_wp2_with fail
    go_ret2
    exact .inl ⟨by rw [H.out]; decide, by rw [H.out]; rfl, (Below.refl _ _)⟩
  by_cases h2 : 64 < l.length
  · have e2 : decide (64 < (l.length : Int)) = true := decide_eq_true (by omega)
    have ha : allB l = false := by simp [allB]; omega
    go_enter Try.func28, Try.ntmps28
    have H := Lib.hid (netsE_arg (n := n) (.inr (.inr ha)))
    go_wp2_with fail
    go_ret2
    exact .inl ⟨by rw [H.out]; decide, by rw [H.out]; rfl, (Below.refl _ _)⟩
  have e2 : decide (64 < (l.length : Int)) = false := decide_eq_false (by omega)
  have HL := Lib.hid h2
  clear h2
  go_enter Try.func28, Try.ntmps28
  go_wp2_with fail
  refine wp_loopM [none, none, none, none, some 4, some 5, some 6, none, none, none, none, none, none, none, none, none, none, none, none, none, none, some 21, some 22, some 23, some 24, some 25, some 26, some 27, some 28, some 29, some 30, some 31, some 32, none, none, none, none, none, none, none, none, none, none, none, none, none, none, none, none, none, none, none, none, none, none, none, none, none, none, none, none, none, none, none, none, none, none, none, none, none, none, none, none, none, none, none, none, none, none, none, none, none, none, none, none, none, none, none, none, none, none] (fun (r : Nat) (f : Nat → Value) (wr : World) => (fun (v vr ve : Value) => ∃ (i : Nat), v = .int .i64 i ∧ vr = .slice none 0 0 ∧ ve = .int .i64 0 ∧ i ≤ l.length ∧ r = l.length - i ∧ Hid (∀ d ∈ l.take i, mayD d = true) ∧ Sep w wr []) (f 6) (f 4) (f 5)) (l.length) (by kernel_rfl) ?atStart3 ?round3
  case' atStart3 => (try dsimp only [nthV])
  case' round3 =>
    intro gk f wr l hl hrel J1 K1 hJ1 hK1
    (try simp only [mask] at hl)
    generalize f 6 = u6 at hl hrel
    generalize f 4 = u4 at hl hrel
    generalize f 5 = u5 at hl hrel
    subst hl
    (try dsimp only at hrel)
  case atStart3 => exact ⟨0, rfl, rfl, rfl, Nat.zero_le _, rfl, Lib.hid (by simp), Sep.start w⟩
  case round3 =>
    obtain ⟨i, rfl, rfl, rfl, hi, rfl, HA, hs⟩ := hrel
    by_cases hlt : i < l.length
    · have hiI : (i : Int) < l.length := by omega
      obtain ⟨b1, o1, e1, _, hc1⟩ := (hs.rdG h).at i hlt
      subst e1
      obtain ⟨x, hx⟩ : ∃ x, x = l[i] := ⟨_, rfl⟩
      rw [← hx] at hc1
      have HX := Lib.hid hx
      have hxm : x ∈ l := by rw [hx]; exact List.getElem_mem hlt
      clear hx
      have HE := Lib.hid (rmayD_any x wr)
      cases hm : mayD x
      · rw [hm] at HE
        have H := Lib.hid (show netsE n l = 1 from netsE_arg (.inr (.inr (by
          rw [Bool.eq_false_iff]; intro e
          have := (Bool.and_eq_true _ _).mp e
          have := List.all_eq_true.1 this.2 x hxm
          rw [hm] at this; cases this))))
        clear hm hxm
        obtain ⟨id, f, t, xx, we, u, hh⟩ := x
        have x0 := hc1 0 (by decide)
        have x1 := hc1 1 (by decide)
        have x2 := hc1 2 (by decide)
        have x3 := hc1 3 (by decide)
        have x4 := hc1 4 (by decide)
        have x5 := hc1 5 (by decide)
        have x6 := hc1 6 (by decide)
        simp only [duR, Nat.add_zero, List.getElem?_cons_zero, List.getElem?_cons_succ] at x0 x1 x2 x3 x4 x5 x6
        clear hc1
        dsimp only [Du.val] at HE
        go_wp2_with fail
        refine HE.out.mono ?_
        rintro en w1 ⟨rfl, hb⟩
        clear HE x0 x1 x2 x3 x4 x5 x6
        go_wp2_with fail
        (repeat rw [Exit.noGoto_ret])
        go_ret2
        exact .inl ⟨by rw [H.out]; decide, by rw [H.out]; rfl, (hs.belowStep hb).below⟩
      · rw [hm] at HE
        have HA2 := Lib.hid (show ∀ d ∈ l.take (i + 1), mayD d = true by
          rw [List.take_succ_eq_append_getElem hlt]
          intro d hd
          rcases List.mem_append.1 hd with q | q
          · exact HA.out d q
          · rw [List.mem_singleton.1 q, ← HX.out]; exact hm)
        clear hm hxm
        obtain ⟨id, f, t, xx, we, u, hh⟩ := x
        have x0 := hc1 0 (by decide)
        have x1 := hc1 1 (by decide)
        have x2 := hc1 2 (by decide)
        have x3 := hc1 3 (by decide)
        have x4 := hc1 4 (by decide)
        have x5 := hc1 5 (by decide)
        have x6 := hc1 6 (by decide)
        simp only [duR, Nat.add_zero, List.getElem?_cons_zero, List.getElem?_cons_succ] at x0 x1 x2 x3 x4 x5 x6
        clear hc1
        dsimp only [Du.val] at HE
        go_wp2_with fail
        refine HE.out.mono ?_
        rintro en w1 ⟨rfl, hb⟩
        clear HE x0 x1 x2 x3 x4 x5 x6
        go_wp2_with fail
        refine Round.intro (l.length - (i + 1)) ?measure4 (by kernel_rfl) (hJ1 _ _ _ ?rel4)
        case' rel4 => (try dsimp only [nthV])
        case measure4 => omega
        case rel4 => exact ⟨i + 1, by go_num, rfl, rfl, hlt, rfl, HA2, hs.belowStep hb⟩
    · obtain rfl : i = l.length := by omega
      have ha : allB l = true := by
        have h3 := HA.out
        rw [List.take_length] at h3
        have h4 := HL.out
        simp only [allB, Bool.and_eq_true, decide_eq_true_eq, List.all_eq_true]
        exact ⟨by omega, h3⟩
      have hme : may29 n l = belowB n l := by
        unfold may29
        rw [ha, decide_eq_true (show 0 ≤ n by omega), decide_eq_true (show n ≤ 16 by omega)]; simp
      have HM2 := Lib.hid (HMY.out wr (hs.rdG h))
      rw [hme] at HM2
      clear hme HMY hi hlt
      cases hbl : belowB n l
      · rw [hbl] at HM2
        have H0 := Lib.hid (netsE_below ⟨by omega, by omega⟩ ha hbl)
        clear ha hbl
        go_wp2_with fail
        refine HM2.out.mono ?_
        rintro en w2 ⟨rfl, hb⟩
        go_wp2_with fail
        (repeat rw [Exit.noGoto_ret])
        go_ret2
        exact .inl ⟨by rw [H0.out]; decide, by rw [H0.out]; rfl, (hs.belowStep hb).below⟩
      rw [hbl] at HM2
      have HE := Lib.hid (netsE_sum (n := n) (l := l) ⟨by omega, by omega⟩ ha hbl)
      obtain ⟨hl64, hmay⟩ := all_parts ha
      have HMAY := Lib.hid hmay
      have HBE := Lib.hid (below_parts hbl)
      clear ha hbl hmay
      obtain ⟨N, rfl⟩ : ∃ N : Nat, n = N := ⟨n.toNat, by omega⟩
      have hN16 : N ≤ 16 := by omega
      go_wp2_with fail
      refine HM2.out.mono ?_
      rintro en w2 ⟨rfl, hb⟩
      replace hs := hs.belowStep hb
      clear hb HM2
      go_wp2_with (at_make; refine wpList_makeInts rfl (.tmp 37) (.tmp 37) 23 rfl 2 i0 .i64 8 Try.underlying23 hi0 hz0 hz1 hz2 N .i64 .i64 rfl rfl hs ?m1 ?m2 ?m3)
      case m1 => unfold maxLen; omega
      case m2 => omega
      case m3 =>
        intro w3 g hs3
        clear hs
        go_wp2_with fail
        refine wp_loopM [none, none, none, none, some 4, some 5, none, some 7, none, some 9, none, none, none, none, none, none, none, none, none, none, none, none, none, none, none, none, none, none, none, none, none, none, none, none, none, none, none, none, none, some 39, some 40, some 41, some 42, some 43, some 44, some 45, some 46, some 47, some 48, some 49, some 50, some 51, some 52, some 53, some 54, some 55, some 56, some 57, some 58, some 59, some 60, some 61, some 62, some 63, some 64, some 65, some 66, some 67, some 68, some 69, some 70, some 71, some 72, some 73, some 74, some 75, some 76, some 77, some 78, some 79, some 80, some 81, some 82, some 83, some 84, some 85, some 86, some 87, some 88, some 89, none] (fun (r : Nat) (f : Nat → Value) (wr : World) => (fun (v vq vr ve : Value) => ∃ (i : Nat) (q : Int) (OX : List Int), v = .int .i64 i ∧ vq = .int .i64 q ∧ vr = .slice none 0 0 ∧ ve = .int .i64 0 ∧ i ≤ l.length ∧ r = l.length - i ∧ Hid (q = sumX (l.take i) ∧ OX = netsF N (l.take i)) ∧ 0 ≤ q ∧ q ≤ 4503599627370496 ∧ Sep w wr [intsT .i64 2 (.slice (some ⟨g, 0, none⟩) N N) OX]) (f 9) (f 7) (f 4) (f 5)) (l.length) (by kernel_rfl) ?atStart5 ?round5
        case' atStart5 => (try dsimp only [nthV])
        case' round5 =>
          intro gk f wr l hl hrel J2 K2 hJ2 hK2
          (try simp only [mask] at hl)
          generalize f 9 = u9 at hl hrel
          generalize f 7 = u7 at hl hrel
          generalize f 4 = u4 at hl hrel
          generalize f 5 = u5 at hl hrel
          subst hl
          (try dsimp only at hrel)
        case atStart5 => exact ⟨0, 0, List.replicate N 0, rfl, rfl, rfl, rfl, Nat.zero_le _, rfl, Lib.hid ⟨by simp [sumX], rfl⟩, by omega, by omega, hs3⟩
        case round5 =>
          clear hs3
          obtain ⟨i, Q, OX, rfl, rfl, rfl, rfl, hi, rfl, HI, hq0, hq1, hs⟩ := hrel
          by_cases hlt : i < l.length
          · have hiI : (i : Int) < l.length := by omega
            have hm := HMAY.out _ (List.getElem_mem hlt)
            have hbe := HBE.out _ (List.getElem_mem hlt)
            have HST := Lib.hid (netsF_take (n := N) hlt)
            have HSX := Lib.hid (sumX_take hlt)
            have HSL := Lib.hid (sumX_le (l := l) (fun d hd => (HMAY.out d hd).x0) (i + 1))
            have HOXl := Lib.hid (show OX.length = N by rw [HI.out.2]; exact netsF_len _ _)
            have hOXb : ∀ j, -sumX (l.take i) ≤ OX.getD j 0 ∧ OX.getD j 0 ≤ sumX (l.take i) := fun j => by
              rw [HI.out.2, netsF_at (fun d hd => ⟨HMAY.out d (List.mem_of_mem_take hd), HBE.out d (List.mem_of_mem_take hd)⟩) j]
              exact deltaS_bound j _ fun d hd => ⟨(HMAY.out d (List.mem_of_mem_take hd)).x0, (HMAY.out d (List.mem_of_mem_take hd)).ne⟩
            have HOB := Lib.hid (show ∀ j, -4503599627370496 ≤ OX.getD j 0 ∧ OX.getD j 0 ≤ 4503599627370496 from fun j => by have := hOXb j; have := HI.out.1; omega)
            clear hOXb
            obtain ⟨b1, o1, e1, _, hc1⟩ := (hs.rdG h).at i hlt
            subst e1
            obtain ⟨x, hx⟩ : ∃ x, x = l[i] := ⟨_, rfl⟩
            rw [← hx] at hc1 hm hbe HST HSX
            have HX := Lib.hid hx
            clear hx
            obtain ⟨id, f, t, xx, we, u, hh⟩ := x
            have x0 := hc1 0 (by decide)
            have x1 := hc1 1 (by decide)
            have x2 := hc1 2 (by decide)
            have x3 := hc1 3 (by decide)
            have x4 := hc1 4 (by decide)
            have x5 := hc1 5 (by decide)
            have x6 := hc1 6 (by decide)
            simp only [duR, Nat.add_zero, List.getElem?_cons_zero, List.getElem?_cons_succ] at x0 x1 x2 x3 x4 x5 x6
            clear hc1
            obtain ⟨hf0, hf1, ht0, ht1, hne, hx0, hx1, _, _, _⟩ := hm
            obtain ⟨hfn, htn⟩ := hbe
            dsimp only at hf0 hf1 ht0 ht1 hne hx0 hx1 hfn htn HSX
            obtain ⟨F, rfl⟩ : ∃ F : Nat, f = F := ⟨f.toNat, by omega⟩
            obtain ⟨T, rfl⟩ : ∃ T : Nat, t = T := ⟨t.toNat, by omega⟩
            have hF : F < N := by omega
            have hT : T < N := by omega
            have hFT : F ≠ T := by omega
            by_cases hgr : 4503599627370496 < Q + xx
            · have H0 := Lib.hid (show netsE N l = 13 by rw [HE.out, if_pos]; have := HI.out.1; have := HSX.out; have := HSL.out; omega)
              go_wp2_with fail
              (repeat rw [Exit.noGoto_ret])
              go_ret2
              exact .inl ⟨by rw [H0.out]; decide, by rw [H0.out]; rfl, hs.below⟩
            · have HQ := Lib.hid (show Q + xx = sumX (l.take (i + 1)) by rw [HSX.out, HI.out.1])
              cases hh
              · have HST2 := Lib.hid (show netsF N (l.take (i + 1)) = (OX.set T (OX.getD T 0 + xx)).set F (OX.getD F 0 - xx) by
                  rw [HST.out, ← HI.out.2]
                  unfold stepN
                  rw [if_neg (by simp)]
                  dsimp only
                  rw [show ((F : Int)).toNat = F by omega, show ((T : Int)).toNat = T by omega, getD_set _ _ _ _ (by rw [HOXl.out]; exact hT), if_neg (fun e => hFT e.symm)])
                have HXF := Lib.hid (show (OX.set T (OX.getD T 0 + xx)).getD F 0 = OX.getD F 0 by rw [getD_set _ _ _ _ (by rw [HOXl.out]; exact hT), if_neg (fun e => hFT e.symm)])
                obtain ⟨n1, n2⟩ := HOB.out F
                obtain ⟨n3, n4⟩ := HOB.out T
                obtain ⟨g', cg', eg, _, hcR, hfr⟩ := (hs.ints 0 rfl).get T (by rw [HOXl.out]; exact hT)
                injection eg with eg q1 q2
                injection eg with eg
                injection eg with eg
                subst eg
                have r0 := hcR T (by rw [HOXl.out]; exact hT)
                clear q1 q2 hcR
                obtain ⟨XF, hXF⟩ : ∃ x, x = OX.getD F 0 := ⟨_, rfl⟩
                obtain ⟨XT, hXT⟩ : ∃ x, x = OX.getD T 0 := ⟨_, rfl⟩
                rw [← hXF] at n1 n2 HST2 HXF
                rw [← hXT] at r0 n3 n4 HST2 HXF
                clear hXF hXT HST
                go_wp2_with fail
                refine Mix.region [0, 0, 0, 0, 0, 0, 0, 0, 0, 0, 0, 0, 0, 0, 0, 2] (fun _ => True) (by kernel_rfl) (by kernel_rfl) trivial ?_
                simp only [List.zip_cons_cons, List.zip_nil_right]
                iterate 15 (refine Mix.step0 fun K hK => ?_; go_simp; (try (go_bits; try go_simp)); first | ((with_reducible refine hK _ _ ?_); clear hK K) | ((try (simp only [IntWalk.iteOmega]; try go_simp)); (try go_bits); (with_reducible refine hK _ _ ?_); clear hK K))
                refine Mix.step2n (by first | rfl | simp [Region.wanted, yielded]) fun K hK => ?_
                go_wp2_with fail
                refine Mix.post_mk (C := (fun _ => True)) trivial (hK _ _ ?_)
                clear hK K
                refine Mix.done ?_
                have hs2 := (hs.setInts (j := T) 0 rfl (XT + xx)).drew
                (try simp only [List.set_cons_zero, List.set_cons_succ] at hs2)
                clear hs r0 hfr x0 x1 x2 x3 x4 x5 x6
                go_upto_region 20 with fail
                generalize World.drew _ = W2 at hs2 ⊢
                have hs := hs2
                clear hs2
                obtain ⟨b1', o1', e1', _, hc2⟩ := (hs.rdG h).at i hlt
                injection e1' with e1'
                injection e1' with q3 q4
                subst q3
                subst q4
                rw [← HX.out] at hc2
                have x0 := hc2 0 (by decide)
                have x1 := hc2 1 (by decide)
                have x2 := hc2 2 (by decide)
                have x3 := hc2 3 (by decide)
                have x4 := hc2 4 (by decide)
                have x5 := hc2 5 (by decide)
                have x6 := hc2 6 (by decide)
                simp only [duR, Nat.add_zero, List.getElem?_cons_zero, List.getElem?_cons_succ] at x0 x1 x2 x3 x4 x5 x6
                clear hc2
                obtain ⟨g', cg', eg, _, hcR, hfr⟩ := (hs.ints 0 rfl).get F (by rw [List.length_set, HOXl.out]; exact hF)
                injection eg with eg q1 q2
                injection eg with eg
                injection eg with eg
                subst eg
                have r1 := hcR F (by rw [List.length_set, HOXl.out]; exact hF)
                clear q1 q2 hcR
                rw [HXF.out] at r1
                refine Mix.region [0, 0, 0, 0, 0, 0, 0, 0, 0, 0, 0, 0, 0, 0, 0, 2] (fun _ => True) (by kernel_rfl) (by kernel_rfl) trivial ?_
                simp only [List.zip_cons_cons, List.zip_nil_right]
                iterate 15 (refine Mix.step0 fun K hK => ?_; go_simp; (try (go_bits; try go_simp)); first | ((with_reducible refine hK _ _ ?_); clear hK K) | ((try (simp only [IntWalk.iteOmega]; try go_simp)); (try go_bits); (with_reducible refine hK _ _ ?_); clear hK K))
                refine Mix.step2n (by first | rfl | simp [Region.wanted, yielded]) fun K hK => ?_
                go_wp2_with fail
                refine Mix.post_mk (C := (fun _ => True)) trivial (hK _ _ ?_)
                clear hK K
                refine Mix.done ?_
                have hs3 := (hs.setInts (j := F) 0 rfl (XF - xx)).drew
                (try simp only [List.set_cons_zero, List.set_cons_succ] at hs3)
                clear hs r1 hfr x0 x1 x2 x3 x4 x5 x6
                go_wp2_with fail
                refine Round.intro (l.length - (i + 1)) ?measure6 (by kernel_rfl) (hJ2 _ _ _ ?rel6)
                case' rel6 => (try dsimp only [nthV])
                case measure6 => omega
                case rel6 => exact ⟨i + 1, Q + xx, _, by go_num, rfl, rfl, rfl, hlt, rfl, Lib.hid ⟨HQ.out, HST2.out.symm⟩, by omega, by omega, hs3⟩
              · have HST2 := Lib.hid (show netsF N (l.take (i + 1)) = OX by
                  rw [HST.out, ← HI.out.2]
                  unfold stepN
                  rw [if_pos rfl])
                go_wp2_with fail
                refine Round.intro (l.length - (i + 1)) ?measure7 (by kernel_rfl) (hJ2 _ _ _ ?rel7)
                case' rel7 => (try dsimp only [nthV])
                case measure7 => omega
                case rel7 => exact ⟨i + 1, Q + xx, _, by go_num, rfl, rfl, rfl, hlt, rfl, Lib.hid ⟨HQ.out, HST2.out.symm⟩, by omega, by omega, hs⟩
          · obtain rfl : i = l.length := by omega
            have h1' := HI.out.1
            have h2' := HI.out.2
            rw [List.take_length] at h1' h2'
            have H0 := Lib.hid (show netsE N l = 0 by rw [HE.out, if_neg]; omega)
            have HF := Lib.hid h2'
            clear h1' h2'
            go_wp2_with fail
            (repeat rw [Exit.noGoto_ret])
            go_ret2
            exact .inr ⟨H0.out, _, rfl, by rw [Int.toNat_natCast, ← HF.out]; exact hs⟩
end Go.Proofs.Ytjijhpflkkicaaa
