/-
  The reference's accounts, walked: Draw, Reserve, Shift, Rooms, Of.
-/
import Derived.Test.YtlpfojpfepfdgaaARef
namespace Go.Proofs.Ytlpfojpfepfdgaa
open Go Go.RowKit Go.Mem Go.MoneyP Go.AcctP

set_option maxHeartbeats 2000000 in
theorem rdraw_any {w0 w : World} {L : List Thing} (hs : Sep w0 w L) (i b : Nat) (xs : List Ac) (hi : L[i]? = some (raccT b xs)) (hgd : GoodA xs) (k x : Int) :
    Calls Try.prog 23 #[.pointer (some ⟨b, 0, none⟩), .int .i64 k, .int .i64 x] w fun en w' => en = .returned (.int .i64 (drawE xs k x)) ∧ Sep w0 w' (L.set i (raccT b (drawL xs k x))) := by
  have HS := Lib.hid (set_same hi)
  have hlen := hgd.len
  cases hb : bankB xs.length k
  · have H := Lib.hid (draw_nobank (x := x) hb)
    have HB := Lib.hid hb
    obtain ⟨v, hv, hr⟩ := hs.obj i hi
    obtain ⟨a, c, rfl⟩ := hr.shape
    have hc := cell_of hv 0
    simp only [List.getElem?_toArray, List.getElem?_cons_zero] at hc
    clear hv
    clear hb hgd
    go_enter Try.func23, Try.ntmps23
    go_wp2_with fail
    refine (rbank_any b _ xs k _ hc hr).mono ?_
    rintro en w1 ⟨rfl, rfl⟩
    rw [HB.out]
    go_wp2_with fail
    go_ret
    exact ⟨by rw [H.out.1]; rfl, by rw [H.out.2, HS.out]; exact hs⟩
  · have HB := Lib.hid hb
    cases ha : argB x
    · have H := Lib.hid (draw_noarg hb ha)
      obtain ⟨v, hv, hr⟩ := hs.obj i hi
      obtain ⟨a, c, rfl⟩ := hr.shape
      have hc := cell_of hv 0
      simp only [List.getElem?_toArray, List.getElem?_cons_zero] at hc
      clear hv
      by_cases h1 : x < 1
      · clear hb ha hgd
        go_enter Try.func23, Try.ntmps23
        go_wp2_with fail
        refine (rbank_any b _ xs k _ hc hr).mono ?_
        rintro en w1 ⟨rfl, rfl⟩
        rw [HB.out]
        go_wp2_with fail
        go_ret
        exact ⟨by rw [H.out.1]; rfl, by rw [H.out.2, HS.out]; exact hs⟩
      · have hm : mayB x = false := by
          rw [Bool.eq_false_iff]; intro h'
          have : argB x = true := by simp [argB, h']; omega
          rw [this] at ha; cases ha
        have HM := Lib.hid hm
        clear hb ha hgd hm
        go_enter Try.func23, Try.ntmps23
        go_wp2_with fail
        refine (rbank_any b _ xs k _ hc hr).mono ?_
        rintro en w1 ⟨rfl, rfl⟩
        rw [HB.out]
        go_wp2_with fail
        refine (rmay_any x _).mono ?_
        rintro en w1 ⟨rfl, rfl⟩
        rw [HM.out]
        go_wp2_with fail
        go_ret
        exact ⟨by rw [H.out.1]; rfl, by rw [H.out.2, HS.out]; exact hs⟩
    · have hk := (bankB_iff _ _).1 hb
      obtain ⟨m, rfl⟩ : ∃ m : Nat, k = m := ⟨k.toNat, by omega⟩
      have hm : m < xs.length := by omega
      have hx : 0 < x ∧ mayB x = true := by simpa [argB] using ha
      obtain ⟨hx0, hx1⟩ := hx
      have HM := Lib.hid hx1
      have hx2 := ((mayB_iff x).1 hx1).2
      have hbal := hgd.at hm
      rw [← acAt_of hm] at hbal
      have HY := Lib.hid (draw_yes (xs := xs) (k := (m : Int)) hb ha)
      have HN := Lib.hid (draw_low (xs := xs) (k := (m : Int)) hb ha)
      have hi' := hi
      obtain ⟨v, hv, ho, _⟩ := hs.objUse i hi
      obtain ⟨g, c, rfl, hg, hcell, hfr⟩ := ho.get m hm
      have hc := cell_of hv 0
      simp only [List.getElem?_toArray, List.getElem?_cons_zero] at hc
      have x0 := hcell m hm 0 (by decide)
      simp only [acR, Nat.add_zero, List.getElem?_cons_zero, List.getElem?_cons_succ] at x0
      rw [← acAt_of hm] at x0
      have hr := ho.rd
      clear hcell ho
      have HST := Lib.hid (fun (B R : Int) (hB : acAt xs m = ⟨B, R⟩) (h0 : x ≤ (acAt xs m).bal) => (show Sep w0 (w.setCell ⟨g, m * 2, none⟩ (.int .i64 (B - x))) (L.set i (raccT b (drawL xs m x))) from by
        have := hs.objSet i hi rone_inj hv m hm 0 (by decide) ⟨B - x, R⟩ (.int .i64 (B - x)) (by rw [← acAt_of hm, hB]; rfl)
        rw [(HY.out h0).2]
        unfold addAt
        rw [Int.toNat_natCast, hB]
        exact this))
      obtain ⟨⟨g0, g1⟩, _, _⟩ := hbal
      rw [Int.toNat_natCast] at HY HN
      obtain ⟨B, hB⟩ : ∃ B, B = (acAt xs m).bal := ⟨_, rfl⟩
      rw [← hB] at x0 g0 g1 HY HN HST
      have HB2 := Lib.hid hB
      clear hb ha hgd hk hx1 hB hv hi hi'
      by_cases h0 : x ≤ B
      · have d0 : decide (B < x) = false := by simp; omega
        go_enter Try.func23, Try.ntmps23
        go_wp2_with fail
        refine (rbank_any b _ xs m _ hc hr).mono ?_
        rintro en w1 ⟨rfl, rfl⟩
        rw [HB.out]
        go_wp2_with fail
        refine (rmay_any x _).mono ?_
        rintro en w1 ⟨rfl, rfl⟩
        rw [HM.out]
        go_wp2_with fail
        go_ret
        exact ⟨by rw [(HY.out h0).1]; rfl, HST.out B _ (by rw [HB2.out]) h0⟩
      · have d0 : decide (B < x) = true := by simp; omega
        have h1 : B < x := by omega
        have HN2 := Lib.hid (HN.out h1)
        clear h0
        go_enter Try.func23, Try.ntmps23
        go_wp2_with fail
        refine (rbank_any b _ xs m _ hc hr).mono ?_
        rintro en w1 ⟨rfl, rfl⟩
        rw [HB.out]
        go_wp2_with fail
        refine (rmay_any x _).mono ?_
        rintro en w1 ⟨rfl, rfl⟩
        rw [HM.out]
        go_wp2_with fail
        go_ret
        exact ⟨by rw [HN2.out.1]; rfl, by rw [HN2.out.2, HS.out]; exact hs⟩
set_option maxHeartbeats 2000000 in
theorem rres_any {w0 w : World} {L : List Thing} (hs : Sep w0 w L) (i b : Nat) (xs : List Ac) (hi : L[i]? = some (raccT b xs)) (hgd : GoodA xs) (k x : Int) :
    Calls Try.prog 24 #[.pointer (some ⟨b, 0, none⟩), .int .i64 k, .int .i64 x] w fun en w' => en = .returned (.int .i64 (resE xs k x)) ∧ Sep w0 w' (L.set i (raccT b (resL xs k x))) := by
  have HS := Lib.hid (set_same hi)
  have hlen := hgd.len
  cases hb : bankB xs.length k
  · have H := Lib.hid (res_nobank (x := x) hb)
    have HB := Lib.hid hb
    obtain ⟨v, hv, hr⟩ := hs.obj i hi
    obtain ⟨a, c, rfl⟩ := hr.shape
    have hc := cell_of hv 0
    simp only [List.getElem?_toArray, List.getElem?_cons_zero] at hc
    clear hv
    clear hb hgd
    go_enter Try.func24, Try.ntmps24
    go_wp2_with fail
    refine (rbank_any b _ xs k _ hc hr).mono ?_
    rintro en w1 ⟨rfl, rfl⟩
    rw [HB.out]
    go_wp2_with fail
    go_ret
    exact ⟨by rw [H.out.1]; rfl, by rw [H.out.2, HS.out]; exact hs⟩
  · have HB := Lib.hid hb
    cases hx : mayB x
    · have H := Lib.hid (res_noarg hb hx)
      have HM := Lib.hid hx
      obtain ⟨v, hv, hr⟩ := hs.obj i hi
      obtain ⟨a, c, rfl⟩ := hr.shape
      have hc := cell_of hv 0
      simp only [List.getElem?_toArray, List.getElem?_cons_zero] at hc
      clear hv
      clear hb hgd hx
      go_enter Try.func24, Try.ntmps24
      go_wp2_with fail
      refine (rbank_any b _ xs k _ hc hr).mono ?_
      rintro en w1 ⟨rfl, rfl⟩
      rw [HB.out]
      go_wp2_with fail
      refine (rmay_any x _).mono ?_
      rintro en w1 ⟨rfl, rfl⟩
      rw [HM.out]
      go_wp2_with fail
      go_ret
      exact ⟨by rw [H.out.1]; rfl, by rw [H.out.2, HS.out]; exact hs⟩
    · have hk := (bankB_iff _ _).1 hb
      obtain ⟨m, rfl⟩ : ∃ m : Nat, k = m := ⟨k.toNat, by omega⟩
      have hm : m < xs.length := by omega
      have HM := Lib.hid hx
      have HY := Lib.hid (res_yes (xs := xs) (k := (m : Int)) hb hx)
      obtain ⟨v, hv, ho, _⟩ := hs.objUse i hi
      obtain ⟨g, c, rfl, hg, hcell, hfr⟩ := ho.get m hm
      have hc := cell_of hv 0
      simp only [List.getElem?_toArray, List.getElem?_cons_zero] at hc
      have x0 := hcell m hm 1 (by decide)
      simp only [acR, Nat.add_zero, List.getElem?_cons_zero, List.getElem?_cons_succ] at x0
      rw [← acAt_of hm] at x0
      have hr := ho.rd
      clear hcell ho
      have HST := Lib.hid (show Sep w0 (w.setCell ⟨g, m * 2 + 1, none⟩ (.int .i64 x)) (L.set i (raccT b (resL xs m x))) from by
        have := hs.objSet i hi rone_inj hv m hm 1 (by decide) ⟨(acAt xs m).bal, x⟩ (.int .i64 x) (by rw [← acAt_of hm]; rfl)
        rw [HY.out.2]
        exact this)
      clear hb hgd hk hx hv
      go_enter Try.func24, Try.ntmps24
      go_wp2_with fail
      refine (rbank_any b _ xs m _ hc hr).mono ?_
      rintro en w1 ⟨rfl, rfl⟩
      rw [HB.out]
      go_wp2_with fail
      refine (rmay_any x _).mono ?_
      rintro en w1 ⟨rfl, rfl⟩
      rw [HM.out]
      go_wp2_with fail
      go_ret
      exact ⟨by rw [HY.out.1]; rfl, HST.out⟩
set_option maxHeartbeats 2000000 in
theorem rashift_any {w0 w : World} {L : List Thing} (hs : Sep w0 w L) (i b : Nat) (xs : List Ac) (hi : L[i]? = some (raccT b xs)) (hsm : xs.length ≤ 100) (v : Value) (by_ : List Int) (hr : ∀ W, Sep w0 W L → Rd .i64 W v by_) :
    Calls Try.prog 25 #[.pointer (some ⟨b, 0, none⟩), v] w fun en w' => en = .returned (.int .i64 (shiftE (bals xs) by_)) ∧ Sep w0 w' (L.set i (raccT b (shiftL xs by_))) := by
  obtain ⟨a2, c2, rfl⟩ := (hr w hs).shape
  obtain ⟨v, hv, hrd⟩ := hs.obj i hi
  have hc := cell_of hv 0
  simp only [List.getElem?_toArray, List.getElem?_cons_zero] at hc
  have HR := Lib.hid hr
  clear hv hr
  go_enter Try.func25, Try.ntmps25
  go_wp2_with fail
  refine (rbals_any _ xs _ hrd (by omega)).mono ?_
  rintro en w2 ⟨u, rfl, k2⟩
  clear hc hrd
  replace hs := hs.belowStep k2.below
  go_wp2_with fail
  refine (rshift_any _ _ (bals xs) by_ _ (k2.rdInts 0 rfl) (HR.out _ hs) (by rw [bals_length]; omega)).mono ?_
  rintro en w3 ⟨u3, rfl, k3⟩
  clear k2
  replace hs := hs.join k3
  simp only [List.cons_append, List.nil_append] at hs
  obtain ⟨S, hS⟩ : ∃ S, S = shiftV (bals xs) by_ := ⟨_, rfl⟩
  have hSL : S.length ≤ xs.length := by
    rw [hS]
    rcases shift_len (l := bals xs) (b := by_) with q | q
    · rw [q, bals_length]; exact Nat.le_refl _
    · rw [q]; simp
  obtain ⟨E, hE⟩ : ∃ E, E = shiftE (bals xs) by_ := ⟨_, rfl⟩
  rw [← hS] at hs
  rw [← hE]
  have HFIN := Lib.hid (show shiftL xs by_ = putB xs S S.length by rw [hS]; rfl)
  have HEE := Lib.hid hE
  clear hS hE k3
  obtain ⟨a3, c3, rfl⟩ := (hs.rdInts 0 rfl).shape
  have hle := (hs.rdInts 0 rfl).le'
  have HI := Lib.hid hi
  clear hi
  go_wp2_with fail
  refine wp_loopM [none, none, none, none, none, none, none, some 7, none, none, none, none, none, none, none, none, none, none, some 18, some 19, some 20, some 21, some 22, some 23, some 24, some 25, some 26, some 27, some 28, some 29, some 30, some 31, some 32, some 33, some 34, none] (fun (r : Nat) (f : Nat → Value) (wr : World) => (fun (v : Value) => ∃ (j : Nat), v = .int .i64 j ∧ j ≤ S.length ∧ r = S.length - j ∧ Sep w0 wr (intsT .i64 2 (.slice a3 S.length c3) S :: L.set i (raccT b (putB xs S j)))) (f 7)) (S.length) (by kernel_rfl) ?atStart1 ?round1
  case' atStart1 => (try dsimp only [nthV])
  case' round1 =>
    intro gk f wr l hl hrel J1 K1 hJ1 hK1
    (try simp only [mask] at hl)
    generalize f 7 = u7 at hl hrel
    subst hl
    (try dsimp only at hrel)
  case atStart1 => exact ⟨0, rfl, Nat.zero_le _, rfl, by rw [putB_zero, set_same HI.out]; exact hs⟩
  case round1 =>
    clear hs
    obtain ⟨j, rfl, hj, rfl, hs⟩ := hrel
    by_cases hlt : j < S.length
    · obtain ⟨b1, o1, e1, hb1, hc1⟩ := (hs.rdInts 0 rfl).at j hlt
      subst e1
      have hjx : j < xs.length := Nat.lt_of_lt_of_le hlt hSL
      have hip : (intsT .i64 2 (.slice (some ⟨b1, o1, none⟩) S.length c3) S :: L.set i (raccT b (putB xs S j)))[i + 1]? = some (raccT b (putB xs S j)) := by
        have := (List.getElem?_eq_some_iff.1 HI.out).1
        simp [this]
      obtain ⟨v, hv, ho, _⟩ := hs.objUse (i + 1) hip
      have hpl := putB_length xs S j
      obtain ⟨g, cg, rfl, hg, hcell, hfr⟩ := ho.get j (by rw [hpl]; exact hjx)
      have x0 := hcell j (by rw [hpl]; exact hjx) 0 (by decide)
      simp only [acR, Nat.add_zero, List.getElem?_cons_zero, putB_at hjx, if_neg (Nat.lt_irrefl j)] at x0
      have hcb := cell_of hv 0
      simp only [List.getElem?_toArray, List.getElem?_cons_zero] at hcb
      rw [hpl] at hcb
      have HS := Lib.hid (show Sep w0 (wr.drew.setCell ⟨g, j * 2, none⟩ (.int .i64 (S.getD j 0))) (intsT .i64 2 (.slice (some ⟨b1, o1, none⟩) S.length c3) S :: L.set i (raccT b (putB xs S (j + 1)))) from by
        have := hs.drew.objSet (i + 1) hip rone_inj hv j (by rw [hpl]; exact hjx) 0 (by decide) ⟨S.getD j 0, (acAt xs j).res⟩ (.int .i64 (S.getD j 0)) (by rw [putB_at hjx, if_neg (Nat.lt_irrefl j)]; rfl)
        rw [putB_step hjx, List.set_cons_succ, List.set_set] at this
        exact this)
      obtain ⟨V, hV⟩ : ∃ V, V = S.getD j 0 := ⟨_, rfl⟩
      rw [← hV] at HS hc1
      clear hcell hv ho hip hpl hs hV
      go_wp2_with fail
      refine Mix.region [0, 0, 0, 0, 0, 0, 0, 0, 0, 0, 0, 2] (fun _ => True) (by kernel_rfl) (by kernel_rfl) trivial ?_
      simp only [List.zip_cons_cons, List.zip_nil_right]
      iterate 11 (refine Mix.step0 fun K hK => ?_; go_simp; (try (go_bits; try go_simp)); first | ((with_reducible refine hK _ _ ?_); clear hK K) | ((try (simp only [IntWalk.iteOmega]; try go_simp)); (try go_bits); (with_reducible refine hK _ _ ?_); clear hK K))
      refine Mix.step2n (by first | rfl | simp [Region.wanted, yielded]) fun K hK => ?_
      go_wp2_with fail
      refine Mix.post_mk (C := (fun _ => True)) trivial (hK _ _ ?_)
      clear hK K
      refine Mix.done ?_
      go_wp2_with fail
      refine Round.intro (S.length - (j + 1)) ?measure2 (by kernel_rfl) (hJ1 _ _ _ ?rel2)
      case' rel2 => (try dsimp only [nthV])
      case measure2 => omega
      case rel2 => exact ⟨j + 1, by go_num, hlt, rfl, HS.out⟩
    · obtain rfl : j = S.length := by omega
      have HF := Lib.hid (show Sep w0 wr (L.set i (raccT b (shiftL xs by_))) from by rw [HFIN.out]; exact hs.tail)
      clear hs
      go_wp2_with fail
      go_ret
      exact ⟨by rw [← HEE.out]; rfl, HF.out⟩
set_option maxHeartbeats 2000000 in
theorem rrooms_any (b : Nat) (v : Value) (xs : List Ac) (w : World) (hb : w.cell? ⟨b, 0, none⟩ = some v) (h : RdG acR w v xs) (hg : GoodA xs) :
    Calls Try.prog 26 #[.pointer (some ⟨b, 0, none⟩)] w fun en w' => ∃ u, en = .returned u ∧ Sep w w' [intsT .i64 2 u (roomsL xs)] := by
  obtain ⟨i0, hi0, hz0, hz1, hz2⟩ := info_parts Try.infoI64R
  obtain ⟨a, c, rfl⟩ := h.shape
  have hlen := hg.len
  have HG := Lib.hid hg
  have lb := World.block_lt_of_cell? w _ hb
  have HB0 := Lib.hid hb
  clear hg
  have hs := (Sep.start w).nilInts .i64 2
  go_enter Try.func26, Try.ntmps26
  go_wp2_with fail
  clear hb
  refine wp_loopM [none, none, none, some 3, some 4, some 5, some 6, some 7, some 8, some 9, some 10, some 11, some 12, some 13, some 14, some 15, some 16, some 17, some 18, some 19, some 20, some 21, some 22, some 23, some 24, some 25, some 26, some 27, some 28, some 29, some 30, some 31, some 32, some 33, some 34, none] (fun (r : Nat) (f : Nat → Value) (wr : World) => (fun (vo v : Value) => ∃ (i : Nat), v = .int .i64 i ∧ i ≤ xs.length ∧ r = xs.length - i ∧ Sep w wr [intsT .i64 2 vo ((roomsL xs).take i)]) (f 3) (f 4)) (xs.length) (by kernel_rfl) ?atStart3 ?round3
  case' atStart3 => (try dsimp only [nthV])
  case' round3 =>
    intro gk f wr l hl hrel J1 K1 hJ1 hK1
    (try simp only [mask] at hl)
    generalize f 3 = u3 at hl hrel
    generalize f 4 = u4 at hl hrel
    subst hl
    (try dsimp only at hrel)
  case atStart3 => exact ⟨0, rfl, Nat.zero_le _, rfl, hs⟩
  case round3 =>
    clear hs
    obtain ⟨i, rfl, hi, rfl, hs⟩ := hrel
    have hb := (hs.cell (o := 0) lb).trans HB0.out
    by_cases hlt : i < xs.length
    · obtain ⟨b1, o1, e1, hb1, hc1⟩ := (hs.rdG h).at i hlt
      subst e1
      have x0 := hc1 0 (by decide)
      have x1 := hc1 1 (by decide)
      simp only [acR, Nat.add_zero, List.getElem?_toArray, List.getElem?_cons_zero, List.getElem?_cons_succ] at x0 x1
      have HB := Lib.hid (rooms_take hlt)
      have hga := HG.out.at hlt
      obtain ⟨B, hB⟩ : ∃ B, B = xs[i].bal := ⟨_, rfl⟩
      obtain ⟨R, hR⟩ : ∃ R, R = xs[i].res := ⟨_, rfl⟩
      rw [← hB] at x0 HB hga
      rw [← hR] at x1 HB hga
      obtain ⟨⟨g0, g1⟩, g2, g3⟩ := hga
      clear hB hR hc1
      by_cases hmx : 0 ≤ B - R
      · rw [show max (B - R) 0 = B - R by omega] at HB
        have hsa := (hs.alloc (.cells #[.int .i64 (B - R)] 2)).drew
        have hBB : (wr.alloc (.cells #[.int .i64 (B - R)] 2)).drew.heap[wr.heap.size]? = some (.cells #[.int .i64 (B - R)] 2 (0, 0)) := heap_alloc_new wr _
        go_wp2_with fail
        refine Mix.region [1, 0, 0, 0, 0, 0, 0, 0, 0, 0, 0, 0, 0, 0, 0, 0, 0, 0, 0, 2, 2, 0] (fun _ => True) (by kernel_rfl) (by kernel_rfl) trivial ?_
        simp only [List.zip_cons_cons, List.zip_nil_right]
        iterate 1 (refine Mix.step1 fun K hK => ?_; go_simp; (try (go_bits; try go_simp)); first | ((with_reducible refine hK _ _ ?_); clear hK K) | ((try (simp only [IntWalk.iteOmega]; try go_simp)); (try go_bits); (with_reducible refine hK _ _ ?_); clear hK K))
        iterate 18 (refine Mix.step0 fun K hK => ?_; go_simp; (try (go_bits; try go_simp)); first | ((with_reducible refine hK _ _ ?_); clear hK K) | ((try (simp only [IntWalk.iteOmega]; try go_simp)); (try go_bits); (with_reducible refine hK _ _ ?_); clear hK K))
        refine Mix.step2n (by first | rfl | simp [Region.wanted, yielded]) fun K hK => ?_
        go_wp2_with fail
        refine Mix.post_mk (C := (fun _ => True)) trivial (hK _ _ ?_)
        clear hK K
        refine Mix.step2n (by first | rfl | simp [Region.wanted, yielded]) fun K hK => ?_
        refine wpList_appIntB rfl (.tmp 14) (.tmp 33) 35 rfl 2 i0 _ 8 Try.underlying35 hi0 hz0 hz1 hz2 rfl _ _ .i64 (B - R) hsa 0 rfl wr.heap.size hBB rfl rfl (by simp; (try simp only [maxLen]); omega) (by simp; omega) ?_
        intro vo w4 hs4 HSH
        rw [← HB.out] at hs4
        clear hs hsa hBB
        go_wp2_with fail
        refine Mix.post_mk (C := (fun _ => True)) trivial (hK _ _ ?_)
        clear hK K
        iterate 1 (refine Mix.step0 fun K hK => ?_; go_simp; (try (go_bits; try go_simp)); first | ((with_reducible refine hK _ _ ?_); clear hK K) | ((try (simp only [IntWalk.iteOmega]; try go_simp)); (try go_bits); (with_reducible refine hK _ _ ?_); clear hK K))
        refine Mix.done ?_
        go_wp2_with fail
        refine Round.intro (xs.length - (i + 1)) ?measure4 (by kernel_rfl) (hJ1 _ _ _ ?rel4)
        case' rel4 => (try dsimp only [nthV])
        case measure4 => omega
        case rel4 => exact ⟨i + 1, by go_num, hlt, rfl, hs4⟩
      · rw [show max (B - R) 0 = 0 by omega] at HB
        have hsa := (hs.alloc (.cells #[.int .i64 (0)] 2)).drew
        have hBB : (wr.alloc (.cells #[.int .i64 (0)] 2)).drew.heap[wr.heap.size]? = some (.cells #[.int .i64 (0)] 2 (0, 0)) := heap_alloc_new wr _
        go_wp2_with fail
        refine Mix.region [1, 0, 0, 0, 0, 0, 0, 0, 0, 0, 0, 0, 0, 0, 0, 0, 0, 0, 0, 2, 2, 0] (fun _ => True) (by kernel_rfl) (by kernel_rfl) trivial ?_
        simp only [List.zip_cons_cons, List.zip_nil_right]
        iterate 1 (refine Mix.step1 fun K hK => ?_; go_simp; (try (go_bits; try go_simp)); first | ((with_reducible refine hK _ _ ?_); clear hK K) | ((try (simp only [IntWalk.iteOmega]; try go_simp)); (try go_bits); (with_reducible refine hK _ _ ?_); clear hK K))
        iterate 18 (refine Mix.step0 fun K hK => ?_; go_simp; (try (go_bits; try go_simp)); first | ((with_reducible refine hK _ _ ?_); clear hK K) | ((try (simp only [IntWalk.iteOmega]; try go_simp)); (try go_bits); (with_reducible refine hK _ _ ?_); clear hK K))
        refine Mix.step2n (by first | rfl | simp [Region.wanted, yielded]) fun K hK => ?_
        go_wp2_with fail
        refine Mix.post_mk (C := (fun _ => True)) trivial (hK _ _ ?_)
        clear hK K
        refine Mix.step2n (by first | rfl | simp [Region.wanted, yielded]) fun K hK => ?_
        refine wpList_appIntB rfl (.tmp 14) (.tmp 33) 35 rfl 2 i0 _ 8 Try.underlying35 hi0 hz0 hz1 hz2 rfl _ _ .i64 (0) hsa 0 rfl wr.heap.size hBB rfl rfl (by simp; (try simp only [maxLen]); omega) (by simp; omega) ?_
        intro vo w4 hs4 HSH
        rw [← HB.out] at hs4
        clear hs hsa hBB
        go_wp2_with fail
        refine Mix.post_mk (C := (fun _ => True)) trivial (hK _ _ ?_)
        clear hK K
        iterate 1 (refine Mix.step0 fun K hK => ?_; go_simp; (try (go_bits; try go_simp)); first | ((with_reducible refine hK _ _ ?_); clear hK K) | ((try (simp only [IntWalk.iteOmega]; try go_simp)); (try go_bits); (with_reducible refine hK _ _ ?_); clear hK K))
        refine Mix.done ?_
        go_wp2_with fail
        refine Round.intro (xs.length - (i + 1)) ?measure5 (by kernel_rfl) (hJ1 _ _ _ ?rel5)
        case' rel5 => (try dsimp only [nthV])
        case measure5 => omega
        case rel5 => exact ⟨i + 1, by go_num, hlt, rfl, hs4⟩
    · obtain rfl : i = xs.length := by omega
      rw [← rooms_length xs, List.take_length] at hs
      go_wp2_with fail
      go_ret
      exact ⟨_, rfl, hs⟩
set_option maxHeartbeats 2000000 in
theorem rof_any (v : Value) (xs : List Ac) (w : World) (h : RdG acR w v xs) (hsm : xs.length ≤ 1000000) :
    Calls Try.prog 20 #[v] w fun en w' => (ofE xs = 0 ∧ ∃ b, en = .returned (.tuple #[.pointer (some ⟨b, 0, none⟩), .int .i64 0]) ∧ Sep w w' [raccT b xs]) ∨ (ofE xs ≠ 0 ∧ en = .returned (.tuple #[.pointer none, .int .i64 (ofE xs)]) ∧ Below w.heap.size w w') := by
  obtain ⟨i0, hi0, hz0, hz1, hz2⟩ := info_parts Try.infoAcctR
  obtain ⟨a, c, rfl⟩ := h.shape
  by_cases hl : 16 < xs.length
  · have H := Lib.hid (show ofE xs = 6 by simp [ofE, hl])
    go_enter Try.func20, Try.ntmps20
    go_wp2_with fail
    go_ret2
    exact .inr ⟨by rw [H.out]; decide, by rw [H.out]; rfl, Below.refl _ _⟩
  · have d16 : decide (16 < (xs.length : Int)) = false := by simp; omega
    go_enter Try.func20, Try.ntmps20
    go_wp2_with fail
    refine wp_loopM [none, none, some 2, some 3, some 4, none, none, none, none, none, none, some 11, some 12, some 13, some 14, some 15, some 16, some 17, some 18, some 19, some 20, some 21, some 22, some 23, some 24, some 25, some 26, some 27, some 28, some 29, some 30, some 31, some 32, none, none, none, none, none, none, none, none, none, none, none, none, none, none, none, none, none, none, none, none, none] (fun (r : Nat) (f : Nat → Value) (wr : World) => (fun (v : Value) => ∃ (i : Nat), v = .int .i64 i ∧ i ≤ xs.length ∧ r = xs.length - i ∧ Hid ((xs.take i).all okA = true) ∧ wr = w) (f 4)) (xs.length) (by kernel_rfl) ?atStart6 ?round6
    case' atStart6 => (try dsimp only [nthV])
    case' round6 =>
      intro gk f wr l hl hrel J1 K1 hJ1 hK1
      (try simp only [mask] at hl)
      generalize f 4 = u4 at hl hrel
      subst hl
      (try dsimp only at hrel)
    case atStart6 => exact ⟨0, rfl, Nat.zero_le _, rfl, Lib.hid (by simp), rfl⟩
    case round6 =>
      obtain ⟨i, rfl, hi, rfl, HALL, rfl⟩ := hrel
      by_cases hlt : i < xs.length
      · obtain ⟨b1, o1, e1, hb1, hc1⟩ := h.at i hlt
        subst e1
        have x0 := hc1 0 (by decide)
        have x1 := hc1 1 (by decide)
        simp only [acR, Nat.add_zero, List.getElem?_cons_zero, List.getElem?_cons_succ] at x0 x1
        obtain ⟨B, hB⟩ : ∃ B, B = xs[i].bal := ⟨_, rfl⟩
        obtain ⟨R, hR⟩ : ∃ R, R = xs[i].res := ⟨_, rfl⟩
        have hok : okA xs[i] = (mayB B && mayB R) := by rw [hB, hR]; rfl
        rw [← hB] at x0
        rw [← hR] at x1
        have HOK := Lib.hid hok
        clear hB hR hc1 hok
        cases hmb : mayB B
        · have HE := Lib.hid (show ofE xs = 1 by simp [ofE, hl, all_stop hlt (by rw [HOK.out, hmb]; rfl)])
          go_wp2_with fail
          refine (rmay_any B _).mono ?_
          rintro en w3 ⟨rfl, rfl⟩
          rw [hmb]
          go_wp2_with fail
          go_ret2
          exact .inr ⟨by rw [HE.out]; decide, by rw [HE.out]; rfl, Below.refl _ _⟩
        · cases hmr : mayB R
          · have HE := Lib.hid (show ofE xs = 1 by simp [ofE, hl, all_stop hlt (by rw [HOK.out, hmb, hmr]; rfl)])
            go_wp2_with fail
            refine (rmay_any B _).mono ?_
            rintro en w3 ⟨rfl, rfl⟩
            rw [hmb]
            go_wp2_with fail
            refine (rmay_any R _).mono ?_
            rintro en w3 ⟨rfl, rfl⟩
            rw [hmr]
            go_wp2_with fail
            go_ret2
            exact .inr ⟨by rw [HE.out]; decide, by rw [HE.out]; rfl, Below.refl _ _⟩
          · have HST := Lib.hid (all_step hlt HALL.out (by rw [HOK.out, hmb, hmr]; rfl))
            go_wp2_with fail
            refine (rmay_any B _).mono ?_
            rintro en w3 ⟨rfl, rfl⟩
            rw [hmb]
            go_wp2_with fail
            refine (rmay_any R _).mono ?_
            rintro en w3 ⟨rfl, rfl⟩
            rw [hmr]
            go_wp2_with fail
            refine Round.intro (xs.length - (i + 1)) ?measure7 (by kernel_rfl) (hJ1 _ _ _ ?rel7)
            case' rel7 => (try dsimp only [nthV])
            case measure7 => omega
            case rel7 => exact ⟨i + 1, by go_num, hlt, rfl, HST, rfl⟩
      · obtain rfl : i = xs.length := by omega
        have HE := Lib.hid (show ofE xs = sumE (bals xs) by have := HALL.out; rw [List.take_length] at this; simp [ofE, hl, this])
        go_wp2_with fail
        refine (rbals_any _ xs _ h hsm).mono ?_
        rintro en w3 ⟨u3, rfl, k3⟩
        go_wp2_with fail
        refine (rsum_any _ (bals xs) _ (k3.rdInts 0 rfl)).mono ?_
        rintro en w4 ⟨rfl, rfl⟩
        obtain ⟨E, hE⟩ : ∃ E, E = sumE (bals xs) := ⟨_, rfl⟩
        rw [← hE] at HE ⊢
        have hs := (k3.tail.nilRecs acR 27).newCells #[.slice none 0 0] 51
        by_cases hz : E = 0
        · subst hz
          clear hE
          go_wp2_with (at_builtin; refine wpList_appRdG acR rfl (.tmp 48) (.tmp 49) 25 rfl 27 i0 _ 16 Try.underlying25 hi0 hz0 hz1 hz2 rfl _ [] _ xs hs 1 rfl (hs.rdG h) rfl rfl ?c3 ?c4 ?grow)
          case c3 => (try simp); (try simp only [maxLen]); (try omega)
          case c4 => (try simp); (try simp only [maxLen]); (try omega)
          case grow =>
            intro v' w5 hs5
            (try simp only [List.set_cons_succ, List.set_cons_zero, List.nil_append] at hs5)
            obtain ⟨a', c', rfl⟩ := (hs5.rdRecs 1 rfl).shape
            have q0 := cell_of (hs5.cells 0 rfl) 0
            have qf := frozen_of (hs5.cells 0 rfl) 0
            simp only [List.getElem?_toArray, List.getElem?_cons_zero] at q0
            have hs6 := hs5.setC 0 rfl 0 (.slice a' xs.length c') #[.slice a' xs.length c'] rfl
            (try simp only [List.set_cons_zero] at hs6)
            have HF := Lib.hid (Sep.objNew (f := fun v => #[v]) hs6)
            clear hs6 hs5
            go_wp2_with fail
            go_ret2
            exact .inl ⟨HE.out, _, rfl, HF.out⟩
        · have hnz : (E != 0) = true := by simpa using hz
          have HZ := Lib.hid hz
          clear hE hz
          go_wp2_with fail
          go_ret2
          exact .inr ⟨by rw [HE.out]; exact HZ.out, by rw [HE.out]; rfl, k3.below⟩
end Go.Proofs.Ytlpfojpfepfdgaa
