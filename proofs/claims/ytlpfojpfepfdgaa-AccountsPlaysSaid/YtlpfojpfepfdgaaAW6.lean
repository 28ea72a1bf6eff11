/-
  Package accounts, walked: Fund, Draw, Reserve.
-/
import Derived.Test.YtlpfojpfepfdgaaAW5
import Derived.Shelf.Abstract
namespace Go.Proofs.Ytlpfojpfepfdgaa
open Go Go.RowKit Go.Mem Go.MoneyP Go.AcctP Go.Shelf

set_option maxHeartbeats 1000000 in
theorem fund2_any (X : Nat) (x : Int) (w : World) (hX : w.cell? ⟨X, 0, none⟩ = some (.int .i64 x)) :
    Calls Try.prog 33 #[.pointer (some ⟨X, 0, none⟩)] w fun en w' => en = .returned (.bool (argB x)) ∧ Below w.heap.size w w' := by
  by_cases h0 : 0 < x
  · have H := Lib.hid (show argB x = mayB x by simp [argB, h0])
    go_enter Try.func33, Try.ntmps33
    go_wp2_with fail
    refine (may_any x _).mono ?_
    rintro en w1 ⟨rfl, rfl⟩
    go_wp2_with fail
    go_ret
    exact ⟨by rw [H.out]; rfl, Below.refl _ _⟩
  · have H := Lib.hid (show argB x = false by simp [argB, h0])
    go_enter Try.func33, Try.ntmps33
    go_wp2_with fail
    go_ret
    exact ⟨by rw [H.out]; rfl, Below.refl _ _⟩
set_option maxHeartbeats 1000000 in
theorem draw2_any (X : Nat) (x : Int) (w : World) (hX : w.cell? ⟨X, 0, none⟩ = some (.int .i64 x)) :
    Calls Try.prog 36 #[.pointer (some ⟨X, 0, none⟩)] w fun en w' => en = .returned (.bool (argB x)) ∧ Below w.heap.size w w' := by
  by_cases h0 : 0 < x
  · have H := Lib.hid (show argB x = mayB x by simp [argB, h0])
    go_enter Try.func36, Try.ntmps36
    go_wp2_with fail
    refine (may_any x _).mono ?_
    rintro en w1 ⟨rfl, rfl⟩
    go_wp2_with fail
    go_ret
    exact ⟨by rw [H.out]; rfl, Below.refl _ _⟩
  · have H := Lib.hid (show argB x = false by simp [argB, h0])
    go_enter Try.func36, Try.ntmps36
    go_wp2_with fail
    go_ret
    exact ⟨by rw [H.out]; rfl, Below.refl _ _⟩
set_option maxHeartbeats 1000000 in
theorem res2_any (X : Nat) (x : Int) (w : World) (hX : w.cell? ⟨X, 0, none⟩ = some (.int .i64 x)) :
    Calls Try.prog 39 #[.pointer (some ⟨X, 0, none⟩)] w fun en w' => en = .returned (.bool (mayB x)) ∧ Below w.heap.size w w' := by
  go_enter Try.func39, Try.ntmps39
  go_wp2_with fail
  refine (may_any x _).mono ?_
  rintro en w1 ⟨rfl, rfl⟩
  go_wp2_with fail
  go_ret
  exact ⟨rfl, Below.refl _ _⟩
set_option maxHeartbeats 1000000 in
theorem fund1_any {w0 w : World} {L : List Thing} (hs : Sep w0 w L) (i b : Nat) (xs : List Ac) (hi : L[i]? = some (accT b xs)) (X : Nat) (x : Int) (hX : w.cell? ⟨X, 0, none⟩ = some (.int .i64 x)) (g c m : Nat) (hm : m < xs.length)
    (hb : w.heap[b]? = some (.cells #[.slice (some ⟨g, 0, none⟩) xs.length c] 57 (0, 0))) (hx : -4503599627370496 ≤ x ∧ x ≤ 4503599627370496) (hbal : -4503599627370496 ≤ (acAt xs m).bal ∧ (acAt xs m).bal ≤ 4503599627370496) :
    Calls Try.prog 32 #[.pointer (some ⟨g, m * 2, none⟩), .pointer (some ⟨X, 0, none⟩)] w fun en w' => (∃ u, en = .returned u) ∧ Sep w0 w' (L.set i (accT b (addAt xs m (x)))) := by
  obtain ⟨v, hb', ho, _⟩ := hs.objUse i hi
  obtain rfl : v = .slice (some ⟨g, 0, none⟩) xs.length c := by
    rw [hb] at hb'
    injection hb' with e
    injection e with e
    exact (one_inj _ _ e).symm
  obtain ⟨g', c', e, hg, hcell, hfr⟩ := ho.get m hm
  injection e with e1 e2 e3
  injection e1 with e1
  injection e1 with e1
  subst e1
  clear e2 e3
  have x0 := hcell m hm 0 (by decide)
  simp only [acR, Nat.add_zero, List.getElem?_cons_zero] at x0
  rw [← acAt_of hm] at x0
  have HS := Lib.hid (fun (B R : Int) (hB : acAt xs m = ⟨B, R⟩) (u : Int) (hu : u = B + x) => (show Sep w0 (w.setCell ⟨g, m * 2, none⟩ (.int .i64 u)) (L.set i (accT b (addAt xs m (x)))) from by
    have := hs.objSet i hi one_inj hb m hm 0 (by decide) ⟨u, R⟩ (.int .i64 u) (by rw [← acAt_of hm, hB]; rfl)
    unfold addAt
    rw [hB, ← hu]
    exact this))
  obtain ⟨B, hB⟩ : ∃ B, B = (acAt xs m).bal := ⟨_, rfl⟩
  rw [← hB] at x0 hbal
  have HB := Lib.hid hB
  clear hB hcell hb hb' ho
  obtain ⟨hx0, hx1⟩ := hx
  obtain ⟨hb0, hb1⟩ := hbal
  go_enter Try.func32, Try.ntmps32
  go_wp2_with fail
  refine Mix.region [0, 0, 0, 0, 0, 0, 0, 0, 2] (fun _ => True) (by kernel_rfl) (by kernel_rfl) trivial ?_
  simp only [List.zip_cons_cons, List.zip_nil_right]
  iterate 8 (refine Mix.step0 fun K hK => ?_; go_simp; (try (go_bits; try go_simp)); first | ((with_reducible refine hK _ _ ?_); clear hK K) | ((try (simp only [IntWalk.iteOmega]; try go_simp)); (try go_bits); (with_reducible refine hK _ _ ?_); clear hK K))
  refine Mix.step2n (by first | rfl | simp [Region.wanted, yielded]) fun K hK => ?_
  go_wp2_with fail
  refine Mix.post_mk (C := (fun _ => True)) trivial (hK _ _ ?_)
  clear hK K
  refine Mix.done ?_
  go_wp2_with fail
  refine bodyPost_end (results_none rfl _ _ _) rfl ?_
  exact ⟨⟨_, rfl⟩, (HS.out B (acAt xs m).res (by rw [HB.out]) _ (by omega)).drew⟩
set_option maxHeartbeats 1000000 in
theorem draw1_any {w0 w : World} {L : List Thing} (hs : Sep w0 w L) (i b : Nat) (xs : List Ac) (hi : L[i]? = some (accT b xs)) (X : Nat) (x : Int) (hX : w.cell? ⟨X, 0, none⟩ = some (.int .i64 x)) (g c m : Nat) (hm : m < xs.length)
    (hb : w.heap[b]? = some (.cells #[.slice (some ⟨g, 0, none⟩) xs.length c] 57 (0, 0))) (hx : -4503599627370496 ≤ x ∧ x ≤ 4503599627370496) (hbal : -4503599627370496 ≤ (acAt xs m).bal ∧ (acAt xs m).bal ≤ 4503599627370496) :
    Calls Try.prog 35 #[.pointer (some ⟨g, m * 2, none⟩), .pointer (some ⟨X, 0, none⟩)] w fun en w' => (∃ u, en = .returned u) ∧ Sep w0 w' (L.set i (accT b (addAt xs m (-x)))) := by
  obtain ⟨v, hb', ho, _⟩ := hs.objUse i hi
  obtain rfl : v = .slice (some ⟨g, 0, none⟩) xs.length c := by
    rw [hb] at hb'
    injection hb' with e
    injection e with e
    exact (one_inj _ _ e).symm
  obtain ⟨g', c', e, hg, hcell, hfr⟩ := ho.get m hm
  injection e with e1 e2 e3
  injection e1 with e1
  injection e1 with e1
  subst e1
  clear e2 e3
  have x0 := hcell m hm 0 (by decide)
  simp only [acR, Nat.add_zero, List.getElem?_cons_zero] at x0
  rw [← acAt_of hm] at x0
  have HS := Lib.hid (fun (B R : Int) (hB : acAt xs m = ⟨B, R⟩) (u : Int) (hu : u = B + -x) => (show Sep w0 (w.setCell ⟨g, m * 2, none⟩ (.int .i64 u)) (L.set i (accT b (addAt xs m (-x)))) from by
    have := hs.objSet i hi one_inj hb m hm 0 (by decide) ⟨u, R⟩ (.int .i64 u) (by rw [← acAt_of hm, hB]; rfl)
    unfold addAt
    rw [hB, ← hu]
    exact this))
  obtain ⟨B, hB⟩ : ∃ B, B = (acAt xs m).bal := ⟨_, rfl⟩
  rw [← hB] at x0 hbal
  have HB := Lib.hid hB
  clear hB hcell hb hb' ho
  obtain ⟨hx0, hx1⟩ := hx
  obtain ⟨hb0, hb1⟩ := hbal
  go_enter Try.func35, Try.ntmps35
  go_wp2_with fail
  refine Mix.region [0, 0, 0, 0, 0, 0, 0, 0, 2] (fun _ => True) (by kernel_rfl) (by kernel_rfl) trivial ?_
  simp only [List.zip_cons_cons, List.zip_nil_right]
  iterate 8 (refine Mix.step0 fun K hK => ?_; go_simp; (try (go_bits; try go_simp)); first | ((with_reducible refine hK _ _ ?_); clear hK K) | ((try (simp only [IntWalk.iteOmega]; try go_simp)); (try go_bits); (with_reducible refine hK _ _ ?_); clear hK K))
  refine Mix.step2n (by first | rfl | simp [Region.wanted, yielded]) fun K hK => ?_
  go_wp2_with fail
  refine Mix.post_mk (C := (fun _ => True)) trivial (hK _ _ ?_)
  clear hK K
  refine Mix.done ?_
  go_wp2_with fail
  refine bodyPost_end (results_none rfl _ _ _) rfl ?_
  exact ⟨⟨_, rfl⟩, (HS.out B (acAt xs m).res (by rw [HB.out]) _ (by omega)).drew⟩
set_option maxHeartbeats 1000000 in
theorem res1_any {w0 w : World} {L : List Thing} (hs : Sep w0 w L) (i b : Nat) (xs : List Ac) (hi : L[i]? = some (accT b xs)) (X : Nat) (x : Int) (hX : w.cell? ⟨X, 0, none⟩ = some (.int .i64 x)) (g c m : Nat) (hm : m < xs.length)
    (hb : w.heap[b]? = some (.cells #[.slice (some ⟨g, 0, none⟩) xs.length c] 57 (0, 0))) :
    Calls Try.prog 38 #[.pointer (some ⟨g, m * 2, none⟩), .pointer (some ⟨X, 0, none⟩)] w fun en w' => (∃ u, en = .returned u) ∧ Sep w0 w' (L.set i (accT b (resAt xs m x))) := by
  obtain ⟨v, hb', ho, _⟩ := hs.objUse i hi
  obtain rfl : v = .slice (some ⟨g, 0, none⟩) xs.length c := by
    rw [hb] at hb'
    injection hb' with e
    injection e with e
    exact (one_inj _ _ e).symm
  obtain ⟨g', c', e, hg, hcell, hfr⟩ := ho.get m hm
  injection e with e1 e2 e3
  injection e1 with e1
  injection e1 with e1
  subst e1
  clear e2 e3
  have x1 := hcell m hm 1 (by decide)
  simp only [acR, List.getElem?_cons_succ, List.getElem?_cons_zero] at x1
  have HS := Lib.hid (show Sep w0 (w.setCell ⟨g, m * 2 + 1, none⟩ (.int .i64 x)) (L.set i (accT b (resAt xs m x))) from by
    have := hs.objSet i hi one_inj hb m hm 1 (by decide) ⟨(acAt xs m).bal, x⟩ (.int .i64 x) (by rw [← acAt_of hm]; rfl)
    exact this)
  clear hcell hb hb' ho
  go_enter Try.func38, Try.ntmps38
  go_wp2_with fail
  refine bodyPost_end (results_none rfl _ _ _) rfl ?_
  exact ⟨⟨_, rfl⟩, HS.out⟩
set_option maxHeartbeats 1000000 in
theorem draw3_any (A X K b : Nat) (v : Value) (xs : List Ac) (x : Int) (m : Nat) (hm : m < xs.length) (w : World) (hA : w.cell? ⟨A, 0, none⟩ = some (.pointer (some ⟨b, 0, none⟩))) (hX : w.cell? ⟨X, 0, none⟩ = some (.int .i64 x)) (hK : w.cell? ⟨K, 0, none⟩ = some (.int .i64 m)) (hb : w.cell? ⟨b, 0, none⟩ = some v) (h : RdG acR w v xs) :
    Calls Try.prog 37 #[.pointer (some ⟨X, 0, none⟩), .pointer (some ⟨A, 0, none⟩), .pointer (some ⟨K, 0, none⟩)] w fun en w' => en = .returned (.bool (decide (x ≤ (acAt xs m).bal))) ∧ Below w.heap.size w w' := by
  obtain ⟨a, c, rfl⟩ := h.shape
  have hle := h.le'
  obtain ⟨b1, o1, e1, hb1, hc1⟩ := h.at m hm
  subst e1
  have x0 := hc1 0 (by decide)
  simp only [acR, Nat.add_zero, List.getElem?_cons_zero] at x0
  rw [acAt_of hm]
  obtain ⟨B, hB⟩ : ∃ B, B = xs[m].bal := ⟨_, rfl⟩
  rw [← hB] at x0 ⊢
  clear hB hc1
  go_enter Try.func37, Try.ntmps37
  go_wp2_with fail
  refine Mix.region [0, 0, 0, 0, 0, 0, 0, 0, 0, 0, 0] (fun _ => True) (by kernel_rfl) (by kernel_rfl) trivial ?_
  simp only [List.zip_cons_cons, List.zip_nil_right]
  iterate 11 (refine Mix.step0 fun K hK => ?_; go_simp; (try (go_bits; try go_simp)); first | ((with_reducible refine hK _ _ ?_); clear hK K) | ((try (simp only [IntWalk.iteOmega]; try go_simp)); (try go_bits); (with_reducible refine hK _ _ ?_); clear hK K))
  refine Mix.done ?_
  go_wp2_with fail
  go_ret
  exact ⟨rfl, (Below.refl _ _).drew⟩
end Go.Proofs.Ytlpfojpfepfdgaa
