/-
  Package dues: one due turns (Hold, Release, Cancel, Pay), walked.
-/
import Derived.Test.YthcmkljdhhepgaaUdT
set_option linter.unusedVariables false
set_option linter.unusedSimpArgs false
namespace Go.Proofs.Ythcmkljdhhepgaa
open Go Go.RowKit Go.Mem Go.MoneyP Go.NetP Go.BuildP Go.DuesP Go.Maps Go.Shelf
attribute [local go_sem] Oper.semAt_some
/-- A due as it lies alone. -/
abbrev duC (B : Nat) (d : Du) : Thing := cellsT B #[.int .u64 d.id, .int .i64 d.f, .int .i64 d.t, .int .i64 d.x, .int .i64 d.w, .int .i64 d.u, .bool d.h] 36
/-- What a change says and leaves. -/
def DoD (w0 : World) (B : Nat) (M : List Thing) (r : Int × Du) (en : Ending) (w' : World) : Prop := en = .returned (.int .i64 r.1) ∧ Sep w0 w' (duC B r.2 :: M)
section
variable {w0 w : World} {M : List Thing} {B : Nat} {d : Du}
theorem held1_u {q bk : Nat} {is : Bool} (hs : Sep w0 w (duC B d :: M)) (hq : M[q]? = some (cellsT bk #[.bool is] 4)) :
    Calls Try.prog 49 #[.pointer (some ⟨B, 0, none⟩), .pointer (some ⟨bk, 0, none⟩)] w fun en w' => DoD w0 B M (heldF is d) en w' := by
  have c0 := cell_of (hs.cells 0 rfl) 6
  have f0 := frozen_of (hs.cells 0 rfl) 6
  have y0 := cell_of (hs.cells (q + 1) hq) 0
  simp only [List.getElem?_toArray, List.getElem?_cons_zero, List.getElem?_cons_succ] at c0 y0
  obtain ⟨id, f, t, x, we, u, h⟩ := d
  dsimp only at c0 ⊢
  by_cases hh : h = is
  · subst hh
    have HS := Lib.hid hs
    have HF := Lib.hid (show heldF h ⟨id, f, t, x, we, u, h⟩ = (14, ⟨id, f, t, x, we, u, h⟩) by unfold heldF; rw [if_pos rfl])
    clear hs hq
    go_enter Try.func49, Try.ntmps49
    go_wp2_with fail
    refine Mix.region [0, 0, 0, 0, 0, 0] (fun _ => True) (by kernel_rfl) (by kernel_rfl) trivial ?_
    simp only [List.zip_cons_cons, List.zip_nil_right]
    iterate 6 (refine Mix.step0 fun K hK => ?_; go_simp; (try (go_bits; try go_simp)); first | ((with_reducible refine hK _ _ ?_); clear hK K) | ((try (simp only [IntWalk.iteOmega]; try go_simp)); (try go_bits); (with_reducible refine hK _ _ ?_); clear hK K))
    refine Mix.done ?_
    go_wp2_with fail
    go_ret
    exact ⟨by rw [HF.out]; rfl, by rw [HF.out]; exact HS.out.drew⟩
  · have hhe : (h == is) = false := by simpa using hh
    have hne : is = !h := by cases h <;> cases is <;> simp_all
    have HF := Lib.hid (show heldF is ⟨id, f, t, x, we, u, h⟩ = (0, ⟨id, f, t, x, we, u, is⟩) by unfold heldF; rw [if_neg hh])
    have HS := Lib.hid (hs.setCells 0 rfl 6 (.bool is) _ rfl)
    clear hs hq hne
    go_enter Try.func49, Try.ntmps49
    go_wp2_with fail
    refine Mix.region [0, 0, 0, 0, 0, 0] (fun _ => True) (by kernel_rfl) (by kernel_rfl) trivial ?_
    simp only [List.zip_cons_cons, List.zip_nil_right]
    iterate 6 (refine Mix.step0 fun K hK => ?_; go_simp; (try (go_bits; try go_simp)); first | ((with_reducible refine hK _ _ ?_); clear hK K) | ((try (simp only [IntWalk.iteOmega]; try go_simp)); (try go_bits); (with_reducible refine hK _ _ ?_); clear hK K))
    refine Mix.done ?_
    go_wp2_with fail
    go_ret
    exact ⟨by rw [HF.out]; rfl, by rw [HF.out]; exact HS.out.drew⟩
theorem cancel1_u (hs : Sep w0 w (duC B d :: M)) :
    Calls Try.prog 34 #[.pointer (some ⟨B, 0, none⟩)] w fun en w' => DoD w0 B M (cancelF d) en w' := by
  have c0 := cell_of (hs.cells 0 rfl) 3
  have f0 := frozen_of (hs.cells 0 rfl) 3
  simp only [List.getElem?_toArray, List.getElem?_cons_zero, List.getElem?_cons_succ] at c0
  obtain ⟨id, f, t, x, we, u, h⟩ := d
  dsimp only at c0 ⊢
  have HS := Lib.hid (hs.setCells 0 rfl 3 (.int .i64 0) _ rfl)
  clear hs
  go_enter Try.func34, Try.ntmps34
  go_wp2_with fail
  go_ret
  exact ⟨rfl, HS.out⟩
theorem pay1_u {q bk : Nat} {y : Int} (hs : Sep w0 w (duC B d :: M)) (hq : M[q]? = some (cellsT bk #[.int .i64 y] 2)) (hx : 0 ≤ d.x) (hx1 : d.x ≤ 4503599627370496) :
    Calls Try.prog 31 #[.pointer (some ⟨B, 0, none⟩), .pointer (some ⟨bk, 0, none⟩)] w fun en w' => DoD w0 B M (payF y d) en w' := by
  have c3 := cell_of (hs.cells 0 rfl) 3
  have c6 := cell_of (hs.cells 0 rfl) 6
  have f0 := frozen_of (hs.cells 0 rfl) 3
  have y0 := cell_of (hs.cells (q + 1) hq) 0
  simp only [List.getElem?_toArray, List.getElem?_cons_zero, List.getElem?_cons_succ] at c3 c6 y0
  obtain ⟨id, f, t, x, we, u, h⟩ := d
  dsimp only at c3 c6 hx hx1 ⊢
  by_cases h1 : y < 0
  · have HF := Lib.hid (show payF y ⟨id, f, t, x, we, u, h⟩ = (1, ⟨id, f, t, x, we, u, h⟩) by unfold payF; rw [if_pos h1])
    have HS := Lib.hid hs
    clear hs hq
    go_enter Try.func31, Try.ntmps31
    go_wp2_with fail
    go_ret
    exact ⟨by rw [HF.out]; rfl, by rw [HF.out]; exact HS.out⟩
  · have h1b : decide (y < 0) = false := decide_eq_false h1
    cases h
    · by_cases h2 : x < y
      · have HF := Lib.hid (show payF y ⟨id, f, t, x, we, u, false⟩ = (12, ⟨id, f, t, x, we, u, false⟩) by unfold payF; rw [if_neg h1, if_neg (by simp), if_pos h2])
        have h2b : decide (x < y) = true := decide_eq_true h2
        have HS := Lib.hid hs
        clear hs hq
        go_enter Try.func31, Try.ntmps31
        go_wp2_with fail
        refine Mix.region [0, 0, 0, 0, 0, 0, 0] (fun _ => True) (by kernel_rfl) (by kernel_rfl) trivial ?_
        simp only [List.zip_cons_cons, List.zip_nil_right]
        iterate 7 (refine Mix.step0 fun K hK => ?_; go_simp; (try (go_bits; try go_simp)); first | ((with_reducible refine hK _ _ ?_); clear hK K) | ((try (simp only [IntWalk.iteOmega]; try go_simp)); (try go_bits); (with_reducible refine hK _ _ ?_); clear hK K))
        refine Mix.done ?_
        go_wp2_with fail
        go_ret
        exact ⟨by rw [HF.out]; rfl, by rw [HF.out]; exact HS.out.drew⟩
      · have HF := Lib.hid (show payF y ⟨id, f, t, x, we, u, false⟩ = (0, ⟨id, f, t, x - y, we, u, false⟩) by unfold payF; rw [if_neg h1, if_neg (by simp), if_neg h2])
        have h2b : decide (x < y) = false := decide_eq_false h2
        have HS := Lib.hid (hs.setCells 0 rfl 3 (.int .i64 (x - y)) _ rfl)
        clear hs hq
        go_enter Try.func31, Try.ntmps31
        go_wp2_with fail
        refine Mix.region [0, 0, 0, 0, 0, 0, 0] (fun _ => True) (by kernel_rfl) (by kernel_rfl) trivial ?_
        simp only [List.zip_cons_cons, List.zip_nil_right]
        iterate 7 (refine Mix.step0 fun K hK => ?_; go_simp; (try (go_bits; try go_simp)); first | ((with_reducible refine hK _ _ ?_); clear hK K) | ((try (simp only [IntWalk.iteOmega]; try go_simp)); (try go_bits); (with_reducible refine hK _ _ ?_); clear hK K))
        refine Mix.done ?_
        go_wp2_with fail
        refine Mix.region [0, 0, 0, 0, 0, 0, 0, 0, 2] (fun _ => True) (by kernel_rfl) (by kernel_rfl) trivial ?_
        simp only [List.zip_cons_cons, List.zip_nil_right]
        iterate 8 (refine Mix.step0 fun K hK => ?_; go_simp; (try (go_bits; try go_simp)); first | ((with_reducible refine hK _ _ ?_); clear hK K) | ((try (simp only [IntWalk.iteOmega]; try go_simp)); (try go_bits); (with_reducible refine hK _ _ ?_); clear hK K))
        refine Mix.step2n (by first | rfl | simp [Region.wanted, yielded]) fun K hK => ?_
        go_wp2_with fail
        refine Mix.post_mk (C := (fun _ => True)) trivial (hK _ _ ?_)
        clear hK K
        refine Mix.done ?_
        go_wp2_with fail
        go_ret
        exact ⟨by rw [HF.out]; rfl, by rw [HF.out]; exact HS.out.drew.drew⟩
    · have HF := Lib.hid (show payF y ⟨id, f, t, x, we, u, true⟩ = (14, ⟨id, f, t, x, we, u, true⟩) by unfold payF; rw [if_neg h1, if_pos rfl])
      have HS := Lib.hid hs
      clear hs hq
      go_enter Try.func31, Try.ntmps31
      go_wp2_with fail
      go_ret
      exact ⟨by rw [HF.out]; rfl, by rw [HF.out]; exact HS.out⟩
end
theorem turn_none {f : Du → Int × Du} {xs : List Du} {id : Int} (h : idx xs id = none) : turnE f xs id = 11 ∧ turnS f xs id = xs := by
  unfold turnE turnS; rw [h]; exact ⟨rfl, rfl⟩
theorem turn_some {f : Du → Int × Du} {xs : List Du} {id : Int} {j : Nat} (hj : j < xs.length) (h : idx xs id = some j) :
    turnE f xs id = (f xs[j]).1 ∧ turnS f xs id = if (f xs[j]).1 ≠ 0 then xs else if (f xs[j]).2.x = 0 then xs.eraseIdx j else xs.set j (f xs[j]).2 := by
  unfold turnE turnS; rw [h]; dsimp only; rw [getD_at hj]; exact ⟨rfl, rfl⟩
section
variable {w0 w : World} {L : List Thing} {i b : Nat} {xs : List Du} {nx : Int}
theorem turn_end {A B BX : Thing} {bm : Nat} (hi : L[i]? = some A) (h : Sep w0 w (B :: dueO b bm nx :: dueT bm xs :: BX :: L.eraseIdx i)) : Sep w0 w (L.set i (duesT b xs nx)) :=
  Sep.dueClose hi (h.tail.omit 2)
set_option maxRecDepth 100000 in
set_option maxHeartbeats 2000000 in
theorem turn_any {BX : Thing} (hs : Sep w0 w (BX :: L)) (hi : L[i]? = some (duesT b xs nx)) (hg : GoodS xs nx) (id : Int) (h0 : 0 ≤ id) (h1 : id ≤ 18446744073709551615)
    (fd : FuncId) (lb : Array Value) (hent : ∀ args W, (callFunc fd args).run Try.prog W = .ok (.enter fd args) W) (f : Du → Int × Du) (hf : Fine f)
    (hdo : ∀ (W : World) (M : List Thing) (B : Nat) (d : Du), mayD d = true → M[2]? = some BX → Sep w0 W (duC B d :: M) → Calls Try.prog fd (#[.pointer (some ⟨B, 0, none⟩)] ++ lb) W fun en W' => DoD w0 B M (f d) en W') :
    Calls Try.prog 30 #[.pointer (some ⟨b, 0, none⟩), .int .u64 id, .func (.func fd) #[] lb] w fun en w' => en = .returned (.int .i64 (turnE f xs id)) ∧ Sep w0 w' (L.set i (duesT b (turnS f xs id) nx)) := by
  obtain ⟨bm, h⟩ := Sep.dueOpen (L := BX :: L) (i := i + 1) hs hi
  have h : Sep w0 w (dueO b bm nx :: dueT bm xs :: BX :: L.eraseIdx i) := h
  have c0 := cell_of (h.cells 0 rfl) 0
  simp only [List.getElem?_toArray, List.getElem?_cons_zero] at c0
  obtain ⟨i0, hi0, hz0, hz1, hz2⟩ := info_parts Try.infoDuz
  rcases idx_cases xs id with ⟨h2, h3⟩ | ⟨j, hj, h2, h3, _⟩
  · have hlk := h.lookNo (P := Try.prog) (e := 36) 1 rfl keyedU Try.underlying28 Try.underlying62 zero_due true (wf_id h0 h1) h3
    obtain ⟨z1, z2⟩ := turn_none (f := f) h2
    have HS := Lib.hid (turn_end (B := duC w.heap.size default) hi (h.newCells #[.int .u64 0, .int .i64 0, .int .i64 0, .int .i64 0, .int .i64 0, .int .i64 0, .bool false] 36))
    have HZ := Lib.hid z1
    rw [z2]
    clear h hs hi z1 z2
    rw [if_pos rfl] at hlk
    simp only [Du.val, default] at hlk
    go_enter Try.func30, Try.ntmps30
    go_wp2_with fail
    go_ret
    exact ⟨by rw [HZ.out]; rfl, HS.out⟩
  · have hlk := h.lookYes (P := Try.prog) (e := 36) 1 rfl keyedU Try.underlying28 Try.underlying62 true hj
    rw [h3, if_pos rfl] at hlk
    obtain ⟨z1, z2⟩ := turn_some (f := f) hj h2
    rw [z1, z2]
    obtain ⟨D, hD⟩ : ∃ D, D = xs[j] := ⟨_, rfl⟩
    have hmd : mayD D = true := by rw [hD]; exact (hg.ok _ (List.getElem_mem hj)).1
    have hfd := hf D hmd
    have HD := Lib.hid hD
    have hid : D.id = id := by rw [hD]; exact h3
    rw [← hD] at hlk ⊢
    have hB : Sep w0 (w.alloc (.cells #[.int .u64 D.id, .int .i64 D.f, .int .i64 D.t, .int .i64 D.x, .int .i64 D.w, .int .i64 D.u, .bool D.h] 36)) (duC w.heap.size D :: dueO b bm nx :: dueT bm xs :: BX :: L.eraseIdx i) := h.newCells _ _
    have HDO := Lib.hid (hdo _ (dueO b bm nx :: dueT bm xs :: BX :: L.eraseIdx i) w.heap.size D hmd rfl hB)
    obtain ⟨E, hE⟩ : ∃ E, E = (f D).1 := ⟨_, rfl⟩
    obtain ⟨D2, hD2⟩ : ∃ D2, D2 = (f D).2 := ⟨_, rfl⟩
    have HFD := Lib.hid (show D2.id = (xs[j]).id by rw [hD2, hfd.1, hD])
    have HFI := Lib.hid (show D2.id = id by rw [hD2, hfd.1]; exact hid)
    have HDO2 := Lib.hid (show Calls Try.prog fd (#[.pointer (some ⟨w.heap.size, 0, none⟩)] ++ lb) _ fun en W' => DoD w0 w.heap.size (dueO b bm nx :: dueT bm xs :: BX :: L.eraseIdx i) (E, D2) en W' by rw [hE, hD2]; exact HDO.out)
    rw [← hE, ← hD2]
    obtain ⟨S, hS⟩ : ∃ S, S = if E ≠ 0 then xs else if D2.x = 0 then xs.eraseIdx j else xs.set j D2 := ⟨_, rfl⟩
    rw [← hS]
    have HSS := Lib.hid hS
    clear hS
    have HI := Lib.hid hi
    have HID := Lib.hid h3
    clear hB HDO hE hD2 hfd hdo hf z1 z2 h hs hi hg h2 h3 hD hmd hid
    obtain ⟨di, df, dt, dx, dw, du, dh⟩ := D
    simp only [Du.val] at hlk HDO2
    go_enter Try.func30, Try.ntmps30
    go_wp2_with fail
    refine HDO2.out.mono ?_
    rintro en w2 ⟨rfl, h⟩
    clear HDO2 c0 hlk
    have c1 := cell_of (h.cells 1 rfl) 0
    have e0 := cell_of (h.cells 0 rfl) 0
    have e1 := cell_of (h.cells 0 rfl) 1
    have e2 := cell_of (h.cells 0 rfl) 2
    have e3 := cell_of (h.cells 0 rfl) 3
    have e4 := cell_of (h.cells 0 rfl) 4
    have e5 := cell_of (h.cells 0 rfl) 5
    have e6 := cell_of (h.cells 0 rfl) 6
    simp only [List.getElem?_toArray, List.getElem?_cons_zero, List.getElem?_cons_succ] at c1 e0 e1 e2 e3 e4 e5 e6
    by_cases hE : E = 0
    · subst hE
      by_cases hx : D2.x = 0
      · obtain ⟨w3, hdel, h4⟩ := h.mapDel (P := Try.prog) (e := 36) 2 rfl keyedU Try.underlying28 Try.underlying62 28 hj
        rw [show Du.id xs[j] = id from HID.out] at hdel
        have HS := Lib.hid (show Sep w0 w3 (L.set i (duesT b S nx)) by rw [HSS.out, if_neg (by simp), if_pos hx]; exact turn_end HI.out h4)
        clear HSS
        obtain ⟨ei, ef, et, ex, ew, eu, eh⟩ := D2
        dsimp only at e0 e1 e2 e3 e4 e5 e6 hx ⊢
        subst hx
        clear h h4
        go_wp2_with fail
        go_ret
        exact ⟨rfl, HS.out⟩
      · obtain ⟨w3, hput, h4⟩ := h.drew.mapPut (P := Try.prog) (e := 36) 2 rfl keyedU Try.underlying28 Try.underlying62 hj D2 HFD.out
        rw [show Du.id D2 = id from HFI.out] at hput
        have HS := Lib.hid (show Sep w0 w3 (L.set i (duesT b S nx)) by rw [HSS.out, if_neg (by simp), if_neg hx]; exact turn_end HI.out h4)
        clear HSS
        obtain ⟨ei, ef, et, ex, ew, eu, eh⟩ := D2
        dsimp only [Du.val] at e0 e1 e2 e3 e4 e5 e6 hx hput HS ⊢
        clear h h4
        go_wp2_with fail
        refine Mix.region [0, 0, 0, 0, 0, 0, 2] (fun _ => True) (by kernel_rfl) (by kernel_rfl) trivial ?_
        simp only [List.zip_cons_cons, List.zip_nil_right]
        iterate 6 (refine Mix.step0 fun K hK => ?_; go_simp; (try (go_bits; try go_simp)); first | ((with_reducible refine hK _ _ ?_); clear hK K) | ((try (simp only [IntWalk.iteOmega]; try go_simp)); (try go_bits); (with_reducible refine hK _ _ ?_); clear hK K))
        refine Mix.step2n (by first | rfl | simp [Region.wanted, yielded]) fun K hK => ?_
        go_wp2_with fail
        refine Mix.post_mk (C := (fun _ => True)) trivial (hK _ _ ?_)
        clear hK K
        refine Mix.done ?_
        go_wp2_with fail
        go_ret
        exact ⟨rfl, HS.out⟩
    · have HS := Lib.hid (show Sep w0 w2 (L.set i (duesT b S nx)) by rw [HSS.out, if_pos hE]; exact turn_end HI.out h)
      clear HSS
      clear h
      go_wp2_with fail
      go_ret
      exact ⟨rfl, HS.out⟩
end
end Go.Proofs.Ythcmkljdhhepgaa
