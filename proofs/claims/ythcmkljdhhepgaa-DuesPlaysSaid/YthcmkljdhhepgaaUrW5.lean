/-
  The document's Of, walked; ids.
-/
import Derived.Test.YthcmkljdhhepgaaUrW4
set_option linter.unusedVariables false
set_option linter.unusedSimpArgs false
namespace Go.Proofs.Ythcmkljdhhepgaa
open Go Go.RowKit Go.Mem Go.MoneyP Go.NetP Go.BuildP Go.DuesP Go.Maps Go.Shelf
attribute [local go_sem] Oper.semAt_some
set_option maxRecDepth 100000 in
theorem ids_any (zs : List Int) (va vb : Value) (w : World) (ha : Rd .u64 w va zs) (hb : Rd .u64 w vb zs) : Calls Try.prog 43 #[va, vb] w fun en w' => en = .returned (.bool true) ∧ Below w.heap.size w w' := by
  obtain ⟨aa, ca, rfl⟩ := ha.shape
  obtain ⟨ab, cb, rfl⟩ := hb.shape
  have hle := ha.le'
  obtain ⟨n, hn⟩ : ∃ n, n = zs.length := ⟨_, rfl⟩
  have HN := Lib.hid hn
  have HA := Lib.hid ha
  have HB := Lib.hid hb
  rw [← hn] at hle ⊢
  clear ha hb hn
  have NX : ((n : Int) != (n : Int)) = false := by simp
  go_enter Try.func43, Try.ntmps43
  go_wp2_with fail
  refine wp_loopM [none, none, none, none, some 4, some 5, none, none, none, none, none, some 11, some 12, some 13, some 14, some 15, some 16, some 17, some 18, some 19, some 20, some 21, some 22, some 23, some 24, some 25] (fun (r : Nat) (f : Nat → Value) (wr : World) => (fun (vi : Value) => ∃ j : Nat, vi = .int .i64 j ∧ j ≤ n ∧ r = n - j ∧ Below w.heap.size w wr) (f 5)) (n) (by kernel_rfl) ?atStart1 ?round1
  case' atStart1 => (try dsimp only [nthV])
  case' round1 =>
    intro gk f wr l hl hrel J1 K1 hJ1 hK1
    (try simp only [mask] at hl)
    generalize f 5 = u5 at hl hrel
    subst hl
    (try dsimp only at hrel)
  case atStart1 => exact ⟨0, rfl, Nat.zero_le _, rfl, Below.refl _ _⟩
  case round1 =>
    obtain ⟨j, rfl, hjn, rfl, hbl⟩ := hrel
    have HBL := Lib.hid hbl
    by_cases hj : j < n
    · have hjI : (j : Int) < (n : Int) := by omega
      have hjx : j < zs.length := by rw [← HN.out]; exact hj
      have hs := Sep.ofBelow hbl
      obtain ⟨b1, o1, e1, h1, x0⟩ := HA.out.at j hjx
      obtain ⟨b2, o2, e2, h2, y0⟩ := HB.out.at j hjx
      replace x0 := (hs.cell h1).trans x0
      replace y0 := (hs.cell h2).trans y0
      obtain ⟨D, hD⟩ : ∃ D, D = zs.getD j 0 := ⟨_, rfl⟩
      rw [← hD] at x0 y0
      have N1 : (D != D) = false := by simp
      clear hD hjx hbl hs h1 h2
      subst e1
      subst e2
      go_wp2_with fail
      refine Mix.region [0, 0, 0, 0, 0, 0, 0, 0, 0] (fun _ => True) (by kernel_rfl) (by kernel_rfl) trivial ?_
      simp only [List.zip_cons_cons, List.zip_nil_right]
      iterate 9 (refine Mix.step0 fun K hK => ?_; go_simp; (try (go_bits; try go_simp)); first | ((with_reducible refine hK _ _ ?_); clear hK K) | ((try (simp only [IntWalk.iteOmega]; try go_simp)); (try go_bits); (with_reducible refine hK _ _ ?_); clear hK K))
      refine Mix.done ?_
      go_wp2_with fail
      refine Round.intro ((n - (j + 1))) ?measure2 (by kernel_rfl) (hJ1 _ _ _ ?rel2)
      case' rel2 => (try dsimp only [nthV])
      case measure2 => omega
      case rel2 => exact ⟨j + 1, by go_num, by omega, rfl, HBL.out.drew⟩
    · obtain rfl : n = j := by omega
      go_wp2_with fail
      go_ret
      exact ⟨rfl, HBL.out⟩
/-- What the document's Of leaves. -/
def RDofP (l : List Du) (nx : Int) (w : World) (en : Ending) (w' : World) : Prop :=
  (dofE l nx ≠ 0 ∧ en = .returned (.tuple #[.pointer none, .int .i64 (dofE l nx)]) ∧ Below w.heap.size w w') ∨
  (dofE l nx = 0 ∧ ∃ b, en = .returned (.tuple #[.pointer (some ⟨b, 0, none⟩), .int .i64 0]) ∧ Sep w w' [refD b l nx])
set_option maxRecDepth 100000 in
set_option maxHeartbeats 4000000 in
theorem rOf_any (l : List Du) (v : Value) (nx : Int) (h0 : 0 ≤ nx) (hx : nx ≤ 18446744073709551615) (w : World) (h : RdG duR w v l) :
    Calls Try.prog 21 #[v, .int .u64 nx] w fun en w' => RDofP l nx w en w' := by
  obtain ⟨i0, hi0, hz0, hz1, hz2⟩ := info_parts Try.infoDuz
  obtain ⟨a, c, rfl⟩ := h.shape
  have hle := h.le'
  by_cases h64 : 64 < l.length
  · have d64 : decide ((64 : Int) < (l.length : Int)) = true := decide_eq_true (by omega)
    have HE := Lib.hid (dof_many (nx := nx) h64)
    clear h64
    go_enter Try.func21, Try.ntmps21
    go_wp2_with fail
    go_ret2
    exact .inl ⟨by rw [HE.out]; decide, by rw [HE.out]; rfl, Below.refl _ _⟩
  have d64 : decide ((64 : Int) < (l.length : Int)) = false := decide_eq_false (by omega)
  obtain ⟨n, hn⟩ : ∃ n, n = l.length := ⟨_, rfl⟩
  have HN := Lib.hid hn
  have HR := Lib.hid h
  have H64 := Lib.hid h64
  have hn64 : n ≤ 64 := by omega
  rw [← hn] at hle d64 ⊢
  clear h hn h64
  go_enter Try.func21, Try.ntmps21
  go_wp2_with fail
  refine wp_loopM [none, none, none, none, some 4, some 5, some 6, none, none, none, none, none, none, some 13, some 14, some 15, some 16, some 17, some 18, some 19, some 20, some 21, some 22, some 23, some 24, some 25, some 26, some 27, some 28, some 29, some 30, some 31, some 32, some 33, some 34, some 35, some 36, some 37, some 38, some 39, some 40, some 41, some 42, some 43, some 44, some 45, some 46, some 47, some 48, some 49, some 50, some 51, some 52, some 53, some 54, some 55, some 56, some 57, some 58, some 59, none, none, none, none, none, none, none, none, none, none, none, none, none, none, none, none, none, none, none, none, none, none, none, none, none, none, none, none] (fun (r : Nat) (f : Nat → Value) (wr : World) => (fun (vi : Value) => ∃ j : Nat, vi = .int .i64 j ∧ j ≤ n ∧ r = n - j ∧ Hid (∀ k, k < j → okId l nx k = true) ∧ Below w.heap.size w wr) (f 6)) (n) (by kernel_rfl) ?atStart3 ?round3
  case' atStart3 => (try dsimp only [nthV])
  case' round3 =>
    intro gk f wr l hl hrel J1 K1 hJ1 hK1
    (try simp only [mask] at hl)
    generalize f 6 = u6 at hl hrel
    subst hl
    (try dsimp only at hrel)
  case atStart3 => exact ⟨0, rfl, Nat.zero_le _, rfl, Lib.hid (fun k hk => by omega), Below.refl _ _⟩
  case round3 =>
    obtain ⟨j, rfl, hjn, rfl, HK, hbl⟩ := hrel
    have HBL := Lib.hid hbl
    clear hbl
    by_cases hj : j < n
    · have hjI : (j : Int) < (n : Int) := by omega
      have hjx : j < l.length := by rw [← HN.out]; exact hj
      have HJX := Lib.hid hjx
      obtain ⟨B, hB⟩ : ∃ B, B = okId l nx j := ⟨_, rfl⟩
      have HB := Lib.hid hB
      obtain ⟨bq, oq, eq, hbq, hcell⟩ := HR.out.at j hjx
      have hcw := fun (W : World) (hW : Below w.heap.size w W) (k : Nat) (hk : k < 7) => ((Sep.ofBelow hW).cell hbq).trans (hcell k hk)
      obtain ⟨D, hD⟩ : ∃ D : Du, D = l[j]'hjx := ⟨_, rfl⟩
      rw [← hD] at hcw
      have HCW := Lib.hid hcw
      have HD := Lib.hid (show l.getD j default = D by rw [hD]; exact getD_at hjx)
      obtain ⟨hup, _⟩ := ids_up (nx := nx) j HK.out (Nat.le_of_lt hjx)
      have HUP := Lib.hid hup
      clear hB hcell hcw hjx hD hbq hup
      subst eq
      go_wp2_with fail
      refine wp_cutM [none, none, none, none, none, none, none, none, none, none, none, none, none, none, none, none, none, none, none, some 19, some 20, some 21, some 22, some 23, some 24, some 25, some 26, some 27, some 28, some 29, some 30, some 31, some 32, some 33, some 34, some 35, some 36, some 37, some 38, some 39, some 40, some 41, some 42, some 43, some 44, some 45, some 46, some 47, some 48, some 49, some 50, some 51, some 52, some 53, some 54, some 55, some 56, some 57, some 58, some 59, none, none, none, none, none, none, none, none, none, none, none, none, none, none, none, none, none, none, none, none, none, none, none, none, none, none, none, none] (fun (f : Nat → Value) (wq : World) => (fun (vt : Value) => vt = .bool (!B) ∧ Below w.heap.size w wq) (f 59)) ?first4 ?rest4
      case' first4 => intro JC KC hJC hKC
      case' rest4 =>
        intro f wr l hl hrel
        (try simp only [mask] at hl)
        generalize f 59 = u59 at hl hrel
        subst hl
        (try dsimp only at hrel)
      case first4 =>
        have x0 := HCW.out wr HBL.out 0 (by decide)
        have x1 := HCW.out wr HBL.out 1 (by decide)
        have x2 := HCW.out wr HBL.out 2 (by decide)
        have x3 := HCW.out wr HBL.out 3 (by decide)
        have x4 := HCW.out wr HBL.out 4 (by decide)
        have x5 := HCW.out wr HBL.out 5 (by decide)
        have x6 := HCW.out wr HBL.out 6 (by decide)
        simp only [duR, List.getElem?_cons_zero, List.getElem?_cons_succ, Nat.add_zero] at x0 x1 x2 x3 x4 x5 x6
        obtain ⟨ei, ef, et, ex, ew, eu, eh⟩ := D
        dsimp only at x0 x1 x2 x3 x4 x5 x6
        have hBO : B = (mayD ⟨ei, ef, et, ex, ew, eu, eh⟩ && decide (aheadL l j < ei) && decide (ei < nx)) := by rw [HB.out]; unfold okId; rw [HD.out]
        have HBO := Lib.hid hBO
        clear hBO
        cases hm : mayD ⟨ei, ef, et, ex, ew, eu, eh⟩
        · have HBV := Lib.hid (show B = false by rw [HBO.out, hm]; rfl)
          refine Mix.region [0, 0, 0, 0, 2, 0, 0, 0, 0, 0, 0, 0, 0, 0, 0, 0, 0, 0, 0, 0, 0, 0, 0, 0, 0, 0, 0, 0, 0, 0, 0, 0, 0, 0, 0, 0, 0, 0, 0, 0, 0] (fun _ => True) (by kernel_rfl) (by kernel_rfl) trivial ?_
          simp only [List.zip_cons_cons, List.zip_nil_right]
          iterate 4 (refine Mix.step0 fun K hK => ?_; go_simp; (try (go_bits; try go_simp)); first | ((with_reducible refine hK _ _ ?_); clear hK K) | ((try (simp only [IntWalk.iteOmega]; try go_simp)); (try go_bits); (with_reducible refine hK _ _ ?_); clear hK K))
          refine Mix.step2n (by first | rfl | simp [Region.wanted, yielded]) fun K hK => ?_
          go_wp2_with fail
          refine (rmayD_any ⟨ei, ef, et, ex, ew, eu, eh⟩ _).mono ?_
          rintro en w2 ⟨rfl, hb2⟩
          have hbq := HBL.out.drew.trans (hb2.mono HBL.out.drew.size)
          have y0 := HCW.out w2 hbq 0 (by decide)
          simp only [duR, List.getElem?_cons_zero, List.getElem?_cons_succ, Nat.add_zero] at y0
          skip
          rw [hm]
          have HBQ := Lib.hid hbq
          clear hb2 hbq x0 x1 x2 x3 x4 x5 x6
          go_wp2_with fail
          refine Mix.post_mk (C := (fun _ => True)) trivial (hK _ _ ?_)
          clear hK K
          iterate 2 (refine Mix.step0 fun K hK => ?_; go_simp; (try (go_bits; try go_simp)); first | ((with_reducible refine hK _ _ ?_); clear hK K) | ((try (simp only [IntWalk.iteOmega]; try go_simp)); (try go_bits); (with_reducible refine hK _ _ ?_); clear hK K))
          iterate 6 (first | (refine Mix.stepS rfl fun K hK => ?_; go_simp; (with_reducible refine hK _ _ ?_); clear hK K) | (refine Mix.step0 fun K hK => ?_; go_simp; (try (go_bits; try go_simp)); first | ((with_reducible refine hK _ _ ?_); clear hK K) | ((try (simp only [IntWalk.iteOmega]; try go_simp)); (try go_bits); (with_reducible refine hK _ _ ?_); clear hK K)))
          iterate 2 (refine Mix.step0 fun K hK => ?_; go_simp; (try (go_bits; try go_simp)); first | ((with_reducible refine hK _ _ ?_); clear hK K) | ((try (simp only [IntWalk.iteOmega]; try go_simp)); (try go_bits); (with_reducible refine hK _ _ ?_); clear hK K))
          iterate 7 (first | (refine Mix.stepS rfl fun K hK => ?_; go_simp; (with_reducible refine hK _ _ ?_); clear hK K) | (refine Mix.step0 fun K hK => ?_; go_simp; (try (go_bits; try go_simp)); first | ((with_reducible refine hK _ _ ?_); clear hK K) | ((try (simp only [IntWalk.iteOmega]; try go_simp)); (try go_bits); (with_reducible refine hK _ _ ?_); clear hK K)))
          iterate 2 (refine Mix.step0 fun K hK => ?_; go_simp; (try (go_bits; try go_simp)); first | ((with_reducible refine hK _ _ ?_); clear hK K) | ((try (simp only [IntWalk.iteOmega]; try go_simp)); (try go_bits); (with_reducible refine hK _ _ ?_); clear hK K))
          iterate 16 (first | (refine Mix.stepS rfl fun K hK => ?_; go_simp; (with_reducible refine hK _ _ ?_); clear hK K) | (refine Mix.step0 fun K hK => ?_; go_simp; (try (go_bits; try go_simp)); first | ((with_reducible refine hK _ _ ?_); clear hK K) | ((try (simp only [IntWalk.iteOmega]; try go_simp)); (try go_bits); (with_reducible refine hK _ _ ?_); clear hK K)))
          iterate 1 (refine Mix.step0 fun K hK => ?_; go_simp; (try (go_bits; try go_simp)); first | ((with_reducible refine hK _ _ ?_); clear hK K) | ((try (simp only [IntWalk.iteOmega]; try go_simp)); (try go_bits); (with_reducible refine hK _ _ ?_); clear hK K))
          refine Mix.done ?_
          go_wp2_with fail
          refine Meet.intro (by kernel_rfl) (hJC _ _ ?rel5)
          case' rel5 => (try dsimp only [nthV])
          exact ⟨by rw [HBV.out]; rfl, HBQ.out⟩
        · by_cases d1 : ei < 1
          · have d1b : decide (ei < 1) = true := decide_eq_true d1
            have HBV := Lib.hid (show B = false by rw [HBO.out, hm, decide_eq_false (by have := HUP.out; omega)]; rfl)
            refine Mix.region [0, 0, 0, 0, 2, 0, 0, 0, 0, 0, 0, 0, 0, 0, 0, 0, 0, 0, 0, 0, 0, 0, 0, 0, 0, 0, 0, 0, 0, 0, 0, 0, 0, 0, 0, 0, 0, 0, 0, 0, 0] (fun _ => True) (by kernel_rfl) (by kernel_rfl) trivial ?_
            simp only [List.zip_cons_cons, List.zip_nil_right]
            iterate 4 (refine Mix.step0 fun K hK => ?_; go_simp; (try (go_bits; try go_simp)); first | ((with_reducible refine hK _ _ ?_); clear hK K) | ((try (simp only [IntWalk.iteOmega]; try go_simp)); (try go_bits); (with_reducible refine hK _ _ ?_); clear hK K))
            refine Mix.step2n (by first | rfl | simp [Region.wanted, yielded]) fun K hK => ?_
            go_wp2_with fail
            refine (rmayD_any ⟨ei, ef, et, ex, ew, eu, eh⟩ _).mono ?_
            rintro en w2 ⟨rfl, hb2⟩
            have hbq := HBL.out.drew.trans (hb2.mono HBL.out.drew.size)
            have y0 := HCW.out w2 hbq 0 (by decide)
            simp only [duR, List.getElem?_cons_zero, List.getElem?_cons_succ, Nat.add_zero] at y0
            skip
            rw [hm]
            have HBQ := Lib.hid hbq
            clear hb2 hbq x0 x1 x2 x3 x4 x5 x6
            go_wp2_with fail
            refine Mix.post_mk (C := (fun _ => True)) trivial (hK _ _ ?_)
            clear hK K
            iterate 2 (refine Mix.step0 fun K hK => ?_; go_simp; (try (go_bits; try go_simp)); first | ((with_reducible refine hK _ _ ?_); clear hK K) | ((try (simp only [IntWalk.iteOmega]; try go_simp)); (try go_bits); (with_reducible refine hK _ _ ?_); clear hK K))
            iterate 6 (first | (refine Mix.stepS rfl fun K hK => ?_; go_simp; (with_reducible refine hK _ _ ?_); clear hK K) | (refine Mix.step0 fun K hK => ?_; go_simp; (try (go_bits; try go_simp)); first | ((with_reducible refine hK _ _ ?_); clear hK K) | ((try (simp only [IntWalk.iteOmega]; try go_simp)); (try go_bits); (with_reducible refine hK _ _ ?_); clear hK K)))
            iterate 2 (refine Mix.step0 fun K hK => ?_; go_simp; (try (go_bits; try go_simp)); first | ((with_reducible refine hK _ _ ?_); clear hK K) | ((try (simp only [IntWalk.iteOmega]; try go_simp)); (try go_bits); (with_reducible refine hK _ _ ?_); clear hK K))
            iterate 7 (first | (refine Mix.stepS rfl fun K hK => ?_; go_simp; (with_reducible refine hK _ _ ?_); clear hK K) | (refine Mix.step0 fun K hK => ?_; go_simp; (try (go_bits; try go_simp)); first | ((with_reducible refine hK _ _ ?_); clear hK K) | ((try (simp only [IntWalk.iteOmega]; try go_simp)); (try go_bits); (with_reducible refine hK _ _ ?_); clear hK K)))
            iterate 2 (refine Mix.step0 fun K hK => ?_; go_simp; (try (go_bits; try go_simp)); first | ((with_reducible refine hK _ _ ?_); clear hK K) | ((try (simp only [IntWalk.iteOmega]; try go_simp)); (try go_bits); (with_reducible refine hK _ _ ?_); clear hK K))
            iterate 16 (first | (refine Mix.stepS rfl fun K hK => ?_; go_simp; (with_reducible refine hK _ _ ?_); clear hK K) | (refine Mix.step0 fun K hK => ?_; go_simp; (try (go_bits; try go_simp)); first | ((with_reducible refine hK _ _ ?_); clear hK K) | ((try (simp only [IntWalk.iteOmega]; try go_simp)); (try go_bits); (with_reducible refine hK _ _ ?_); clear hK K)))
            iterate 1 (refine Mix.step0 fun K hK => ?_; go_simp; (try (go_bits; try go_simp)); first | ((with_reducible refine hK _ _ ?_); clear hK K) | ((try (simp only [IntWalk.iteOmega]; try go_simp)); (try go_bits); (with_reducible refine hK _ _ ?_); clear hK K))
            refine Mix.done ?_
            go_wp2_with fail
            refine Meet.intro (by kernel_rfl) (hJC _ _ ?rel6)
            case' rel6 => (try dsimp only [nthV])
            exact ⟨by rw [HBV.out]; rfl, HBQ.out⟩
          · have d1b : decide (ei < 1) = false := decide_eq_false d1
            by_cases d2 : nx ≤ ei
            · have d2b : decide (nx ≤ ei) = true := decide_eq_true d2
              have HBV := Lib.hid (show B = false by rw [HBO.out, decide_eq_false (show ¬ ei < nx by omega), Bool.and_false])
              refine Mix.region [0, 0, 0, 0, 2, 0, 0, 0, 0, 0, 0, 0, 0, 0, 0, 0, 0, 0, 0, 0, 0, 0, 0, 0, 0, 0, 0, 0, 0, 0, 0, 0, 0, 0, 0, 0, 0, 0, 0, 0, 0] (fun _ => True) (by kernel_rfl) (by kernel_rfl) trivial ?_
              simp only [List.zip_cons_cons, List.zip_nil_right]
              iterate 4 (refine Mix.step0 fun K hK => ?_; go_simp; (try (go_bits; try go_simp)); first | ((with_reducible refine hK _ _ ?_); clear hK K) | ((try (simp only [IntWalk.iteOmega]; try go_simp)); (try go_bits); (with_reducible refine hK _ _ ?_); clear hK K))
              refine Mix.step2n (by first | rfl | simp [Region.wanted, yielded]) fun K hK => ?_
              go_wp2_with fail
              refine (rmayD_any ⟨ei, ef, et, ex, ew, eu, eh⟩ _).mono ?_
              rintro en w2 ⟨rfl, hb2⟩
              have hbq := HBL.out.drew.trans (hb2.mono HBL.out.drew.size)
              have y0 := HCW.out w2 hbq 0 (by decide)
              simp only [duR, List.getElem?_cons_zero, List.getElem?_cons_succ, Nat.add_zero] at y0
              skip
              rw [hm]
              have HBQ := Lib.hid hbq
              clear hb2 hbq x0 x1 x2 x3 x4 x5 x6
              go_wp2_with fail
              refine Mix.post_mk (C := (fun _ => True)) trivial (hK _ _ ?_)
              clear hK K
              iterate 2 (refine Mix.step0 fun K hK => ?_; go_simp; (try (go_bits; try go_simp)); first | ((with_reducible refine hK _ _ ?_); clear hK K) | ((try (simp only [IntWalk.iteOmega]; try go_simp)); (try go_bits); (with_reducible refine hK _ _ ?_); clear hK K))
              iterate 6 (first | (refine Mix.stepS rfl fun K hK => ?_; go_simp; (with_reducible refine hK _ _ ?_); clear hK K) | (refine Mix.step0 fun K hK => ?_; go_simp; (try (go_bits; try go_simp)); first | ((with_reducible refine hK _ _ ?_); clear hK K) | ((try (simp only [IntWalk.iteOmega]; try go_simp)); (try go_bits); (with_reducible refine hK _ _ ?_); clear hK K)))
              iterate 2 (refine Mix.step0 fun K hK => ?_; go_simp; (try (go_bits; try go_simp)); first | ((with_reducible refine hK _ _ ?_); clear hK K) | ((try (simp only [IntWalk.iteOmega]; try go_simp)); (try go_bits); (with_reducible refine hK _ _ ?_); clear hK K))
              iterate 7 (first | (refine Mix.stepS rfl fun K hK => ?_; go_simp; (with_reducible refine hK _ _ ?_); clear hK K) | (refine Mix.step0 fun K hK => ?_; go_simp; (try (go_bits; try go_simp)); first | ((with_reducible refine hK _ _ ?_); clear hK K) | ((try (simp only [IntWalk.iteOmega]; try go_simp)); (try go_bits); (with_reducible refine hK _ _ ?_); clear hK K)))
              iterate 2 (refine Mix.step0 fun K hK => ?_; go_simp; (try (go_bits; try go_simp)); first | ((with_reducible refine hK _ _ ?_); clear hK K) | ((try (simp only [IntWalk.iteOmega]; try go_simp)); (try go_bits); (with_reducible refine hK _ _ ?_); clear hK K))
              iterate 16 (first | (refine Mix.stepS rfl fun K hK => ?_; go_simp; (with_reducible refine hK _ _ ?_); clear hK K) | (refine Mix.step0 fun K hK => ?_; go_simp; (try (go_bits; try go_simp)); first | ((with_reducible refine hK _ _ ?_); clear hK K) | ((try (simp only [IntWalk.iteOmega]; try go_simp)); (try go_bits); (with_reducible refine hK _ _ ?_); clear hK K)))
              iterate 1 (refine Mix.step0 fun K hK => ?_; go_simp; (try (go_bits; try go_simp)); first | ((with_reducible refine hK _ _ ?_); clear hK K) | ((try (simp only [IntWalk.iteOmega]; try go_simp)); (try go_bits); (with_reducible refine hK _ _ ?_); clear hK K))
              refine Mix.done ?_
              go_wp2_with fail
              refine Meet.intro (by kernel_rfl) (hJC _ _ ?rel7)
              case' rel7 => (try dsimp only [nthV])
              exact ⟨by rw [HBV.out]; rfl, HBQ.out⟩
            · have d2b : decide (nx ≤ ei) = false := decide_eq_false d2
              by_cases hj0 : 0 < j
              · have d3b : decide ((0 : Int) < (j : Int)) = true := decide_eq_true (by omega)
                have hj1 : 1 ≤ j := hj0
                have hjp : j - 1 < l.length := by have := HJX.out; omega
                obtain ⟨bp, op, ep, hbp, hcp⟩ := HR.out.at (j - 1) hjp
                injection ep with ep
                injection ep with ep ep2
                subst ep
                subst ep2
                obtain ⟨A, hA⟩ : ∃ A, A = aheadL l j := ⟨_, rfl⟩
                have hAL : (l[j - 1]'hjp).id = A := by
                  rw [hA]
                  unfold aheadL
                  rw [if_neg (by omega), getD_at hjp]
                have hpw := fun (W : World) (hW : Below w.heap.size w W) => ((Sep.ofBelow hW).cell hbp).trans (hcp 0 (by decide))
                simp only [duR, List.getElem?_cons_zero, Nat.add_zero, hAL] at hpw
                have HPW := Lib.hid hpw
                rw [← hA] at HBO
                clear hpw hcp hbp hA hAL hjp
                by_cases d4 : ei ≤ A
                · have d4b : decide (ei ≤ A) = true := decide_eq_true d4
                  have HBV := Lib.hid (show B = false by rw [HBO.out, decide_eq_false (show ¬ A < ei by omega), Bool.and_false]; rfl)
                  refine Mix.region [0, 0, 0, 0, 2, 0, 0, 0, 0, 0, 0, 0, 0, 0, 0, 0, 0, 0, 0, 0, 0, 0, 0, 0, 0, 0, 0, 0, 0, 0, 0, 0, 0, 0, 0, 0, 0, 0, 0, 0, 0] (fun _ => True) (by kernel_rfl) (by kernel_rfl) trivial ?_
                  simp only [List.zip_cons_cons, List.zip_nil_right]
                  iterate 4 (refine Mix.step0 fun K hK => ?_; go_simp; (try (go_bits; try go_simp)); first | ((with_reducible refine hK _ _ ?_); clear hK K) | ((try (simp only [IntWalk.iteOmega]; try go_simp)); (try go_bits); (with_reducible refine hK _ _ ?_); clear hK K))
                  refine Mix.step2n (by first | rfl | simp [Region.wanted, yielded]) fun K hK => ?_
                  go_wp2_with fail
                  refine (rmayD_any ⟨ei, ef, et, ex, ew, eu, eh⟩ _).mono ?_
                  rintro en w2 ⟨rfl, hb2⟩
                  have hbq := HBL.out.drew.trans (hb2.mono HBL.out.drew.size)
                  have y0 := HCW.out w2 hbq 0 (by decide)
                  simp only [duR, List.getElem?_cons_zero, List.getElem?_cons_succ, Nat.add_zero] at y0
                  have p0 := HPW.out w2 hbq
                  rw [hm]
                  have HBQ := Lib.hid hbq
                  clear hb2 hbq x0 x1 x2 x3 x4 x5 x6
                  go_wp2_with fail
                  refine Mix.post_mk (C := (fun _ => True)) trivial (hK _ _ ?_)
                  clear hK K
                  iterate 2 (refine Mix.step0 fun K hK => ?_; go_simp; (try (go_bits; try go_simp)); first | ((with_reducible refine hK _ _ ?_); clear hK K) | ((try (simp only [IntWalk.iteOmega]; try go_simp)); (try go_bits); (with_reducible refine hK _ _ ?_); clear hK K))
                  iterate 6 (first | (refine Mix.stepS rfl fun K hK => ?_; go_simp; (with_reducible refine hK _ _ ?_); clear hK K) | (refine Mix.step0 fun K hK => ?_; go_simp; (try (go_bits; try go_simp)); first | ((with_reducible refine hK _ _ ?_); clear hK K) | ((try (simp only [IntWalk.iteOmega]; try go_simp)); (try go_bits); (with_reducible refine hK _ _ ?_); clear hK K)))
                  iterate 2 (refine Mix.step0 fun K hK => ?_; go_simp; (try (go_bits; try go_simp)); first | ((with_reducible refine hK _ _ ?_); clear hK K) | ((try (simp only [IntWalk.iteOmega]; try go_simp)); (try go_bits); (with_reducible refine hK _ _ ?_); clear hK K))
                  iterate 7 (first | (refine Mix.stepS rfl fun K hK => ?_; go_simp; (with_reducible refine hK _ _ ?_); clear hK K) | (refine Mix.step0 fun K hK => ?_; go_simp; (try (go_bits; try go_simp)); first | ((with_reducible refine hK _ _ ?_); clear hK K) | ((try (simp only [IntWalk.iteOmega]; try go_simp)); (try go_bits); (with_reducible refine hK _ _ ?_); clear hK K)))
                  iterate 2 (refine Mix.step0 fun K hK => ?_; go_simp; (try (go_bits; try go_simp)); first | ((with_reducible refine hK _ _ ?_); clear hK K) | ((try (simp only [IntWalk.iteOmega]; try go_simp)); (try go_bits); (with_reducible refine hK _ _ ?_); clear hK K))
                  iterate 16 (first | (refine Mix.stepS rfl fun K hK => ?_; go_simp; (with_reducible refine hK _ _ ?_); clear hK K) | (refine Mix.step0 fun K hK => ?_; go_simp; (try (go_bits; try go_simp)); first | ((with_reducible refine hK _ _ ?_); clear hK K) | ((try (simp only [IntWalk.iteOmega]; try go_simp)); (try go_bits); (with_reducible refine hK _ _ ?_); clear hK K)))
                  iterate 1 (refine Mix.step0 fun K hK => ?_; go_simp; (try (go_bits; try go_simp)); first | ((with_reducible refine hK _ _ ?_); clear hK K) | ((try (simp only [IntWalk.iteOmega]; try go_simp)); (try go_bits); (with_reducible refine hK _ _ ?_); clear hK K))
                  refine Mix.done ?_
                  go_wp2_with fail
                  refine Meet.intro (by kernel_rfl) (hJC _ _ ?rel8)
                  case' rel8 => (try dsimp only [nthV])
                  exact ⟨by rw [HBV.out]; rfl, HBQ.out⟩
                · have d4b : decide (ei ≤ A) = false := decide_eq_false d4
                  have HBV := Lib.hid (show B = true by rw [HBO.out, hm, decide_eq_true (show A < ei by omega), decide_eq_true (show ei < nx by omega)]; rfl)
                  refine Mix.region [0, 0, 0, 0, 2, 0, 0, 0, 0, 0, 0, 0, 0, 0, 0, 0, 0, 0, 0, 0, 0, 0, 0, 0, 0, 0, 0, 0, 0, 0, 0, 0, 0, 0, 0, 0, 0, 0, 0, 0, 0] (fun _ => True) (by kernel_rfl) (by kernel_rfl) trivial ?_
                  simp only [List.zip_cons_cons, List.zip_nil_right]
                  iterate 4 (refine Mix.step0 fun K hK => ?_; go_simp; (try (go_bits; try go_simp)); first | ((with_reducible refine hK _ _ ?_); clear hK K) | ((try (simp only [IntWalk.iteOmega]; try go_simp)); (try go_bits); (with_reducible refine hK _ _ ?_); clear hK K))
                  refine Mix.step2n (by first | rfl | simp [Region.wanted, yielded]) fun K hK => ?_
                  go_wp2_with fail
                  refine (rmayD_any ⟨ei, ef, et, ex, ew, eu, eh⟩ _).mono ?_
                  rintro en w2 ⟨rfl, hb2⟩
                  have hbq := HBL.out.drew.trans (hb2.mono HBL.out.drew.size)
                  have y0 := HCW.out w2 hbq 0 (by decide)
                  simp only [duR, List.getElem?_cons_zero, List.getElem?_cons_succ, Nat.add_zero] at y0
                  have p0 := HPW.out w2 hbq
                  rw [hm]
                  have HBQ := Lib.hid hbq
                  clear hb2 hbq x0 x1 x2 x3 x4 x5 x6
                  go_wp2_with fail
                  refine Mix.post_mk (C := (fun _ => True)) trivial (hK _ _ ?_)
                  clear hK K
                  iterate 2 (refine Mix.step0 fun K hK => ?_; go_simp; (try (go_bits; try go_simp)); first | ((with_reducible refine hK _ _ ?_); clear hK K) | ((try (simp only [IntWalk.iteOmega]; try go_simp)); (try go_bits); (with_reducible refine hK _ _ ?_); clear hK K))
                  iterate 6 (first | (refine Mix.stepS rfl fun K hK => ?_; go_simp; (with_reducible refine hK _ _ ?_); clear hK K) | (refine Mix.step0 fun K hK => ?_; go_simp; (try (go_bits; try go_simp)); first | ((with_reducible refine hK _ _ ?_); clear hK K) | ((try (simp only [IntWalk.iteOmega]; try go_simp)); (try go_bits); (with_reducible refine hK _ _ ?_); clear hK K)))
                  iterate 2 (refine Mix.step0 fun K hK => ?_; go_simp; (try (go_bits; try go_simp)); first | ((with_reducible refine hK _ _ ?_); clear hK K) | ((try (simp only [IntWalk.iteOmega]; try go_simp)); (try go_bits); (with_reducible refine hK _ _ ?_); clear hK K))
                  iterate 7 (first | (refine Mix.stepS rfl fun K hK => ?_; go_simp; (with_reducible refine hK _ _ ?_); clear hK K) | (refine Mix.step0 fun K hK => ?_; go_simp; (try (go_bits; try go_simp)); first | ((with_reducible refine hK _ _ ?_); clear hK K) | ((try (simp only [IntWalk.iteOmega]; try go_simp)); (try go_bits); (with_reducible refine hK _ _ ?_); clear hK K)))
                  iterate 2 (refine Mix.step0 fun K hK => ?_; go_simp; (try (go_bits; try go_simp)); first | ((with_reducible refine hK _ _ ?_); clear hK K) | ((try (simp only [IntWalk.iteOmega]; try go_simp)); (try go_bits); (with_reducible refine hK _ _ ?_); clear hK K))
                  iterate 16 (first | (refine Mix.stepS rfl fun K hK => ?_; go_simp; (with_reducible refine hK _ _ ?_); clear hK K) | (refine Mix.step0 fun K hK => ?_; go_simp; (try (go_bits; try go_simp)); first | ((with_reducible refine hK _ _ ?_); clear hK K) | ((try (simp only [IntWalk.iteOmega]; try go_simp)); (try go_bits); (with_reducible refine hK _ _ ?_); clear hK K)))
                  iterate 1 (refine Mix.step0 fun K hK => ?_; go_simp; (try (go_bits; try go_simp)); first | ((with_reducible refine hK _ _ ?_); clear hK K) | ((try (simp only [IntWalk.iteOmega]; try go_simp)); (try go_bits); (with_reducible refine hK _ _ ?_); clear hK K))
                  refine Mix.done ?_
                  go_wp2_with fail
                  refine Meet.intro (by kernel_rfl) (hJC _ _ ?rel9)
                  case' rel9 => (try dsimp only [nthV])
                  exact ⟨by rw [HBV.out]; rfl, HBQ.out⟩
              · have d3b : decide ((0 : Int) < (j : Int)) = false := decide_eq_false (by omega)
                have hA : aheadL l j = 0 := by unfold aheadL; rw [if_pos (by omega)]
                have HBV := Lib.hid (show B = true by rw [HBO.out, hm, hA, decide_eq_true (show (0 : Int) < ei by omega), decide_eq_true (show ei < nx by omega)]; rfl)
                clear hA
                refine Mix.region [0, 0, 0, 0, 2, 0, 0, 0, 0, 0, 0, 0, 0, 0, 0, 0, 0, 0, 0, 0, 0, 0, 0, 0, 0, 0, 0, 0, 0, 0, 0, 0, 0, 0, 0, 0, 0, 0, 0, 0, 0] (fun _ => True) (by kernel_rfl) (by kernel_rfl) trivial ?_
                simp only [List.zip_cons_cons, List.zip_nil_right]
                iterate 4 (refine Mix.step0 fun K hK => ?_; go_simp; (try (go_bits; try go_simp)); first | ((with_reducible refine hK _ _ ?_); clear hK K) | ((try (simp only [IntWalk.iteOmega]; try go_simp)); (try go_bits); (with_reducible refine hK _ _ ?_); clear hK K))
                refine Mix.step2n (by first | rfl | simp [Region.wanted, yielded]) fun K hK => ?_
                go_wp2_with fail
                refine (rmayD_any ⟨ei, ef, et, ex, ew, eu, eh⟩ _).mono ?_
                rintro en w2 ⟨rfl, hb2⟩
                have hbq := HBL.out.drew.trans (hb2.mono HBL.out.drew.size)
                have y0 := HCW.out w2 hbq 0 (by decide)
                simp only [duR, List.getElem?_cons_zero, List.getElem?_cons_succ, Nat.add_zero] at y0
                skip
                rw [hm]
                have HBQ := Lib.hid hbq
                clear hb2 hbq x0 x1 x2 x3 x4 x5 x6
                go_wp2_with fail
                refine Mix.post_mk (C := (fun _ => True)) trivial (hK _ _ ?_)
                clear hK K
                iterate 2 (refine Mix.step0 fun K hK => ?_; go_simp; (try (go_bits; try go_simp)); first | ((with_reducible refine hK _ _ ?_); clear hK K) | ((try (simp only [IntWalk.iteOmega]; try go_simp)); (try go_bits); (with_reducible refine hK _ _ ?_); clear hK K))
                iterate 6 (first | (refine Mix.stepS rfl fun K hK => ?_; go_simp; (with_reducible refine hK _ _ ?_); clear hK K) | (refine Mix.step0 fun K hK => ?_; go_simp; (try (go_bits; try go_simp)); first | ((with_reducible refine hK _ _ ?_); clear hK K) | ((try (simp only [IntWalk.iteOmega]; try go_simp)); (try go_bits); (with_reducible refine hK _ _ ?_); clear hK K)))
                iterate 2 (refine Mix.step0 fun K hK => ?_; go_simp; (try (go_bits; try go_simp)); first | ((with_reducible refine hK _ _ ?_); clear hK K) | ((try (simp only [IntWalk.iteOmega]; try go_simp)); (try go_bits); (with_reducible refine hK _ _ ?_); clear hK K))
                iterate 7 (first | (refine Mix.stepS rfl fun K hK => ?_; go_simp; (with_reducible refine hK _ _ ?_); clear hK K) | (refine Mix.step0 fun K hK => ?_; go_simp; (try (go_bits; try go_simp)); first | ((with_reducible refine hK _ _ ?_); clear hK K) | ((try (simp only [IntWalk.iteOmega]; try go_simp)); (try go_bits); (with_reducible refine hK _ _ ?_); clear hK K)))
                iterate 2 (refine Mix.step0 fun K hK => ?_; go_simp; (try (go_bits; try go_simp)); first | ((with_reducible refine hK _ _ ?_); clear hK K) | ((try (simp only [IntWalk.iteOmega]; try go_simp)); (try go_bits); (with_reducible refine hK _ _ ?_); clear hK K))
                iterate 16 (first | (refine Mix.stepS rfl fun K hK => ?_; go_simp; (with_reducible refine hK _ _ ?_); clear hK K) | (refine Mix.step0 fun K hK => ?_; go_simp; (try (go_bits; try go_simp)); first | ((with_reducible refine hK _ _ ?_); clear hK K) | ((try (simp only [IntWalk.iteOmega]; try go_simp)); (try go_bits); (with_reducible refine hK _ _ ?_); clear hK K)))
                iterate 1 (refine Mix.step0 fun K hK => ?_; go_simp; (try (go_bits; try go_simp)); first | ((with_reducible refine hK _ _ ?_); clear hK K) | ((try (simp only [IntWalk.iteOmega]; try go_simp)); (try go_bits); (with_reducible refine hK _ _ ?_); clear hK K))
                refine Mix.done ?_
                go_wp2_with fail
                refine Meet.intro (by kernel_rfl) (hJC _ _ ?rel10)
                case' rel10 => (try dsimp only [nthV])
                exact ⟨by rw [HBV.out]; rfl, HBQ.out⟩
      case rest4 =>
        obtain ⟨rfl, hbl⟩ := hrel
        have HBQ := Lib.hid hbl
        clear hbl
        cases B
        · have HE := Lib.hid (dof_bad H64.out HJX.out HB.out.symm)
          go_wp2_with fail
          go_ret2
          exact .inl ⟨by rw [HE.out]; decide, by rw [HE.out]; rfl, HBQ.out⟩
        · have HK2 := Lib.hid (show ∀ k, k < j + 1 → okId l nx k = true from fun k hk => by
            by_cases q : k = j
            · rw [q]; exact HB.out.symm
            · exact HK.out k (by omega))
          go_wp2_with fail
          refine Round.intro ((n - (j + 1))) ?measure11 (by kernel_rfl) (hJ1 _ _ _ ?rel11)
          case' rel11 => (try dsimp only [nthV])
          case measure11 => omega
          case rel11 => exact ⟨j + 1, by go_num, by omega, rfl, HK2, HBQ.out⟩
    · obtain rfl : n = j := by omega
      by_cases g1 : nx < 1
      · have e1 : decide (nx < 1) = true := decide_eq_true g1
        have HE := Lib.hid (dof_next H64.out (.inl g1))
        clear g1
        go_wp2_with fail
        go_ret2
        exact .inl ⟨by rw [HE.out]; decide, by rw [HE.out]; rfl, HBL.out⟩
      · have e1 : decide (nx < 1) = false := decide_eq_false g1
        by_cases g2 : 4611686018427387904 < nx
        · have e2 : decide (4611686018427387904 < nx) = true := decide_eq_true g2
          have HE := Lib.hid (dof_next H64.out (.inr g2))
          clear g2
          go_wp2_with fail
          go_ret2
          exact .inl ⟨by rw [HE.out]; decide, by rw [HE.out]; rfl, HBL.out⟩
        · have e2 : decide (4611686018427387904 < nx) = false := decide_eq_false g2
          have HE := Lib.hid (dof_ok H64.out (by rintro (q | q) <;> omega) (fun k hk => HK.out k (by rw [HN.out]; exact hk)))
          obtain ⟨E, hE⟩ : ∃ E, E = dofE l nx := ⟨_, rfl⟩
          rw [← hE] at HE
          have HEE := Lib.hid hE
          have HAM := Lib.hid (ramounts_any _ l wr (HR.out.below HBL.out) (by have := HN.out; omega))
          rw [← HN.out] at HAM
          clear hE
          go_wp2_with fail
          refine HAM.out.mono ?_
          rintro en w3 ⟨ua, rfl, k3⟩
          have HB3 := Lib.hid (HBL.out.trans (k3.below.mono HBL.out.size))
          have hrd := k3.rdInts 0 rfl
          clear HAM k3
          go_wp2_with fail
          refine (rsum_any _ _ _ hrd).mono ?_
          rintro en w4 ⟨rfl, rfl⟩
          rw [← HE.out]
          clear hrd
          by_cases hz : E = 0
          · subst hz
            have hs1 := (Sep.ofBelow HB3.out).newCells #[.slice none 0 0, .int .u64 nx] 60
            have hs2 := (hs1.nilRecs duR 36)
            have c0 := cell_of (hs2.cells 1 rfl) 0
            simp only [List.getElem?_toArray, List.getElem?_cons_zero] at c0
            have HRL := Lib.hid (hs2.rdG HR.out)
            rw [← HN.out] at HRL
            clear hs1
            go_wp2_with (at_builtin; refine wpList_appRdG duR rfl (.tmp 82) (.tmp 83) 41 rfl 36 i0 _ 56 Try.underlying41 hi0 hz0 hz1 hz2 rfl _ [] _ l hs2 0 rfl HRL.out rfl rfl ?c3 ?c4 ?grow)
            case c3 => rw [← HN.out]; simp only [List.length_nil]; unfold maxLen; omega
            case c4 => rw [← HN.out]; simp only [List.length_nil]; omega
            case grow =>
              intro v' W5 h5
              have h5 : Sep w W5 [recT duR 36 v' l, refO w3.heap.size (.slice none 0 0) nx] := h5
              obtain ⟨a2, cc2, rfl⟩ := (h5.rdRecs 0 rfl).shape
              rw [← HN.out] at h5 ⊢
              clear hs2 c0
              have c2 := cell_of (h5.cells 1 rfl) 0
              have f2 := frozen_of (h5.cells 1 rfl) 0
              simp only [List.getElem?_toArray, List.getElem?_cons_zero] at c2
              have h7 := h5.setCells 1 rfl 0 (.slice a2 n cc2) _ rfl
              have HS := Lib.hid (show Sep w _ [refD w3.heap.size l nx] from Sep.exIn (P := fun _ : Value => True) (T := fun v : Value => packT [refO w3.heap.size v nx, recT duR 36 v l]) (Sep.pack (M := [refO w3.heap.size (.slice a2 n cc2) nx, recT duR 36 (.slice a2 n cc2) l]) (h7.perm (List.Perm.swap _ _ _))) trivial)
              clear h5 h7
              go_wp2_with fail
              go_ret2
              exact .inr ⟨HEE.out.symm, _, rfl, HS.out⟩
          · have hzb : (E != 0) = true := by simpa using hz
            have HZ := Lib.hid hz
            clear hz
            go_wp2_with fail
            go_ret2
            exact .inl ⟨by rw [← HEE.out]; exact HZ.out, by rw [← HEE.out]; rfl, HB3.out⟩
end Go.Proofs.Ythcmkljdhhepgaa
