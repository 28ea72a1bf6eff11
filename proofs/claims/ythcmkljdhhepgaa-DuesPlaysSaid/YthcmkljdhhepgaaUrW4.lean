/-
  The document's dues: Expire, walked; Same, ids.
-/
import Derived.Test.YthcmkljdhhepgaaUrW3
set_option linter.unusedVariables false
set_option linter.unusedSimpArgs false
namespace Go.Proofs.Ythcmkljdhhepgaa
open Go Go.RowKit Go.Mem Go.MoneyP Go.NetP Go.BuildP Go.DuesP Go.Maps Go.Shelf
attribute [local go_sem] Oper.semAt_some
section
variable {w0 w : World} {L : List Thing} {i b : Nat} {xs : List Du} {nx : Int}
/-- What Expire says and leaves, by the document. -/
def RExpD (w0 : World) (L : List Thing) (i b : Nat) (xs : List Du) (nx day : Int) (en : Ending) (w' : World) : Prop := ∃ v, en = .returned v ∧ Sep w0 w' (intsT .u64 28 v (expI xs day) :: L.set i (refD b (expS xs day) nx))
theorem exp_gone {xs : List Du} {day : Int} {j : Nat} (hj : j < xs.length) (hd : (xs[j]).u < day) : expI (xs.take (j + 1)) day = expI (xs.take j) day ++ [(xs[j]).id] ∧ expS (xs.take (j + 1)) day = expS (xs.take j) day := by
  have h2 : xs.take (j + 1) = xs.take j ++ [xs[j]] := List.take_succ_eq_append_getElem hj
  constructor
  · unfold expI
    rw [h2, List.filter_append, List.filter_cons, if_pos (by simp [hd]), List.filter_nil, List.map_append]; rfl
  · unfold expS
    rw [h2, List.filter_append, List.filter_cons, if_neg (by simp [hd]), List.filter_nil, List.append_nil]
theorem exp_kept {xs : List Du} {day : Int} {j : Nat} (hj : j < xs.length) (hd : ¬ (xs[j]).u < day) : expI (xs.take (j + 1)) day = expI (xs.take j) day ∧ expS (xs.take (j + 1)) day = expS (xs.take j) day ++ [xs[j]] := by
  have h2 : xs.take (j + 1) = xs.take j ++ [xs[j]] := List.take_succ_eq_append_getElem hj
  constructor
  · unfold expI
    rw [h2, List.filter_append, List.filter_cons, if_neg (by simp; omega), List.filter_nil, List.append_nil]
  · unfold expS
    rw [h2, List.filter_append, List.filter_cons, if_pos (by simp; omega), List.filter_nil]
theorem expS_len (xs : List Du) (day : Int) : (expS xs day).length ≤ xs.length := List.length_filter_le _ _
theorem rexp_end {A O : Thing} {Y : List Du} {v : Value} {C : Thing} (hi : L[i]? = some C) (h : Sep w0 w (A :: recT duR 36 v Y :: refO b v nx :: O :: L.eraseIdx i)) : Sep w0 w (A :: L.set i (refD b Y nx)) := by
  have h1 := (h.omit 3).perm ((List.Perm.cons _ (List.Perm.swap _ _ _)).trans ((List.Perm.swap _ _ _).trans (List.Perm.cons _ (List.Perm.swap _ _ _))))
  have h2 : Sep w0 w (refO b v nx :: recT duR 36 v Y :: (A :: L).eraseIdx (i + 1)) := h1
  exact Sep.refClose (L := A :: L) (i := i + 1) (A := C) hi h2
set_option maxRecDepth 100000 in
set_option maxHeartbeats 2000000 in
theorem rExpire_any (hs : Sep w0 w L) (hi : L[i]? = some (refD b xs nx)) (hg : GoodS xs nx) (day : Int) :
    Calls Try.prog 44 #[.pointer (some ⟨b, 0, none⟩), .int .i64 day] w fun en w' => RExpD w0 L i b xs nx day en w' := by
  obtain ⟨i0, hi0, hz0, hz1, hz2⟩ := info_parts Try.infoDuz
  obtain ⟨j0, hj0, hy0, hy1, hy2⟩ := info_parts Try.infoU64k
  obtain ⟨v, h⟩ := Sep.refOpen hs hi
  obtain ⟨av, cv, rfl⟩ := (h.rdRecs 1 rfl).shape
  obtain ⟨n, hn⟩ : ∃ n, n = xs.length := ⟨_, rfl⟩
  have HN := Lib.hid hn
  have hn64 : n ≤ 64 := by rw [hn]; exact hg.len
  rw [← hn] at h
  have HI := Lib.hid hi
  have hs0 := (h.nilRecs duR 36).nilInts .u64 28
  have hs0 : Sep w0 w (intsT .u64 28 (.slice none 0 0) (expI (xs.take 0) day) :: recT duR 36 (.slice none 0 0) (expS (xs.take 0) day) :: refO b (.slice av n cv) nx :: recT duR 36 (.slice av n cv) xs :: L.eraseIdx i) := hs0
  clear hs hi hg h hn
  go_enter Try.func44, Try.ntmps44
  go_wp2_with fail
  refine wp_loopM [none, none, none, none, none, some 5, some 6, some 7, some 8, some 9, some 10, some 11, some 12, some 13, some 14, some 15, some 16, some 17, some 18, some 19, some 20, some 21, some 22, some 23, some 24, some 25, some 26, some 27, some 28, some 29, some 30, some 31, some 32, some 33, some 34, some 35, some 36, some 37, some 38, some 39, some 40, some 41, some 42, some 43, some 44, some 45, some 46, some 47, none, none, none, none, none] (fun (r : Nat) (f : Nat → Value) (wr : World) => (fun (vo vl vi : Value) => ∃ j : Nat, vi = .int .i64 j ∧ j ≤ n ∧ r = n - j ∧ Sep w0 wr (intsT .u64 28 vo (expI (xs.take j) day) :: recT duR 36 vl (expS (xs.take j) day) :: refO b (.slice av n cv) nx :: recT duR 36 (.slice av n cv) xs :: L.eraseIdx i)) (f 5) (f 6) (f 7)) (n) (by kernel_rfl) ?atStart1 ?round1
  case' atStart1 => (try dsimp only [nthV])
  case' round1 =>
    intro gk f wr l hl hrel J1 K1 hJ1 hK1
    (try simp only [mask] at hl)
    generalize f 5 = u5 at hl hrel
    generalize f 6 = u6 at hl hrel
    generalize f 7 = u7 at hl hrel
    subst hl
    (try dsimp only at hrel)
  case atStart1 => exact ⟨0, rfl, Nat.zero_le _, rfl, hs0⟩
  case round1 =>
    clear hs0
    obtain ⟨j, rfl, hjn, rfl, h⟩ := hrel
    have c0 := cell_of (h.cells 2 rfl) 0
    have f0 := frozen_of (h.cells 2 rfl) 0
    simp only [List.getElem?_toArray, List.getElem?_cons_zero] at c0
    by_cases hj : j < n
    · have hjx : j < xs.length := by rw [← HN.out]; exact hj
      have hjI : (j : Int) < (n : Int) := by omega
      obtain ⟨Y, hY⟩ : ∃ Y, Y = expI (xs.take j) day := ⟨_, rfl⟩
      obtain ⟨Z, hZ⟩ : ∃ Z, Z = expS (xs.take j) day := ⟨_, rfl⟩
      have hYl : Y.length ≤ 64 := by
        rw [hY]
        have h1 := exp_len (xs.take j) day
        rw [List.length_take] at h1
        omega
      have hZl : Z.length ≤ 64 := by
        rw [hZ]
        have h1 := expS_len (xs.take j) day
        rw [List.length_take] at h1
        omega
      rw [← hY, ← hZ] at h
      obtain ⟨bq, oq, eq, _, hcell⟩ := (h.rdRecs 3 rfl).at j hjx
      have z0 := hcell 0 (by decide)
      have z1 := hcell 1 (by decide)
      have z2 := hcell 2 (by decide)
      have z3 := hcell 3 (by decide)
      have z4 := hcell 4 (by decide)
      have z5 := hcell 5 (by decide)
      have z6 := hcell 6 (by decide)
      obtain ⟨D, hD⟩ : ∃ D : Du, D = xs[j]'hjx := ⟨_, rfl⟩
      have HGO := Lib.hid (show D.u < day → expI (xs.take (j + 1)) day = Y ++ [D.id] ∧ expS (xs.take (j + 1)) day = Z from fun hd => by rw [hD] at hd ⊢; rw [hY, hZ]; exact exp_gone hjx hd)
      have HKE := Lib.hid (show ¬ D.u < day → expI (xs.take (j + 1)) day = Y ∧ expS (xs.take (j + 1)) day = Z ++ [D] from fun hd => by rw [hD] at hd ⊢; rw [hY, hZ]; exact exp_kept hjx hd)
      simp only [duR, List.getElem?_cons_zero, List.getElem?_cons_succ, Nat.add_zero, ← hD] at z0 z1 z2 z3 z4 z5 z6
      obtain ⟨ei, ef, et, ex, ew, eu, eh⟩ := D
      dsimp only at z0 z1 z2 z3 z4 z5 z6 HGO HKE
      obtain ⟨ay, cy, rfl⟩ := (h.rdInts 0 rfl).shape
      obtain ⟨az, cz, rfl⟩ := (h.rdRecs 1 rfl).shape
      clear hcell hD hjx hY hZ
      subst eq
      by_cases hd : eu < day
      · obtain ⟨q1, q2⟩ := HGO.out hd
        have HQ1 := Lib.hid q1
        have HQ2 := Lib.hid q2
        clear q1 q2 HGO HKE
        go_wp2_with (at_builtin; refine wpList_appInt rfl (.tmp 27) (.tmp 36) 43 rfl 28 j0 _ 8 Try.underlying43 hj0 hy0 hy1 hy2 rfl _ Y .u64 ei h 0 rfl rfl rfl ?c3 ?c4 ?grow)
        case c3 => unfold maxLen; omega
        case c4 => omega
        case grow =>
          intro v' W5 h5 hsh
          obtain ⟨gg, cap, rfl⟩ := hsh.out
          rw [← HQ1.out] at h5
          have H5 := Lib.hid (show Sep w0 W5 (intsT .u64 28 (.slice (some ⟨gg, 0, none⟩) (Y.length + 1) cap) (expI (xs.take (j + 1)) day) :: recT duR 36 (.slice az Z.length cz) (expS (xs.take (j + 1)) day) :: refO b (.slice (some ⟨bq, oq, none⟩) n cv) nx :: recT duR 36 (.slice (some ⟨bq, oq, none⟩) n cv) xs :: L.eraseIdx i) by rw [HQ2.out]; exact h5)
          clear h h5 hsh z0 z1 z2 z3 z4 z5 z6 c0 f0
          go_wp2_with fail
          refine Round.intro ((n - (j + 1))) ?measure2 (by kernel_rfl) (hJ1 _ _ _ ?rel2)
          case' rel2 => (try dsimp only [nthV])
          case measure2 => omega
          case rel2 => exact ⟨j + 1, by go_num, by omega, rfl, H5.out⟩
      · obtain ⟨q1, q2⟩ := HKE.out hd
        have HQ1 := Lib.hid q1
        have HQ2 := Lib.hid q2
        clear q1 q2 HGO HKE
        go_wp2_with (at_builtin; refine wpList_appRec duR rfl (.tmp 38) (.tmp 46) 41 rfl 36 i0 _ 56 Try.underlying41 hi0 hz0 hz1 hz2 rfl _ Z ⟨ei, ef, et, ex, ew, eu, eh⟩ h 1 rfl _ rfl rfl rfl ?d3 ?d4 ?grow2)
        case d3 => unfold maxLen; omega
        case d4 => omega
        case grow2 =>
          intro v' W5 h5 hsh
          obtain ⟨gg, cap, rfl⟩ := hsh.out
          rw [← HQ2.out] at h5
          have H5 := Lib.hid (show Sep w0 W5 (intsT .u64 28 (.slice ay Y.length cy) (expI (xs.take (j + 1)) day) :: recT duR 36 (.slice (some ⟨gg, 0, none⟩) (Z.length + 1) cap) (expS (xs.take (j + 1)) day) :: refO b (.slice (some ⟨bq, oq, none⟩) n cv) nx :: recT duR 36 (.slice (some ⟨bq, oq, none⟩) n cv) xs :: L.eraseIdx i) by rw [HQ1.out]; exact h5)
          clear h h5 hsh z0 z1 z2 z3 z4 z5 z6 c0 f0
          go_wp2_with fail
          refine Round.intro ((n - (j + 1))) ?measure3 (by kernel_rfl) (hJ1 _ _ _ ?rel3)
          case' rel3 => (try dsimp only [nthV])
          case measure3 => omega
          case rel3 => exact ⟨j + 1, by go_num, by omega, rfl, H5.out⟩
    · obtain rfl : n = j := by omega
      rw [HN.out, List.take_length] at h
      rw [← HN.out] at h
      obtain ⟨Z, hZ⟩ : ∃ Z, Z = expS xs day := ⟨_, rfl⟩
      have HZ := Lib.hid hZ
      rw [← hZ] at h
      obtain ⟨az, cz, rfl⟩ := (h.rdRecs 1 rfl).shape
      obtain ⟨zl, hzl⟩ : ∃ zl, zl = Z.length := ⟨_, rfl⟩
      rw [← hzl] at h ⊢
      have h7 := h.setCells 2 rfl 0 (.slice az zl cz) _ rfl
      have HS := Lib.hid (show Sep w0 _ (intsT .u64 28 u5 (expI xs day) :: L.set i (refD b (expS xs day) nx)) by rw [← HZ.out]; exact rexp_end HI.out h7)
      clear h h7 hZ hzl
      go_wp2_with fail
      go_ret
      exact ⟨u5, rfl, HS.out⟩
end
theorem ne_self_i (x : Int) : (x == x) = true := by simp
theorem ne_self_b (x : Bool) : (x == x) = true := by simp
set_option maxRecDepth 100000 in
theorem same_any (xs : List Du) (va vb : Value) (w : World) (ha : RdG duR w va xs) (hb : RdG duR w vb xs) : Calls Try.prog 24 #[va, vb] w fun en w' => en = .returned (.bool true) ∧ Below w.heap.size w w' := by
  obtain ⟨aa, ca, rfl⟩ := ha.shape
  obtain ⟨ab, cb, rfl⟩ := hb.shape
  have hle := ha.le'
  obtain ⟨n, hn⟩ : ∃ n, n = xs.length := ⟨_, rfl⟩
  have HN := Lib.hid hn
  have HA := Lib.hid ha
  have HB := Lib.hid hb
  rw [← hn] at hle ⊢
  clear ha hb hn
  have NX : ((n : Int) != (n : Int)) = false := by simp
  go_enter Try.func24, Try.ntmps24
  go_wp2_with fail
  refine wp_loopM [none, none, none, none, some 4, some 5, none, none, none, none, none, some 11, some 12, some 13, some 14, some 15, some 16, some 17, some 18, some 19, some 20, some 21, some 22, some 23, some 24, some 25] (fun (r : Nat) (f : Nat → Value) (wr : World) => (fun (vi : Value) => ∃ j : Nat, vi = .int .i64 j ∧ j ≤ n ∧ r = n - j ∧ Below w.heap.size w wr) (f 5)) (n) (by kernel_rfl) ?atStart4 ?round4
  case' atStart4 => (try dsimp only [nthV])
  case' round4 =>
    intro gk f wr l hl hrel J1 K1 hJ1 hK1
    (try simp only [mask] at hl)
    generalize f 5 = u5 at hl hrel
    subst hl
    (try dsimp only at hrel)
  case atStart4 => exact ⟨0, rfl, Nat.zero_le _, rfl, Below.refl _ _⟩
  case round4 =>
    obtain ⟨j, rfl, hjn, rfl, hbl⟩ := hrel
    have HBL := Lib.hid hbl
    by_cases hj : j < n
    · have hjI : (j : Int) < (n : Int) := by omega
      have hjx : j < xs.length := by rw [← HN.out]; exact hj
      obtain ⟨b1, o1, e1, _, hc1⟩ := (HA.out.below hbl).at j hjx
      obtain ⟨b2, o2, e2, _, hc2⟩ := (HB.out.below hbl).at j hjx
      have x0 := hc1 0 (by decide)
      have x1 := hc1 1 (by decide)
      have x2 := hc1 2 (by decide)
      have x3 := hc1 3 (by decide)
      have x4 := hc1 4 (by decide)
      have x5 := hc1 5 (by decide)
      have x6 := hc1 6 (by decide)
      have y0 := hc2 0 (by decide)
      have y1 := hc2 1 (by decide)
      have y2 := hc2 2 (by decide)
      have y3 := hc2 3 (by decide)
      have y4 := hc2 4 (by decide)
      have y5 := hc2 5 (by decide)
      have y6 := hc2 6 (by decide)
      obtain ⟨D, hD⟩ : ∃ D : Du, D = xs[j]'hjx := ⟨_, rfl⟩
      simp only [duR, List.getElem?_cons_zero, List.getElem?_cons_succ, Nat.add_zero, ← hD] at x0 x1 x2 x3 x4 x5 x6 y0 y1 y2 y3 y4 y5 y6
      obtain ⟨ei, ef, et, ex, ew, eu, eh⟩ := D
      dsimp only at x0 x1 x2 x3 x4 x5 x6 y0 y1 y2 y3 y4 y5 y6
      clear hc1 hc2 hD hjx hbl
      subst e1
      subst e2
      have N1 := ne_self_i
      have N2 := ne_self_b
      go_wp2_with fail
      refine Mix.region [0, 0, 0, 0, 0, 0, 0, 0, 0] (fun _ => True) (by kernel_rfl) (by kernel_rfl) trivial ?_
      simp only [List.zip_cons_cons, List.zip_nil_right]
      iterate 9 (refine Mix.step0 fun K hK => ?_; go_simp; (try (go_bits; try go_simp)); first | ((with_reducible refine hK _ _ ?_); clear hK K) | ((try (simp only [IntWalk.iteOmega]; try go_simp)); (try go_bits); (with_reducible refine hK _ _ ?_); clear hK K))
      refine Mix.done ?_
      go_wp2_with fail
      refine Round.intro ((n - (j + 1))) ?measure5 (by kernel_rfl) (hJ1 _ _ _ ?rel5)
      case' rel5 => (try dsimp only [nthV])
      case measure5 => omega
      case rel5 => exact ⟨j + 1, by go_num, by omega, rfl, HBL.out.drew⟩
    · obtain rfl : n = j := by omega
      go_wp2_with fail
      go_ret
      exact ⟨rfl, HBL.out⟩
end Go.Proofs.Ythcmkljdhhepgaa
