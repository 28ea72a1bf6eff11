/-
  Package dues: Expire, walked.
-/
import Derived.Test.YthcmkljdhhepgaaUdW4
set_option linter.unusedVariables false
set_option linter.unusedSimpArgs false
namespace Go.Proofs.Ythcmkljdhhepgaa
open Go Go.RowKit Go.Mem Go.MoneyP Go.NetP Go.BuildP Go.DuesP Go.Maps Go.Shelf
attribute [local go_sem] Oper.semAt_some
section
variable {w0 w : World} {L : List Thing} {i b : Nat} {xs : List Du} {nx : Int}
/-- What Expire says and leaves. -/
def ExpD (w0 : World) (L : List Thing) (i b : Nat) (xs : List Du) (nx day : Int) (en : Ending) (w' : World) : Prop := ∃ v, en = .returned v ∧ Sep w0 w' (intsT .u64 28 v (expI xs day) :: L.set i (duesT b (expS xs day) nx))
/-- The map behind j rounds. -/
def midS (xs : List Du) (day : Int) (j : Nat) : List Du := expS (xs.take j) day ++ xs.drop j
theorem mid_0 (xs : List Du) (day : Int) : midS xs day 0 = xs := by simp [midS, expS]
theorem mid_end (xs : List Du) (day : Int) : midS xs day xs.length = expS xs day := by simp [midS]
theorem mid_gone {xs : List Du} {day : Int} {j : Nat} (hj : j < xs.length) (hd : (xs[j]).u < day) :
    ∃ (k : Nat) (hk : k < (midS xs day j).length), (midS xs day j)[k] = xs[j] ∧ (midS xs day j).eraseIdx k = midS xs day (j + 1) ∧ expI (xs.take (j + 1)) day = expI (xs.take j) day ++ [(xs[j]).id] := by
  have h1 : xs.drop j = xs[j] :: xs.drop (j + 1) := List.drop_eq_getElem_cons hj
  have h2 : xs.take (j + 1) = xs.take j ++ [xs[j]] := List.take_succ_eq_append_getElem hj
  refine ⟨(expS (xs.take j) day).length, by unfold midS; rw [List.length_append, h1, List.length_cons]; omega, ?_, ?_, ?_⟩
  · unfold midS
    rw [List.getElem_append_right (Nat.le_refl _), List.getElem_drop]
    congr 1
    omega
  · unfold midS
    rw [List.eraseIdx_append_of_length_le (Nat.le_refl _), Nat.sub_self, h1, List.eraseIdx_cons_zero, h2]
    unfold expS
    rw [List.filter_append, List.filter_cons, if_neg (by simp [hd]), List.filter_nil, List.append_nil]
  · unfold expI
    rw [h2, List.filter_append, List.filter_cons, if_pos (by simp [hd]), List.filter_nil, List.map_append]; rfl
theorem mid_kept {xs : List Du} {day : Int} {j : Nat} (hj : j < xs.length) (hd : ¬ (xs[j]).u < day) : midS xs day (j + 1) = midS xs day j ∧ expI (xs.take (j + 1)) day = expI (xs.take j) day := by
  have h1 : xs.drop j = xs[j] :: xs.drop (j + 1) := List.drop_eq_getElem_cons hj
  have h2 : xs.take (j + 1) = xs.take j ++ [xs[j]] := List.take_succ_eq_append_getElem hj
  constructor
  · unfold midS
    rw [h1, h2]
    unfold expS
    rw [List.filter_append, List.filter_cons, if_pos (by simp; omega), List.filter_nil, List.append_assoc]; rfl
  · unfold expI
    rw [h2, List.filter_append, List.filter_cons, if_neg (by simp; omega), List.filter_nil, List.append_nil]
theorem exp_end {A B : Thing} {bm : Nat} {Y : List Du} {C : Thing} (hi : L[i]? = some C) (h : Sep w0 w (A :: B :: dueO b bm nx :: dueT bm Y :: L.eraseIdx i)) : Sep w0 w (A :: L.set i (duesT b Y nx)) := Sep.dueClose1 hi (h.omit 1)
theorem exp_len (xs : List Du) (day : Int) : (expI xs day).length ≤ xs.length := by unfold expI; rw [List.length_map]; exact List.length_filter_le _ _
set_option maxRecDepth 100000 in
set_option maxHeartbeats 2000000 in
theorem duesExpire_any (hs : Sep w0 w L) (hi : L[i]? = some (duesT b xs nx)) (hg : GoodS xs nx) (day : Int) :
    Calls Try.prog 16 #[.pointer (some ⟨b, 0, none⟩), .int .i64 day] w fun en w' => ExpD w0 L i b xs nx day en w' := by
  obtain ⟨i0, hi0, hz0, hz1, hz2⟩ := info_parts Try.infoDuz
  obtain ⟨j0, hj0, hy0, hy1, hy2⟩ := info_parts Try.infoU64k
  have HC := Lib.hid (duesList_any hs hi hg)
  have HI := Lib.hid hi
  have hlen := hg.len
  obtain ⟨n, hn⟩ : ∃ n, n = xs.length := ⟨_, rfl⟩
  have HN := Lib.hid hn
  rw [← hn] at hlen
  clear hs hi hg hn
  go_enter Try.func16, Try.ntmps16
  go_wp2_with fail
  refine HC.out.mono ?_
  rintro en w2 ⟨vl, rfl, h⟩
  obtain ⟨al, cl, rfl⟩ := (h.rdRecs 0 rfl).shape
  rw [← HN.out] at h ⊢
  obtain ⟨bm, h2⟩ := Sep.dueOpen (i := i + 1) h HI.out
  have h2 : Sep w0 w2 (dueO b bm nx :: dueT bm xs :: recT duR 36 (.slice al n cl) xs :: L.eraseIdx i) := h2
  have h3 := h2.perm ((List.Perm.cons _ (List.Perm.swap _ _ _)).trans (List.Perm.swap _ _ _))
  have hs0 := h3.nilInts .u64 28
  rw [← mid_0 xs day] at hs0
  have hs0 : Sep w0 w2 (intsT .u64 28 (.slice none 0 0) (expI (xs.take 0) day) :: recT duR 36 (.slice al n cl) xs :: dueO b bm nx :: dueT bm (midS xs day 0) :: L.eraseIdx i) := by
    rw [mid_0] at hs0 ⊢; exact hs0
  clear h h2 h3 HC
  go_wp2_with fail
  refine wp_loopM [none, none, none, none, none, some 5, none, some 7, none, none, none, some 11, some 12, some 13, some 14, some 15, some 16, some 17, some 18, some 19, some 20, some 21, some 22, some 23, some 24, some 25, some 26, some 27, some 28, some 29, some 30, none] (fun (r : Nat) (f : Nat → Value) (wr : World) => (fun (vi vl : Value) => ∃ (j : Nat) (v : Value), vi = .int .i64 j ∧ vl = v ∧ j ≤ n ∧ r = n - j ∧ Sep w0 wr (intsT .u64 28 v (expI (xs.take j) day) :: recT duR 36 (.slice al n cl) xs :: dueO b bm nx :: dueT bm (midS xs day j) :: L.eraseIdx i)) (f 11) (f 5)) (n) (by kernel_rfl) ?atStart1 ?round1
  case' atStart1 => (try dsimp only [nthV])
  case' round1 =>
    intro gk f wr l hl hrel J1 K1 hJ1 hK1
    (try simp only [mask] at hl)
    generalize f 11 = u11 at hl hrel
    generalize f 5 = u5 at hl hrel
    subst hl
    (try dsimp only at hrel)
  case atStart1 => exact ⟨0, _, rfl, rfl, Nat.zero_le _, rfl, hs0⟩
  case round1 =>
    clear hs0
    obtain ⟨j, v, rfl, rfl, hjn, rfl, h⟩ := hrel
    by_cases hj : j < n
    · have hjx : j < xs.length := by rw [← HN.out]; exact hj
      have hjI : (j : Int) < (n : Int) := by omega
      obtain ⟨Y, hY⟩ : ∃ Y, Y = expI (xs.take j) day := ⟨_, rfl⟩
      have hYl : Y.length ≤ 64 := by
        rw [hY]
        have h1 := exp_len (xs.take j) day
        rw [List.length_take] at h1
        omega
      obtain ⟨bq, oq, eq, _, hcell⟩ := (h.rdRecs 1 rfl).at j hjx
      have z0 := hcell 0 (by decide)
      have z1 := hcell 1 (by decide)
      have z2 := hcell 2 (by decide)
      have z3 := hcell 3 (by decide)
      have z4 := hcell 4 (by decide)
      have z5 := hcell 5 (by decide)
      have z6 := hcell 6 (by decide)
      clear hcell
      by_cases hd : (xs[j]'hjx).u < day
      · obtain ⟨k, hk, q1, q2, q3⟩ := mid_gone hjx hd
        obtain ⟨D, hD⟩ : ∃ D : Du, D = xs[j]'hjx := ⟨_, rfl⟩
        have HQ3 := Lib.hid (show expI (xs.take (j + 1)) day = Y ++ [D.id] by rw [q3, hY, hD])
        have HK := Lib.hid (show ∃ h : k < (midS xs day j).length, Du.id ((midS xs day j)[k]'h) = D.id from ⟨hk, by rw [q1, hD]⟩)
        have HQ2 := Lib.hid q2
        simp only [duR, List.getElem?_cons_zero, List.getElem?_cons_succ, Nat.add_zero, ← hD] at z0 z1 z2 z3 z4 z5 z6 hd
        rw [← hY] at h
        obtain ⟨av, cv, rfl⟩ := (h.rdInts 0 rfl).shape
        have hb := h.newCells #[.int .u64 D.id, .int .i64 D.f, .int .i64 D.t, .int .i64 D.x, .int .i64 D.w, .int .i64 D.u, .bool D.h] 36
        obtain ⟨ei, ef, et, ex, ew, eu, eh⟩ := D
        dsimp only at z0 z1 z2 z3 z4 z5 z6 hd hb HQ3 HK
        subst eq
        clear h q1 q2 q3 hD hjx hY hk
        obtain ⟨BX, hBX⟩ : ∃ BX, BX = wr.heap.size := ⟨_, rfl⟩
        have HBX := Lib.hid hBX
        clear hBX
        go_wp2_with (at_builtin; refine wpList_appInt rfl (.tmp 19) (.tmp 22) 43 rfl 28 j0 _ 8 Try.underlying43 hj0 hy0 hy1 hy2 rfl _ Y .u64 ei hb 1 rfl rfl (by rw [World.size_alloc]; rfl) ?c3 ?c4 ?grow)
        case c3 => unfold maxLen; omega
        case c4 => omega
        case grow =>
          intro v' W5 h5 hsh
          obtain ⟨gg, cap, rfl⟩ := hsh.out
          rw [← HBX.out] at h5 ⊢
          have h5 : Sep w0 W5 (cellsT BX #[.int .u64 ei, .int .i64 ef, .int .i64 et, .int .i64 ex, .int .i64 ew, .int .i64 eu, .bool eh] 36 :: intsT .u64 28 (.slice (some ⟨gg, 0, none⟩) (Y.length + 1) cap) (Y ++ [ei]) :: recT duR 36 (.slice (some ⟨bq, oq, none⟩) n cl) xs :: dueO b bm nx :: dueT bm (midS xs day j) :: L.eraseIdx i) := h5
          have c0 := cell_of (h5.cells 3 rfl) 0
          have e0 := cell_of (h5.cells 0 rfl) 0
          simp only [List.getElem?_toArray, List.getElem?_cons_zero] at c0 e0
          obtain ⟨hk, hki⟩ := HK.out
          obtain ⟨W6, hdel, h6⟩ := h5.drew.mapDel (P := Try.prog) (e := 36) 4 rfl keyedU Try.underlying28 Try.underlying62 28 hk
          rw [hki] at hdel
          rw [HQ2.out] at h6
          have h6 : Sep w0 W6 (intsT .u64 28 (.slice (some ⟨gg, 0, none⟩) (Y.length + 1) cap) (Y ++ [ei]) :: recT duR 36 (.slice (some ⟨bq, oq, none⟩) n cl) xs :: dueO b bm nx :: dueT bm (midS xs day (j + 1)) :: L.eraseIdx i) := h6.tail
          rw [← HQ3.out] at h6
          have H6 := Lib.hid h6
          clear hki hk hb h5 h6 hsh z0 z1 z2 z3 z4 z5 z6
          go_wp2_with fail
          refine Mix.region [0, 0, 0, 0, 0, 0, 2] (fun _ => True) (by kernel_rfl) (by kernel_rfl) trivial ?_
          simp only [List.zip_cons_cons, List.zip_nil_right]
          iterate 6 (refine Mix.step0 fun K hK => ?_; go_simp; (try (go_bits; try go_simp)); first | ((with_reducible refine hK _ _ ?_); clear hK K) | ((try (simp only [IntWalk.iteOmega]; try go_simp)); (try go_bits); (with_reducible refine hK _ _ ?_); clear hK K))
          refine Mix.step2n (by first | rfl | simp [Region.wanted, yielded]) fun K hK => ?_
          go_wp2_with fail
          refine Mix.post_mk (C := (fun _ => True)) trivial (hK _ _ ?_)
          clear hK K
          refine Mix.done ?_
          go_wp2_with fail
          refine Round.intro ((n - (j + 1))) ?measure2 (by kernel_rfl) (hJ1 _ _ _ ?rel2)
          case' rel2 => (try dsimp only [nthV])
          case measure2 => omega
          case rel2 => exact ⟨j + 1, _, by go_num, rfl, by omega, rfl, H6.out⟩
      · obtain ⟨q1, q2⟩ := mid_kept hjx hd
        have HK := Lib.hid (show Sep w0 wr (intsT .u64 28 u5 (expI (xs.take (j + 1)) day) :: recT duR 36 (.slice al n cl) xs :: dueO b bm nx :: dueT bm (midS xs day (j + 1)) :: L.eraseIdx i) by rw [q1, q2]; exact h)
        obtain ⟨D, hD⟩ : ∃ D : Du, D = xs[j]'hjx := ⟨_, rfl⟩
        simp only [duR, List.getElem?_cons_zero, List.getElem?_cons_succ, Nat.add_zero, ← hD] at z0 z1 z2 z3 z4 z5 z6 hd
        obtain ⟨ei, ef, et, ex, ew, eu, eh⟩ := D
        dsimp only at z0 z1 z2 z3 z4 z5 z6 hd
        subst eq
        clear h q1 q2 hD hjx hY hYl
        go_wp2_with fail
        refine Round.intro ((n - (j + 1))) ?measure3 (by kernel_rfl) (hJ1 _ _ _ ?rel3)
        case' rel3 => (try dsimp only [nthV])
        case measure3 => omega
        case rel3 => exact ⟨j + 1, _, by go_num, rfl, by omega, rfl, HK.out.alloc _⟩
    · obtain rfl : n = j := by omega
      have HS := Lib.hid (show Sep w0 wr (intsT .u64 28 u5 (expI xs day) :: L.set i (duesT b (expS xs day) nx)) by
        have hn2 := HN.out
        rw [hn2, mid_end, List.take_length] at h
        exact exp_end HI.out h)
      clear h
      go_wp2_with fail
      go_ret
      exact ⟨u5, rfl, HS.out⟩
end
end Go.Proofs.Ythcmkljdhhepgaa
