/-
  The document's dues: remove, Cancel, Pay, walked.
-/
import Derived.Test.YthcmkljdhhepgaaUrW1
set_option linter.unusedVariables false
set_option linter.unusedSimpArgs false
namespace Go.Mem
open Go Go.RowKit
theorem ROwn.icap {α : Type} {R : Rec α} {E : TypeId} {w : World} {a : Option Addr} {n c : Nat} {xs : List α} (h : ROwn R E w (.slice a n c) xs) : n ≤ c := by
  unfold ROwn at h
  rcases h.2 with ⟨e, _⟩ | ⟨g, cap, cur, e, _, _, h1, _⟩
  · injection e with e1 e2 e3
    omega
  · injection e with e1 e2 e3
    omega
end Go.Mem
namespace Go.Proofs.Ythcmkljdhhepgaa
open Go Go.RowKit Go.Mem Go.MoneyP Go.NetP Go.BuildP Go.DuesP Go.Maps Go.Shelf
attribute [local go_sem] Oper.semAt_some
section
variable {w0 w : World} {L : List Thing} {i b : Nat} {xs : List Du} {nx : Int}
set_option maxRecDepth 100000 in
set_option maxHeartbeats 2000000 in
theorem rremove_u (hs : Sep w0 w L) (hi : L[i]? = some (refD b xs nx)) (hl : xs.length ≤ 1000) (k : Nat) (hk : k < xs.length) :
    Calls Try.prog 55 #[.pointer (some ⟨b, 0, none⟩), .int .i64 k] w fun en w' => en = .returned (.tuple #[]) ∧ Sep w0 w' (L.set i (refD b (xs.eraseIdx k) nx)) := by
  obtain ⟨i0, hi0, hz0, hz1, hz2⟩ := info_parts Try.infoDuz
  obtain ⟨v, h⟩ := Sep.refOpen hs hi
  obtain ⟨g, cg, rfl, _, hcR, hfz⟩ := (h.recs 1 rfl).get k hk
  have c0 := cell_of (h.cells 0 rfl) 0
  simp only [List.getElem?_toArray, List.getElem?_cons_zero] at c0
  have hrd := h.rdRecs 1 rfl
  have hcap := (h.recs 1 rfl)
  have hr1 : RdG duR w (.slice (some ⟨g, 0, none⟩) k cg) (xs.take k) := by
    have := hrd.sub 0 k cg (by omega)
    simpa using this
  have HI := Lib.hid hi
  have hs1 := h.nilRecs duR 36
  have HTK := Lib.hid (show (xs.take k).length = k by rw [List.length_take]; omega)
  have HER := Lib.hid (show xs.take k ++ xs.drop (k + 1) = xs.eraseIdx k from (List.eraseIdx_eq_take_drop_succ _ _).symm)
  obtain ⟨n, hn⟩ : ∃ n, n = xs.length := ⟨_, rfl⟩
  have HN := Lib.hid hn
  obtain ⟨A, hA⟩ : ∃ A, A = xs.take k := ⟨_, rfl⟩
  have hcg : n ≤ cg := by rw [hn]; exact hcap.icap
  have HKX := Lib.hid hk
  rw [← hn] at hk hl c0 hs1
  rw [← hA] at hr1 HTK HER
  have HR1 := Lib.hid hr1
  clear hs h hi hcR hfz hrd hn hA hcap hr1
  go_enter Try.func55, Try.ntmps55
  go_wp2_with (at_builtin; refine wpList_appRdG duR rfl (.tmp 5) (.tmp 11) 41 rfl 36 i0 _ 56 Try.underlying41 hi0 hz0 hz1 hz2 rfl _ [] _ A hs1 0 rfl HR1.out rfl rfl ?c3 ?c4 ?grow)
  case c3 => rw [HTK.out]; simp only [List.length_nil]; unfold maxLen; omega
  case c4 => rw [HTK.out]; simp only [List.length_nil]; omega
  case grow =>
    intro v' W5 h5
    have h5 : Sep w0 W5 (recT duR 36 v' A :: refO b (.slice (some ⟨g, 0, none⟩) n cg) nx :: recT duR 36 (.slice (some ⟨g, 0, none⟩) n cg) xs :: L.eraseIdx i) := h5
    clear hs1 c0
    have c1 := cell_of (h5.cells 1 rfl) 0
    simp only [List.getElem?_toArray, List.getElem?_cons_zero] at c1
    obtain ⟨av, cv, rfl⟩ := (h5.rdRecs 0 rfl).shape
    rw [HTK.out] at h5 ⊢
    have HDL := Lib.hid (show (xs.drop (k + 1)).length = n - (k + 1) by rw [List.length_drop, ← HN.out])
    by_cases hcc : cg = k + 1
    · subst hcc
      obtain rfl : n = k + 1 := by omega
      have hr2 : RdG duR W5 (.slice (some ⟨g, 0, none⟩) 0 0) (xs.drop (k + 1)) := by
        have := (h5.rdRecs 2 rfl).sub 0 0 0 (by omega)
        rw [show xs.drop (k + 1) = [] from List.drop_eq_nil_of_le (by rw [← HN.out]; exact Nat.le_refl _)]
        simpa using this
      have HR2 := Lib.hid hr2
      clear hr2
      go_wp2_with (at_builtin; refine wpList_appRdG duR rfl (.tmp 14) (.tmp 21) 41 rfl 36 i0 _ 56 Try.underlying41 hi0 hz0 hz1 hz2 rfl _ A _ (xs.drop (k + 1)) h5 0 rfl HR2.out rfl rfl ?c3a ?c4a ?growa)
      case c3a => rw [HTK.out, HDL.out]; unfold maxLen; omega
      case c4a => rw [HTK.out, HDL.out]; omega
      case growa =>
        intro v2 W6 h6
        rw [HER.out] at h6
        have h6 : Sep w0 W6 (recT duR 36 v2 (xs.eraseIdx k) :: refO b (.slice (some ⟨g, 0, none⟩) (k + 1) _) nx :: recT duR 36 (.slice (some ⟨g, 0, none⟩) (k + 1) _) xs :: L.eraseIdx i) := h6
        obtain ⟨a2, cc2, rfl⟩ := (h6.rdRecs 0 rfl).shape
        obtain ⟨NE, hNE⟩ : ∃ NE, NE = (xs.eraseIdx k).length := ⟨_, rfl⟩
        rw [← hNE] at h6 ⊢
        clear h5 c1 hNE
        have c2 := cell_of (h6.cells 1 rfl) 0
        have f2 := frozen_of (h6.cells 1 rfl) 0
        simp only [List.getElem?_toArray, List.getElem?_cons_zero] at c2
        have h7 := h6.setCells 1 rfl 0 (.slice a2 NE cc2) _ rfl
        have HS := Lib.hid (show Sep w0 _ (L.set i (refD b (xs.eraseIdx k) nx)) from Sep.refClose HI.out ((h7.omit 2).perm (List.Perm.swap _ _ _)))
        clear h6 h7
        go_wp2_with fail
        (try simp only [Exit.inBlock, Exit.then])
        first | (refine bodyPost_ret (results_none rfl _ _ _) rfl ?_) | (refine bodyPost_end (results_none rfl _ _ _) rfl ?_)
        exact ⟨rfl, HS.out⟩
    · have hcc2 : k + 1 < cg := by omega
      have hr2 : RdG duR W5 (.slice (some ⟨g, (k + 1) * 7, none⟩) (n - (k + 1)) (cg - (k + 1))) (xs.drop (k + 1)) := by
        have := (h5.rdRecs 2 rfl).rest (k + 1) (cg - (k + 1)) (by have := HKX.out; omega) HN.out
        rw [Nat.zero_add] at this
        exact this
      have HR2 := Lib.hid hr2
      clear hr2
      go_wp2_with (at_builtin; refine wpList_appRdG duR rfl (.tmp 14) (.tmp 21) 41 rfl 36 i0 _ 56 Try.underlying41 hi0 hz0 hz1 hz2 rfl _ A _ (xs.drop (k + 1)) h5 0 rfl HR2.out rfl rfl ?c3b ?c4b ?growb)
      case c3b => rw [HTK.out, HDL.out]; unfold maxLen; omega
      case c4b => rw [HTK.out, HDL.out]; omega
      case growb =>
        intro v2 W6 h6
        rw [HER.out] at h6
        have h6 : Sep w0 W6 (recT duR 36 v2 (xs.eraseIdx k) :: refO b (.slice (some ⟨g, 0, none⟩) (n) _) nx :: recT duR 36 (.slice (some ⟨g, 0, none⟩) (n) _) xs :: L.eraseIdx i) := h6
        obtain ⟨a2, cc2, rfl⟩ := (h6.rdRecs 0 rfl).shape
        obtain ⟨NE, hNE⟩ : ∃ NE, NE = (xs.eraseIdx k).length := ⟨_, rfl⟩
        rw [← hNE] at h6 ⊢
        clear h5 c1 hNE
        have c2 := cell_of (h6.cells 1 rfl) 0
        have f2 := frozen_of (h6.cells 1 rfl) 0
        simp only [List.getElem?_toArray, List.getElem?_cons_zero] at c2
        have h7 := h6.setCells 1 rfl 0 (.slice a2 NE cc2) _ rfl
        have HS := Lib.hid (show Sep w0 _ (L.set i (refD b (xs.eraseIdx k) nx)) from Sep.refClose HI.out ((h7.omit 2).perm (List.Perm.swap _ _ _)))
        clear h6 h7
        go_wp2_with fail
        (try simp only [Exit.inBlock, Exit.then])
        first | (refine bodyPost_ret (results_none rfl _ _ _) rfl ?_) | (refine bodyPost_end (results_none rfl _ _ _) rfl ?_)
        exact ⟨rfl, HS.out⟩
set_option maxRecDepth 100000 in
theorem rcancel_u (hs : Sep w0 w L) (hi : L[i]? = some (refD b xs nx)) (hg : GoodS xs nx) (id : Int) :
    Calls Try.prog 41 #[.pointer (some ⟨b, 0, none⟩), .int .u64 id] w fun en w' => RTurnD w0 L i b xs nx id cancelF en w' := by
  have hlen := hg.len
  have HC := Lib.hid (rplace_any hs hi (by omega) id)
  rcases idx_cases xs id with ⟨h2, h3⟩ | ⟨j, hj, h2, h3, _⟩
  · obtain ⟨z1, z2, _, _⟩ := cancel_no h2
    rw [place_none h2] at HC
    have HS := Lib.hid (show Sep w0 w (L.set i (refD b (turnS cancelF xs id) nx)) by rw [z2, set_same hi]; exact hs)
    have HZ := Lib.hid z1
    clear hs hi h3 z1 z2
    go_enter Try.func41, Try.ntmps41
    go_wp2_with fail
    refine HC.out.mono ?_
    rintro en w2 ⟨rfl, rfl⟩
    go_wp2_with fail
    go_ret
    exact ⟨by rw [HZ.out]; rfl, HS.out⟩
  · obtain ⟨z1, z2, _, _⟩ := cancel_yes hj h2
    rw [place_some h2] at HC
    have HR := Lib.hid (rremove_u hs hi (by omega) j hj)
    rw [← z2] at HR
    have HZ := Lib.hid z1
    have hj0 : ¬ (j : Int) < 0 := by omega
    clear hs hi h3 z1 z2
    go_enter Try.func41, Try.ntmps41
    go_wp2_with fail
    refine HC.out.mono ?_
    rintro en w2 ⟨rfl, rfl⟩
    clear HC
    go_wp2_with fail
    refine HR.out.mono ?_
    rintro en w3 ⟨rfl, hs⟩
    have HS := Lib.hid hs
    clear hs HR
    go_wp2_with fail
    go_ret
    exact ⟨by rw [HZ.out]; rfl, HS.out⟩
set_option maxRecDepth 100000 in
set_option maxHeartbeats 2000000 in
theorem rpay_u (hs : Sep w0 w L) (hi : L[i]? = some (refD b xs nx)) (hg : GoodS xs nx) (id y : Int) :
    Calls Try.prog 42 #[.pointer (some ⟨b, 0, none⟩), .int .u64 id, .int .i64 y] w fun en w' => RTurnD w0 L i b xs nx id (payF y) en w' := by
  have hlen := hg.len
  have HC := Lib.hid (rplace_any hs hi (by omega) id)
  rcases idx_cases xs id with ⟨h2, h3⟩ | ⟨j, hj, h2, h3, _⟩
  · obtain ⟨z1, z2⟩ := turn_none (f := payF y) h2
    rw [place_none h2] at HC
    have HS := Lib.hid (show Sep w0 w (L.set i (refD b (turnS (payF y) xs id) nx)) by rw [z2, set_same hi]; exact hs)
    have HZ := Lib.hid z1
    clear hs hi h3 z1 z2
    go_enter Try.func42, Try.ntmps42
    go_wp2_with fail
    refine HC.out.mono ?_
    rintro en w2 ⟨rfl, rfl⟩
    go_wp2_with fail
    go_ret
    exact ⟨by rw [HZ.out]; rfl, HS.out⟩
  · obtain ⟨z1, z2⟩ := turn_some (f := payF y) hj h2
    rw [place_some h2] at HC
    obtain ⟨v, h⟩ := Sep.refOpen hs hi
    have c0 := cell_of (h.cells 0 rfl) 0
    simp only [List.getElem?_toArray, List.getElem?_cons_zero] at c0
    obtain ⟨g, cg, rfl, _, hcR, hfz⟩ := (h.recs 1 rfl).get j hj
    have y6 := hcR j hj 6 (by decide)
    have y3 := hcR j hj 3 (by decide)
    have fz := hfz (j * 7 + 3)
    obtain ⟨D, hD⟩ : ∃ D : Du, D = xs[j]'hj := ⟨_, rfl⟩
    have hDx := hg.xb D (by rw [hD]; exact List.getElem_mem hj)
    have HSET := Lib.hid (show ∀ x : Int, Sep w0 (w.setCell ⟨g, j * 7 + 3, none⟩ (.int .i64 x)) (refO b (.slice (some ⟨g, 0, none⟩) xs.length cg) nx :: recT duR 36 (.slice (some ⟨g, 0, none⟩) xs.length cg) (xs.set j { D with x := x }) :: L.eraseIdx i) from fun x => h.setRow (R := duR) (E := 36) 1 rfl j hj 3 (by decide) { D with x := x } (.int .i64 x) (by rw [← hD]; rfl))
    simp only [duR, List.getElem?_cons_zero, List.getElem?_cons_succ, ← hD] at y6 y3
    rw [← hD] at z1 z2
    have HD := Lib.hid hD
    clear hD
    have hjI : (j : Int) < (xs.length : Int) := by omega
    have hj0 : ¬ (j : Int) < 0 := by omega
    obtain ⟨DH, hDH⟩ : ∃ y, y = D.h := ⟨_, rfl⟩
    obtain ⟨DX, hDX⟩ : ∃ y, y = D.x := ⟨_, rfl⟩
    have HDH := Lib.hid hDH
    have HDX := Lib.hid hDX
    rw [← hDH] at y6
    rw [← hDX] at y3 hDx
    clear hDH hDX
    by_cases h1 : y < 0
    · have hF : payF y D = (1, D) := by unfold payF; rw [if_pos h1]
      have HZ := Lib.hid (show turnE (payF y) xs id = 1 by rw [z1, hF])
      have HS := Lib.hid (show Sep w0 w (L.set i (refD b (turnS (payF y) xs id) nx)) by rw [z2, hF, if_pos (by simp), set_same hi]; exact hs)
      clear hs hi h3 h hcR hfz z1 z2 HSET HD
      go_enter Try.func42, Try.ntmps42
      go_wp2_with fail
      refine HC.out.mono ?_
      rintro en w2 ⟨rfl, rfl⟩
      clear HC
      go_wp2_with fail
      go_ret
      exact ⟨by rw [HZ.out]; rfl, HS.out⟩
    · have h1b : decide (y < 0) = false := decide_eq_false h1
      cases DH
      · by_cases h2y : DX < y
        · have hF : payF y D = (12, D) := by unfold payF; rw [if_neg h1, if_neg (by rw [← HDH.out]; simp), if_pos (by rw [← HDX.out]; exact h2y)]
          have h2b : decide (DX < y) = true := decide_eq_true h2y
          have HZ := Lib.hid (show turnE (payF y) xs id = 12 by rw [z1, hF])
          have HS := Lib.hid (show Sep w0 w (L.set i (refD b (turnS (payF y) xs id) nx)) by rw [z2, hF, if_pos (by simp), set_same hi]; exact hs)
          clear hs hi h3 h hcR hfz z1 z2 HSET HD
          go_enter Try.func42, Try.ntmps42
          go_wp2_with fail
          refine HC.out.mono ?_
          rintro en w2 ⟨rfl, rfl⟩
          clear HC
          go_wp2_with fail
          go_ret
          exact ⟨by rw [HZ.out]; rfl, HS.out⟩
        · have hF : payF y D = (0, { D with x := DX - y }) := by unfold payF; rw [if_neg h1, if_neg (by rw [← HDH.out]; simp), if_neg (by rw [← HDX.out]; exact h2y), HDX.out]
          have h2b : decide (DX < y) = false := decide_eq_false h2y
          have hs2 := Sep.refClose hi (HSET.out (DX - y))
          have hj2 : j < (xs.set j { D with x := DX - y }).length := by rw [List.length_set]; exact hj
          have HZ := Lib.hid (show turnE (payF y) xs id = 0 by rw [z1, hF])
          have c2 : (w.setCell ⟨g, j * 7 + 3, none⟩ (.int .i64 (DX - y))).cell? ⟨b, 0, none⟩ = some (.slice (some ⟨g, 0, none⟩) xs.length cg) := cell_of ((HSET.out (DX - y)).cells 0 rfl) 0
          have y2 : (w.setCell ⟨g, j * 7 + 3, none⟩ (.int .i64 (DX - y))).cell? ⟨g, j * 7 + 3, none⟩ = some (.int .i64 (DX - y)) := by
            obtain ⟨g2, cg2, e2, _, hc2, _⟩ := ((HSET.out (DX - y)).recs 1 rfl).get j hj2
            injection e2 with e2
            injection e2 with e2
            injection e2 with e2
            subst e2
            have := hc2 j hj2 3 (by decide)
            simpa [duR] using this
          by_cases hz : DX - y = 0
          · have HR := Lib.hid (rremove_u hs2 (List.getElem?_set_self (List.getElem?_eq_some_iff.1 hi).1) (by rw [List.length_set]; omega) j hj2)
            rw [List.set_set] at HR
            have HTS := Lib.hid (show turnS (payF y) xs id = (xs.set j { D with x := DX - y }).eraseIdx j by
              rw [z2, hF, if_neg (by simp), if_pos hz, List.eraseIdx_set_eq])
            rw [← HTS.out] at HR
            have hzb : (DX - y == 0) = true := by simpa using hz
            clear hs hi h3 h hcR hfz z1 z2 hF HSET HD hs2 hz HTS
            go_enter Try.func42, Try.ntmps42
            go_wp2_with fail
            refine HC.out.mono ?_
            rintro en w2 ⟨rfl, rfl⟩
            clear HC
            go_wp2_with fail
            refine HR.out.mono ?_
            rintro en w3 ⟨rfl, hs⟩
            have HS := Lib.hid hs
            clear hs HR
            go_wp2_with fail
            go_ret
            exact ⟨by rw [HZ.out]; rfl, HS.out⟩
          · have HS := Lib.hid (show Sep w0 _ (L.set i (refD b (turnS (payF y) xs id) nx)) by
              rw [z2, hF, if_neg (by simp), if_neg hz]; exact hs2)
            have hzb : (DX - y == 0) = false := by simpa using hz
            clear hs hi h3 h hcR hfz z1 z2 hF HSET HD hs2 hz
            go_enter Try.func42, Try.ntmps42
            go_wp2_with fail
            refine HC.out.mono ?_
            rintro en w2 ⟨rfl, rfl⟩
            clear HC
            go_wp2_with fail
            go_ret
            exact ⟨by rw [HZ.out]; rfl, HS.out⟩
      · have hF : payF y D = (14, D) := by unfold payF; rw [if_neg h1, if_pos HDH.out.symm]
        have HZ := Lib.hid (show turnE (payF y) xs id = 14 by rw [z1, hF])
        have HS := Lib.hid (show Sep w0 w (L.set i (refD b (turnS (payF y) xs id) nx)) by rw [z2, hF, if_pos (by simp), set_same hi]; exact hs)
        clear hs hi h3 h hcR hfz z1 z2 HSET HD
        go_enter Try.func42, Try.ntmps42
        go_wp2_with fail
        refine HC.out.mono ?_
        rintro en w2 ⟨rfl, rfl⟩
        clear HC
        go_wp2_with fail
        go_ret
        exact ⟨by rw [HZ.out]; rfl, HS.out⟩
end
end Go.Proofs.Ythcmkljdhhepgaa
