/-
  The document's dues: Get, Hold, Release, remove, Cancel, Pay, walked.
-/
import Derived.Test.YthcmkljdhhepgaaUrT
import Derived.Test.YthcmkljdhhepgaaUdStep
import Derived.Test.YthcmkljdhhepgaaSl
import Derived.Test.YthcmkljdhhepgaaWn
set_option linter.unusedVariables false
set_option linter.unusedSimpArgs false
namespace Go.Proofs.Ythcmkljdhhepgaa
open Go Go.RowKit Go.Mem Go.MoneyP Go.NetP Go.BuildP Go.DuesP Go.Maps Go.Shelf
attribute [local go_sem] Oper.semAt_some
section
variable {w0 w : World} {L : List Thing} {i b : Nat} {xs : List Du} {nx : Int}
theorem place_none {id : Int} (h : idx xs id = none) : placeV xs id = -1 := by unfold placeV; rw [h]
theorem place_some {id : Int} {j : Nat} (h : idx xs id = some j) : placeV xs id = (j : Int) := by unfold placeV; rw [h]
set_option maxRecDepth 100000 in
theorem rGet_any (hs : Sep w0 w L) (hi : L[i]? = some (refD b xs nx)) (hl : xs.length ≤ 1000) (id : Int) :
    Calls Try.prog 23 #[.pointer (some ⟨b, 0, none⟩), .int .u64 id] w fun en w' => en = .returned (.tuple #[(getV xs id).val, .bool (getB xs id)]) ∧ Sep w0 w' L := by
  obtain ⟨i0, hi0, hz0, hz1, hz2⟩ := info_parts Try.infoDuz
  have hs1 := hs.newCells #[.int .u64 0, .int .i64 0, .int .i64 0, .int .i64 0, .int .i64 0, .int .i64 0, .bool false] 36
  have HC := Lib.hid (rplace_any (i := i + 1) hs1 (by rw [List.getElem?_cons_succ]; exact hi) hl id)
  have HI := Lib.hid hi
  rcases idx_cases xs id with ⟨h2, h3⟩ | ⟨j, hj, h2, h3, _⟩
  · rw [place_none h2] at HC
    rw [(get_no h2).1, (get_no h2).2]
    have HS := Lib.hid hs1
    clear hs hs1 hi h3
    dsimp only [Du.val, default]
    go_enter Try.func23, Try.ntmps23
    go_wp2_with fail
    refine HC.out.mono ?_
    rintro en w2 ⟨rfl, rfl⟩
    clear HC
    go_wp2_with fail
    have hD := HS.out
    have q0 := cell_of (hD.cells 0 rfl) 0
    have q1 := cell_of (hD.cells 0 rfl) 1
    have q2 := cell_of (hD.cells 0 rfl) 2
    have q3 := cell_of (hD.cells 0 rfl) 3
    have q4 := cell_of (hD.cells 0 rfl) 4
    have q5 := cell_of (hD.cells 0 rfl) 5
    have q6 := cell_of (hD.cells 0 rfl) 6
    simp only [List.getElem?_toArray, List.getElem?_cons_zero, List.getElem?_cons_succ, Nat.add_zero] at q0 q1 q2 q3 q4 q5 q6
    exact bodyPost_ret (v := .tuple #[.agg #[.int .u64 0, .int .i64 0, .int .i64 0, .int .i64 0, .int .i64 0, .int .i64 0, .bool false], .bool false]) (by simp [results, Try.results23, go_sem, q0, q1, q2, q3, q4, q5, q6]) rfl ⟨rfl, hD.tail⟩
  · rw [place_some h2] at HC
    rw [(get_yes hj h2).1, (get_yes hj h2).2]
    obtain ⟨v, h⟩ := Sep.refOpen (i := i + 1) hs1 (by rw [List.getElem?_cons_succ]; exact hi)
    have c0 := cell_of (h.cells 0 rfl) 0
    simp only [List.getElem?_toArray, List.getElem?_cons_zero] at c0
    have hr := h.rdRecs 1 rfl
    obtain ⟨a, c, rfl⟩ := hr.shape
    obtain ⟨b1, o1, e1, _, hc1⟩ := hr.at j hj
    subst e1
    obtain ⟨D, hD⟩ : ∃ D : Du, D = xs[j]'hj := ⟨_, rfl⟩
    have e0 := hc1 0 (by decide)
    have e1 := hc1 1 (by decide)
    have e2 := hc1 2 (by decide)
    have e3 := hc1 3 (by decide)
    have e4 := hc1 4 (by decide)
    have e5 := hc1 5 (by decide)
    have e6 := hc1 6 (by decide)
    simp only [duR, Nat.add_zero, List.getElem?_cons_zero, List.getElem?_cons_succ, ← hD] at e0 e1 e2 e3 e4 e5 e6
    rw [← hD]
    have hjI : (j : Int) < (xs.length : Int) := by omega
    have hj0 : ¬ (j : Int) < 0 := by omega
    have HS := Lib.hid hs
    clear hs hs1 hi h3 h hr hc1 hD
    obtain ⟨di, df, dt, dx, dw, du, dh⟩ := D
    dsimp only [Du.val] at e0 e1 e2 e3 e4 e5 e6 ⊢
    go_enter Try.func23, Try.ntmps23
    go_wp2_with fail
    refine HC.out.mono ?_
    rintro en w2 ⟨rfl, rfl⟩
    clear HC
    go_wp2_with fail
    have hD := HS.out.newCells #[.int .u64 di, .int .i64 df, .int .i64 dt, .int .i64 dx, .int .i64 dw, .int .i64 du, .bool dh] 36
    have q0 := cell_of (hD.cells 0 rfl) 0
    have q1 := cell_of (hD.cells 0 rfl) 1
    have q2 := cell_of (hD.cells 0 rfl) 2
    have q3 := cell_of (hD.cells 0 rfl) 3
    have q4 := cell_of (hD.cells 0 rfl) 4
    have q5 := cell_of (hD.cells 0 rfl) 5
    have q6 := cell_of (hD.cells 0 rfl) 6
    simp only [List.getElem?_toArray, List.getElem?_cons_zero, List.getElem?_cons_succ, Nat.add_zero] at q0 q1 q2 q3 q4 q5 q6
    exact bodyPost_ret (v := .tuple #[.agg #[.int .u64 di, .int .i64 df, .int .i64 dt, .int .i64 dx, .int .i64 dw, .int .i64 du, .bool dh], .bool true]) (by simp [results, Try.results23, go_sem, q0, q1, q2, q3, q4, q5, q6]) rfl ⟨rfl, hD.tail⟩
/-- What a change of one due says and leaves, by the document. -/
def RTurnD (w0 : World) (L : List Thing) (i b : Nat) (xs : List Du) (nx id : Int) (f : Du → Int × Du) (en : Ending) (w' : World) : Prop :=
  en = .returned (.int .i64 (turnE f xs id)) ∧ Sep w0 w' (L.set i (refD b (turnS f xs id) nx))
set_option maxRecDepth 100000 in
theorem rheld_u (hs : Sep w0 w L) (hi : L[i]? = some (refD b xs nx)) (hg : GoodS xs nx) (id : Int) (is : Bool) :
    Calls Try.prog 54 #[.pointer (some ⟨b, 0, none⟩), .int .u64 id, .bool is] w fun en w' => RTurnD w0 L i b xs nx id (heldF is) en w' := by
  have hlen := hg.len
  have HC := Lib.hid (rplace_any hs hi (by omega) id)
  rcases idx_cases xs id with ⟨h2, h3⟩ | ⟨j, hj, h2, h3, _⟩
  · obtain ⟨z1, z2⟩ := turn_none (f := heldF is) h2
    rw [place_none h2] at HC
    have HS := Lib.hid (show Sep w0 w (L.set i (refD b (turnS (heldF is) xs id) nx)) by rw [z2, set_same hi]; exact hs)
    have HZ := Lib.hid z1
    clear hs hi h3 z1 z2
    go_enter Try.func54, Try.ntmps54
    go_wp2_with fail
    refine HC.out.mono ?_
    rintro en w2 ⟨rfl, rfl⟩
    go_wp2_with fail
    go_ret
    exact ⟨by rw [HZ.out]; rfl, HS.out⟩
  · obtain ⟨z1, z2⟩ := turn_some (f := heldF is) hj h2
    rw [place_some h2] at HC
    obtain ⟨v, h⟩ := Sep.refOpen hs hi
    have c0 := cell_of (h.cells 0 rfl) 0
    simp only [List.getElem?_toArray, List.getElem?_cons_zero] at c0
    obtain ⟨g, cg, rfl, _, hcR, hfz⟩ := (h.recs 1 rfl).get j hj
    have y6 := hcR j hj 6 (by decide)
    have fz := hfz (j * 7 + 6)
    obtain ⟨D, hD⟩ : ∃ D : Du, D = xs[j]'hj := ⟨_, rfl⟩
    have hDx := (hg.xb D (by rw [hD]; exact List.getElem_mem hj)).1
    have HSET := Lib.hid (fun (bb : Bool) => h.setRow (R := duR) (E := 36) 1 rfl j hj 6 (by decide) { D with h := bb } (.bool bb) (by rw [← hD]; rfl))
    simp only [duR, List.getElem?_cons_zero, List.getElem?_cons_succ, ← hD] at y6
    rw [← hD] at z1 z2
    have hjI : (j : Int) < (xs.length : Int) := by omega
    have hj0 : ¬ (j : Int) < 0 := by omega
    have HI := Lib.hid hi
    have HS0 := Lib.hid hs
    by_cases hh : D.h = is
    · have HS := Lib.hid (show Sep w0 w (L.set i (refD b (turnS (heldF is) xs id) nx)) by
        rw [z2, show heldF is D = (14, D) by unfold heldF; rw [if_pos hh], if_pos (by simp), set_same hi]; exact hs)
      have HZ := Lib.hid (show turnE (heldF is) xs id = 14 by rw [z1, show heldF is D = (14, D) by unfold heldF; rw [if_pos hh]])
      have hhb : (D.h == is) = true := by simpa using hh
      obtain ⟨y, hy⟩ : ∃ y, y = D.h := ⟨_, rfl⟩
      rw [← hy] at y6 hhb
      clear hs hi h3 h hcR hfz hD z1 z2 hh hy HSET
      go_enter Try.func54, Try.ntmps54
      go_wp2_with fail
      refine HC.out.mono ?_
      rintro en w2 ⟨rfl, rfl⟩
      clear HC
      go_wp2_with fail
      go_ret
      exact ⟨by rw [HZ.out]; rfl, HS.out⟩
    · have hF : heldF is D = (0, { D with h := is }) := by unfold heldF; rw [if_neg hh]
      have HS := Lib.hid (show Sep w0 (w.setCell ⟨g, j * 7 + 6, none⟩ (.bool is)) (L.set i (refD b (turnS (heldF is) xs id) nx)) by
        rw [z2, hF, if_neg (by simp), if_neg (by dsimp only; omega)]
        exact Sep.refClose hi (HSET.out is))
      have HZ := Lib.hid (show turnE (heldF is) xs id = 0 by rw [z1, hF])
      have hhb : (D.h == is) = false := by simpa using hh
      obtain ⟨y, hy⟩ : ∃ y, y = D.h := ⟨_, rfl⟩
      rw [← hy] at y6 hhb
      clear hs hi h3 h hcR hfz hD z1 z2 hh hy HSET hF
      go_enter Try.func54, Try.ntmps54
      go_wp2_with fail
      refine HC.out.mono ?_
      rintro en w2 ⟨rfl, rfl⟩
      clear HC
      go_wp2_with fail
      go_ret
      exact ⟨by rw [HZ.out]; rfl, HS.out⟩
theorem rhold_u (hs : Sep w0 w L) (hi : L[i]? = some (refD b xs nx)) (hg : GoodS xs nx) (id : Int) :
    Calls Try.prog 39 #[.pointer (some ⟨b, 0, none⟩), .int .u64 id] w fun en w' => RTurnD w0 L i b xs nx id (heldF true) en w' := by
  have HC := Lib.hid (rheld_u hs hi hg id true)
  clear hs hi hg
  go_enter Try.func39, Try.ntmps39
  go_wp2_with fail
  refine HC.out.mono ?_
  rintro en w1 ⟨rfl, hs2⟩
  have HS := Lib.hid hs2
  clear hs2
  go_wp2_with fail
  go_ret
  exact ⟨rfl, HS.out⟩
theorem rrelease_u (hs : Sep w0 w L) (hi : L[i]? = some (refD b xs nx)) (hg : GoodS xs nx) (id : Int) :
    Calls Try.prog 40 #[.pointer (some ⟨b, 0, none⟩), .int .u64 id] w fun en w' => RTurnD w0 L i b xs nx id (heldF false) en w' := by
  have HC := Lib.hid (rheld_u hs hi hg id false)
  clear hs hi hg
  go_enter Try.func40, Try.ntmps40
  go_wp2_with fail
  refine HC.out.mono ?_
  rintro en w1 ⟨rfl, hs2⟩
  have HS := Lib.hid hs2
  clear hs2
  go_wp2_with fail
  go_ret
  exact ⟨rfl, HS.out⟩
end
end Go.Proofs.Ythcmkljdhhepgaa
