/-
  Package dues: dues as they lie; New, Next, Get, Gross.
-/
import Derived.Test.YthcmkljdhhepgaaUdPlain
import Derived.Test.YthcmkljdhhepgaaUsSort
set_option linter.unusedVariables false
set_option linter.unusedSimpArgs false
namespace Go.Proofs.Ythcmkljdhhepgaa
open Go Go.RowKit Go.Mem Go.MoneyP Go.NetP Go.BuildP Go.DuesP Go.Maps
attribute [local go_sem] Oper.semAt_some
/-- Dues as they lie. -/
def duesT (b : Nat) (xs : List Du) (nx : Int) : Thing := exT (fun _ => True) (fun bm : Nat => packT [dueO b bm nx, dueT bm xs])
section
variable {w0 w : World} {L : List Thing} {i b : Nat} {xs : List Du} {nx : Int}
theorem Sep.dueOpen (hs : Sep w0 w L) (hi : L[i]? = some (duesT b xs nx)) : ∃ bm, Sep w0 w (dueO b bm nx :: dueT bm xs :: L.eraseIdx i) := by
  obtain ⟨bm, _, h⟩ := Sep.exOut (hs.front hi)
  exact ⟨bm, h.unpack⟩
theorem Sep.dueClose {A : Thing} {bm : Nat} (hi : L[i]? = some A) (h : Sep w0 w (dueO b bm nx :: dueT bm xs :: L.eraseIdx i)) : Sep w0 w (L.set i (duesT b xs nx)) :=
  Sep.back (Sep.exIn (T := fun bm : Nat => packT [dueO b bm nx, dueT bm xs]) (Sep.pack (M := [dueO b bm nx, dueT bm xs]) h) trivial) hi
theorem Sep.dueClose1 {A B : Thing} {bm : Nat} (hi : L[i]? = some A) (h : Sep w0 w (B :: dueO b bm nx :: dueT bm xs :: L.eraseIdx i)) : Sep w0 w (B :: L.set i (duesT b xs nx)) := by
  have h1 := h.perm ((List.Perm.swap _ _ _).trans (List.Perm.cons _ (List.Perm.swap _ _ _)))
  have h2 : Sep w0 w (dueO b bm nx :: dueT bm xs :: (B :: L).eraseIdx (i + 1)) := h1
  exact Sep.dueClose (L := B :: L) (i := i + 1) (A := A) hi h2
end
theorem duesNew_any {w0 w : World} {L : List Thing} (hs : Sep w0 w L) : Calls Try.prog 8 #[] w fun en w' => ∃ b, en = .returned (.pointer (some ⟨b, 0, none⟩)) ∧ Sep w0 w' (duesT b [] 1 :: L) := by
  have hmm := @run_makeMap Try.prog
  have hs1 := hs.newDMap .u64 Du.id Du.val
  have hs2 := hs1.newCells #[.map (some w.heap.size), .int .u64 1] 64
  rw [World.size_alloc] at hs2
  have HS := Lib.hid (Sep.exIn (P := fun _ : Nat => True) (T := fun bm : Nat => packT [dueO (w.heap.size + 1) bm 1, dueT bm []]) (Sep.pack (M := [dueO (w.heap.size + 1) w.heap.size 1, dueT w.heap.size []]) hs2) trivial)
  clear hs hs1 hs2
  go_enter Try.func8, Try.ntmps8
  go_wp2_with fail
  go_ret
  exact ⟨_, rfl, HS.out⟩
theorem duesNext_any {w0 w : World} {L : List Thing} {i b : Nat} {xs : List Du} {nx : Int} (hs : Sep w0 w L) (hi : L[i]? = some (duesT b xs nx)) :
    Calls Try.prog 14 #[.pointer (some ⟨b, 0, none⟩)] w fun en w' => en = .returned (.int .u64 nx) ∧ w' = w := by
  obtain ⟨bm, h⟩ := Sep.dueOpen hs hi
  have c0 := cell_of (h.cells 0 rfl) 1
  simp only [List.getElem?_toArray, List.getElem?_cons_zero, List.getElem?_cons_succ] at c0
  go_enter Try.func14, Try.ntmps14
  go_wp2_with fail
  go_ret
  exact ⟨rfl, rfl⟩
theorem duesGross_any {w0 w : World} {L : List Thing} {i b : Nat} {xs : List Du} {nx : Int} (hs : Sep w0 w L) (hi : L[i]? = some (duesT b xs nx)) (hl : xs.length ≤ 1000) :
    Calls Try.prog 13 #[.pointer (some ⟨b, 0, none⟩)] w fun en w' => en = .returned (.int .i64 (gross xs)) ∧ Sep w0 w' L := by
  obtain ⟨bm, h⟩ := Sep.dueOpen hs hi
  have HC := Lib.hid (amounts_any h 0 1 b bm nx xs rfl rfl hl)
  have HI := Lib.hid hi
  clear hs h hi
  go_enter Try.func13, Try.ntmps13
  go_wp2_with fail
  refine HC.out.mono ?_
  rintro en w1 ⟨u, ams, rfl, hp, h1⟩
  have HV := Lib.hid (show sumV ams = gross xs from (sumE_perm hp).2)
  have HS := Lib.hid (show Sep w0 w1 L by have := Sep.dueClose HI.out h1.tail; rwa [set_same HI.out] at this)
  have hr := h1.rdInts 0 rfl
  clear h1 hp HC
  go_wp2_with fail
  refine (sum_any u ams _ hr).mono ?_
  rintro en w2 ⟨rfl, rfl⟩
  clear hr
  go_wp2_with fail
  go_ret
  exact ⟨by rw [HV.out]; rfl, HS.out⟩
theorem wf_id {id : Int} (h0 : 0 ≤ id) (h1 : id ≤ 18446744073709551615) : (Lit.int .u64 id).wf = true := WalkArith.wf_u64 (by omega)
theorem Try.infoDuz : (Try.prog.info? 36).map (fun i => (i.zero, i.size, i.bytes)) = some (some (.agg #[.int .u64 0, .int .i64 0, .int .i64 0, .int .i64 0, .int .i64 0, .int .i64 0, .bool false]), 7, 56) := by kernel_rfl
theorem zero_due (w : World) : (zeroValue 36).run Try.prog w = .ok (Du.val default) w := by
  obtain ⟨i0, hi0, hz0, hz1, hz2⟩ := info_parts Try.infoDuz
  simp [zeroValue, typeInfo, hi0, hz0]
  rfl
theorem getD_at {xs : List Du} {j : Nat} (hj : j < xs.length) : xs.getD j default = xs[j] := by rw [List.getD_eq_getElem?_getD, List.getElem?_eq_getElem hj]; rfl
theorem get_yes {xs : List Du} {id : Int} {j : Nat} (hj : j < xs.length) (h : idx xs id = some j) : getV xs id = xs[j] ∧ getB xs id = true := by
  unfold getV getB; rw [h]; exact ⟨getD_at hj, rfl⟩
theorem get_no {xs : List Du} {id : Int} (h : idx xs id = none) : getV xs id = default ∧ getB xs id = false := by
  unfold getV getB; rw [h]; exact ⟨rfl, rfl⟩
set_option maxRecDepth 100000 in
theorem duesGet_any {w0 w : World} {L : List Thing} {i b : Nat} {xs : List Du} {nx : Int} (hs : Sep w0 w L) (hi : L[i]? = some (duesT b xs nx)) (id : Int) (h0 : 0 ≤ id) (h1 : id ≤ 18446744073709551615) :
    Calls Try.prog 12 #[.pointer (some ⟨b, 0, none⟩), .int .u64 id] w fun en w' => en = .returned (.tuple #[(getV xs id).val, .bool (getB xs id)]) ∧ Sep w0 w' L := by
  obtain ⟨bm, h⟩ := Sep.dueOpen hs hi
  have c0 := cell_of (h.cells 0 rfl) 0
  have c2 : ∀ o : Obj, (w.alloc o).cell? ⟨b, 0, none⟩ = some (.map (some bm)) := fun o => by
    have := cell_of ((h.alloc o).cells 0 rfl) 0
    simpa only [List.getElem?_toArray, List.getElem?_cons_zero] using this
  have hlk : ∀ o : Obj, (Instr.lookup 62 (.map (some bm)) (.int .u64 id) true).run Try.prog (w.alloc o) = .ok (.tuple #[(getV xs id).val, .bool (getB xs id)]) (w.alloc o) := fun o => by
    rcases idx_cases xs id with ⟨h2, h3⟩ | ⟨j, hj, h2, h3, _⟩
    · have := (h.alloc o).lookNo (P := Try.prog) (e := 36) 1 rfl keyedU Try.underlying28 Try.underlying62 zero_due true (wf_id h0 h1) h3
      rw [this, (get_no h2).1, (get_no h2).2]; rfl
    · have := (h.alloc o).lookYes (P := Try.prog) (e := 36) 1 rfl keyedU Try.underlying28 Try.underlying62 true hj
      rw [h3] at this
      rw [this, (get_yes hj h2).1, (get_yes hj h2).2]; rfl
  obtain ⟨i0, hi0, hz0, hz1, hz2⟩ := info_parts Try.infoDuz
  have HS := Lib.hid hs
  generalize getB xs id = B at *
  generalize getV xs id = D at *
  clear hs h hi c0
  obtain ⟨di, df, dt, dx, dw, du, dh⟩ := D
  dsimp only [Du.val] at hlk ⊢
  go_enter Try.func12, Try.ntmps12
  go_wp2_with fail
  have hD := ((HS.out.newCells #[.int .u64 di, .int .i64 df, .int .i64 dt, .int .i64 dx, .int .i64 dw, .int .i64 du, .bool dh] 36).newCells #[.int .u64 di, .int .i64 df, .int .i64 dt, .int .i64 dx, .int .i64 dw, .int .i64 du, .bool dh] 36)
  have q0 := cell_of (hD.cells 1 rfl) 0
  have q1 := cell_of (hD.cells 1 rfl) 1
  have q2 := cell_of (hD.cells 1 rfl) 2
  have q3 := cell_of (hD.cells 1 rfl) 3
  have q4 := cell_of (hD.cells 1 rfl) 4
  have q5 := cell_of (hD.cells 1 rfl) 5
  have q6 := cell_of (hD.cells 1 rfl) 6
  simp only [List.getElem?_toArray, List.getElem?_cons_zero, List.getElem?_cons_succ, Nat.add_zero] at q0 q1 q2 q3 q4 q5 q6
  exact bodyPost_ret (v := .tuple #[.agg #[.int .u64 di, .int .i64 df, .int .i64 dt, .int .i64 dx, .int .i64 dw, .int .i64 du, .bool dh], .bool B]) (by simp [results, Try.results12, go_sem, q0, q1, q2, q3, q4, q5, q6]) rfl ⟨rfl, hD.tail.tail⟩
end Go.Proofs.Ythcmkljdhhepgaa
