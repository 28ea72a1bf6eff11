/-
  Package build and its reference, walked (2).
-/
import Derived.Test.YthcmkljdhhepgaaBA
import Derived.Test.YthcmkljdhhepgaaDMap
import Derived.Test.YthcmkljdhhepgaaObj
import Derived.Test.YthcmkljdhhepgaaNB
set_option linter.unusedVariables false
set_option linter.unusedSimpArgs false
namespace Go.BuildP
open Go Go.RowKit Go.Mem Go.MoneyP Go.NetP
/-- The id ahead of the i-th. -/
def aheadL (l : List Du) (i : Nat) : Int := if i = 0 then 0 else (l.getD (i - 1) default).id
def okId (l : List Du) (nx : Int) (i : Nat) : Bool := mayD (l.getD i default) && decide (aheadL l i < (l.getD i default).id) && decide ((l.getD i default).id < nx)
/-- What Of answers. -/
def dofE (l : List Du) (nx : Int) : Int := if 64 < l.length then 6 else if nx < 1 ∨ 4611686018427387904 < nx then 1 else if (List.range l.length).all (okId l nx) then sumE (l.map (·.x)) else 1
theorem dof_many {l : List Du} {nx : Int} (h : 64 < l.length) : dofE l nx = 6 := by simp [dofE, h]
theorem dof_next {l : List Du} {nx : Int} (h : ¬ 64 < l.length) (hn : nx < 1 ∨ 4611686018427387904 < nx) : dofE l nx = 1 := by simp [dofE, h, hn]
theorem dof_bad {l : List Du} {nx : Int} (h : ¬ 64 < l.length) {i : Nat} (hi : i < l.length) (hb : okId l nx i = false) : dofE l nx = 1 := by
  have : (List.range l.length).all (okId l nx) = false := by
    rw [List.all_eq_false]
    exact ⟨i, List.mem_range.2 hi, by simp [hb]⟩
  unfold dofE
  rw [if_neg h, this]
  split <;> rfl
theorem dof_ok {l : List Du} {nx : Int} (h : ¬ 64 < l.length) (hn : ¬ (nx < 1 ∨ 4611686018427387904 < nx)) (ha : ∀ i, i < l.length → okId l nx i = true) : dofE l nx = sumE (l.map (·.x)) := by
  have : (List.range l.length).all (okId l nx) = true := List.all_eq_true.2 fun i hi => ha i (List.mem_range.1 hi)
  unfold dofE
  rw [if_neg h, if_neg hn, this]
  rfl
theorem ids_up {l : List Du} {nx : Int} : ∀ (i : Nat), (∀ j, j < i → okId l nx j = true) → i ≤ l.length → 0 ≤ aheadL l i ∧ ∀ d ∈ l.take i, d.id ≤ aheadL l i
  | 0, _, _ => by simp [aheadL]
  | i + 1, h, hi => by
    obtain ⟨h0, ih⟩ := ids_up i (fun j hj => h j (by omega)) (by omega)
    have hk := h i (by omega)
    have hlt : i < l.length := by omega
    have hg : l.getD i default = l[i] := by simp [hlt]
    simp only [okId, Bool.and_eq_true, decide_eq_true_eq] at hk
    have ha : aheadL l (i + 1) = (l[i]).id := by simp [aheadL, hlt]
    rw [ha]
    rw [hg] at hk
    refine ⟨by omega, fun d hd => ?_⟩
    rw [List.take_succ_eq_append_getElem hlt] at hd
    rcases List.mem_append.1 hd with q | q
    · have := ih d q; omega
    · rw [List.mem_singleton.1 q]; exact Int.le_refl _
theorem perm_sum {a b : List Int} (h : a.Perm b) : a.sum = b.sum := by
  induction h with
  | nil => rfl
  | cons x _ ih => simp [ih]
  | swap x y l => simp; omega
  | trans _ _ h1 h2 => rw [h1, h2]
theorem sumE_perm {a b : List Int} (h : a.Perm b) : sumE a = sumE b ∧ sumV a = sumV b := by
  have h1 : mays a = mays b := by
    unfold mays
    rw [Bool.eq_iff_iff, List.all_eq_true, List.all_eq_true]
    exact ⟨fun q x hx => q x (h.mem_iff.2 hx), fun q x hx => q x (h.mem_iff.1 hx)⟩
  have h2 := perm_sum h
  simp only [sumE, sumV, h1, h2, and_self]
end Go.BuildP
namespace Go.Proofs.Ythcmkljdhhepgaa
open Go Go.RowKit Go.Mem Go.MoneyP Go.NetP Go.BuildP Go.Maps
theorem keyedU : Keyed Try.prog 28 := int_keyed Try.underlying28
/-- The dues of an object: its map. -/
abbrev dueT (b : Nat) (xs : List Du) : Thing := dmapT .u64 Du.id Du.val b xs
abbrev dueO (b bm : Nat) (nx : Int) : Thing := cellsT b #[.map (some bm), .int .u64 nx] 64
set_option maxHeartbeats 2000000 in
set_option maxRecDepth 100000 in
theorem amounts_any {w0 w : World} {L : List Thing} (hs : Sep w0 w L) (i j b bm : Nat) (nx : Int) (xs : List Du) (hi : L[i]? = some (dueO b bm nx)) (hj : L[j]? = some (dueT bm xs)) (hsm : xs.length ≤ 1000) :
    Calls Try.prog 28 #[.pointer (some ⟨b, 0, none⟩)] w fun en w' => ∃ u ams, en = .returned u ∧ ams.Perm (xs.map (·.x)) ∧ Sep w0 w' (intsT .i64 2 u ams :: L) := by
  obtain ⟨i0, hi0, hz0, hz1, hz2⟩ := info_parts Try.infoI64b
  have c0 := cell_of (hs.cells i hi) 0
  simp only [List.getElem?_toArray, List.getElem?_cons_zero] at c0
  have HJ := Lib.hid hj
  clear hi hj
  go_enter Try.func28, Try.ntmps28
  go_upto_region 2 with fail
  go_wp2_with (refine wpList_rangeD rfl (.tmp 9) 62 rfl 28 36 Try.underlying62 hs j HJ.out rfl ?rng)
  case rng =>
    intro r w1 hs1
    have HJ2 := Lib.hid (fun X : Thing => (by rw [List.getElem?_set_self (List.getElem?_eq_some_iff.1 HJ.out).1] : (L.set j X)[j]? = some X))
    clear hs c0
    go_wp2_with fail
    refine wp_loopM [none, none, none, some 3, none, some 5, none, none, none, none, none, some 11, some 12, some 13, some 14, some 15, some 16, some 17, some 18, some 19, none] (fun (r1 : Nat) (f : Nat → Value) (wr : World) => (fun (vo : Value) => ∃ (left : List Du) (ams : List Int), r1 = left.length ∧ left.length + ams.length ≤ 1000 ∧ Hid ((ams ++ left.map (·.x)).Perm (xs.map (·.x))) ∧ Sep w0 wr (intsT .i64 2 vo ams :: L.set j (rangeT .u64 Du.id Du.val bm r xs left))) (f 3)) (xs.length) (by kernel_rfl) ?atStart1 ?round1
    case' atStart1 => (try dsimp only [nthV])
    case' round1 =>
      intro gk f wr l hl hrel J1 K1 hJ1 hK1
      (try simp only [mask] at hl)
      generalize f 3 = u3 at hl hrel
      subst hl
      (try dsimp only at hrel)
    case atStart1 => exact ⟨xs, [], rfl, by simpa using hsm, Lib.hid (by simp), hs1.nilInts .i64 _⟩
    case round1 =>
      clear hs1
      obtain ⟨left, ams, rfl, hlen, HP, hs⟩ := hrel
      obtain ⟨al, cl, rfl⟩ := (hs.rdInts 0 rfl).shape
      go_wp2_with (refine wpList_nextD (kf := Du.id) (vf := Du.val) rfl (.tmp 10) rfl hs (j + 1) (by rw [List.getElem?_cons_succ]; exact HJ2.out _) rfl ?done ?more)
      case done =>
        intro h0
        subst h0
        have HP2 := Lib.hid (show ams.Perm (xs.map (·.x)) by simpa using HP.out)
        have hs2 := hs.rangeEnd (j + 1) (by rw [List.getElem?_cons_succ]; exact HJ2.out _)
        rw [List.set_cons_succ, List.set_set, set_same HJ.out] at hs2
        clear hs HP
        go_wp2_with fail
        go_ret
        exact ⟨_, ams, rfl, HP2.out, hs2⟩
      case more =>
        intro d left' w2 hp hen hs2
        (try rw [List.set_cons_succ, List.set_set] at hs2)
        have hll := hp.length_eq
        simp only [List.length_cons] at hll
        have HP2 := Lib.hid (show ((ams ++ [d.x]) ++ left'.map (·.x)).Perm (xs.map (·.x)) from by
          refine List.Perm.trans ?_ HP.out
          rw [List.append_assoc]
          exact List.Perm.append_left _ (List.Perm.map (f := Du.x) hp).symm)
        obtain ⟨id, f, t, x, we, u, h⟩ := d
        dsimp only [Du.val] at hen HP2 ⊢
        have hs3 := hs2.alloc (.cells #[.int .u64 id, .int .i64 f, .int .i64 t, .int .i64 x, .int .i64 we, .int .i64 u, .bool h] 36)
        clear hs hs2 hp HP
        have HLL := Lib.hid hll
        clear hll
        go_wp2_with (at_builtin; refine wpList_appInt rfl (.tmp 15) (.tmp 18) 68 rfl 2 i0 _ 8 Try.underlying68 hi0 hz0 hz1 hz2 rfl _ ams .i64 x hs3 0 rfl rfl (by rw [World.size_alloc]; rfl) ?c3 ?c4 ?grow)
        case c3 => unfold maxLen; omega
        case c4 => omega
        case grow =>
          intro v' w5 hs5 hsh
          obtain ⟨g, cap, rfl⟩ := hsh.out
          (try simp only [List.set_cons_zero] at hs5)
          clear hs3 hsh hen
          go_wp2_with fail
          refine Round.intro (left'.length) ?measure2 (by kernel_rfl) (hJ1 _ _ _ ?rel2)
          case' rel2 => (try dsimp only [nthV])
          case measure2 => have := HLL.out; omega
          case rel2 => exact ⟨left', ams ++ [x], rfl, by have := HLL.out; simp; omega, HP2, hs5⟩
/-- What Of leaves. -/
def DofP (l : List Du) (nx : Int) (w : World) (en : Ending) (w' : World) : Prop :=
  (dofE l nx ≠ 0 ∧ en = .returned (.tuple #[.pointer none, .int .i64 (dofE l nx)]) ∧ Below w.heap.size w w') ∨
  (dofE l nx = 0 ∧ ∃ b bm, en = .returned (.tuple #[.pointer (some ⟨b, 0, none⟩), .int .i64 0]) ∧ Sep w w' [dueO b bm nx, dueT bm l])
set_option maxHeartbeats 4000000 in
set_option maxRecDepth 100000 in
theorem dof_any (l : List Du) (v : Value) (nx : Int) (h0 : 0 ≤ nx) (w : World) (h : RdG duR w v l) :
    Calls Try.prog 20 #[v, .int .u64 nx] w fun en w' => DofP l nx w en w' := by
  obtain ⟨i0, hi0, hz0, hz1, hz2⟩ := info_parts Try.infoDu
  have hzv : ∀ w : World, (zeroValue 36).run Try.prog w = .ok (.agg #[.int .u64 0, .int .i64 0, .int .i64 0, .int .i64 0, .int .i64 0, .int .i64 0, .bool false]) w := fun w => by simp [zeroValue, typeInfo, hi0, hz0]
  have HZV := Lib.hid hzv
  clear hzv hz0 hz1 hz2 hi0 i0
  obtain ⟨a, c, rfl⟩ := h.shape
  have hle := h.le'
  have hmm := @run_makeMap Try.prog
  by_cases h64 : 64 < l.length
  · have d64 : decide ((64 : Int) < (l.length : Int)) = true := decide_eq_true (by omega)
    have HE := Lib.hid (dof_many (nx := nx) h64)
    clear h64
    go_enter Try.func20, Try.ntmps20
    go_wp2_with fail
    go_ret2
    exact .inl ⟨by rw [HE.out]; decide, by rw [HE.out]; rfl, Below.refl _ _⟩
  have d64 : decide ((64 : Int) < (l.length : Int)) = false := decide_eq_false (by omega)
  by_cases hn1 : nx < 1
  · have e1 : decide (nx < 1) = true := decide_eq_true hn1
    have HE := Lib.hid (dof_next h64 (.inl hn1))
    clear hn1
    go_enter Try.func20, Try.ntmps20
    go_wp2_with fail
    go_ret2
    exact .inl ⟨by rw [HE.out]; decide, by rw [HE.out]; rfl, Below.refl _ _⟩
  have e1 : decide (nx < 1) = false := decide_eq_false hn1
  by_cases hn2 : 4611686018427387904 < nx
  · have e2 : decide (4611686018427387904 < nx) = true := decide_eq_true hn2
    have HE := Lib.hid (dof_next h64 (.inr hn2))
    clear hn1 hn2
    go_enter Try.func20, Try.ntmps20
    go_wp2_with fail
    go_ret2
    exact .inl ⟨by rw [HE.out]; decide, by rw [HE.out]; rfl, Below.refl _ _⟩
  have e2 : decide (4611686018427387904 < nx) = false := decide_eq_false hn2
  have HN := Lib.hid (show ¬ (nx < 1 ∨ 4611686018427387904 < nx) by omega)
  clear hn1 hn2
  have hs0 := ((Sep.start w).newDMap .u64 Du.id Du.val).newCells #[.map (some w.heap.size), .int .u64 nx] 64
  simp only [World.size_alloc] at hs0
  obtain ⟨bm, hbm⟩ : ∃ bm, bm = w.heap.size := ⟨_, rfl⟩
  have HBM := Lib.hid hbm
  go_enter Try.func20, Try.ntmps20
  go_wp2_with fail
  rw [← hbm] at hs0 ⊢
  clear hbm
  refine wp_loopM [none, none, none, none, some 4, some 5, none, some 7, none, some 9, none, none, none, none, none, none, none, none, none, none, none, none, none, none, none, none, none, some 27, some 28, some 29, some 30, some 31, some 32, some 33, some 34, some 35, some 36, some 37, some 38, some 39, some 40, some 41, some 42, some 43, some 44, some 45, some 46, some 47, some 48, some 49, some 50, some 51, some 52, some 53, some 54, some 55, some 56, some 57, none, none, none, none, none, none, none, none, none, none] (fun (r : Nat) (f : Nat → Value) (wr : World) => (fun (va v : Value) => ∃ i : Nat, va = .int .u64 (aheadL l i) ∧ v = .int .i64 i ∧ i ≤ l.length ∧ r = l.length - i ∧ Hid (∀ j, j < i → okId l nx j = true) ∧ Sep w wr [dueO (bm + 1) bm nx, dueT bm (l.take i)]) (f 7) (f 27)) (l.length) (by kernel_rfl) ?atStart3 ?round3
  case' atStart3 => (try dsimp only [nthV])
  case' round3 =>
    intro gk f wr l hl hrel J1 K1 hJ1 hK1
    (try simp only [mask] at hl)
    generalize f 7 = u7 at hl hrel
    generalize f 27 = u27 at hl hrel
    subst hl
    (try dsimp only at hrel)
  case atStart3 => exact ⟨0, rfl, rfl, Nat.zero_le _, rfl, Lib.hid (fun j hj => by omega), hs0⟩
  case round3 =>
    clear hs0
    obtain ⟨i, rfl, rfl, hi, rfl, HA, hs⟩ := hrel
    by_cases hlt : i < l.length
    · obtain ⟨b1, o1, e1, hb1, hc1⟩ := (hs.rdG h).at i hlt
      subst e1
      obtain ⟨x, hx⟩ : ∃ x, x = l[i] := ⟨_, rfl⟩
      rw [← hx] at hc1
      have HX := Lib.hid hx
      have HAT := Lib.hid (show aheadL l (i + 1) = x.id by simp [aheadL, hlt, hx])
      have HTK := Lib.hid (show l.take (i + 1) = l.take i ++ [x] by rw [hx]; exact List.take_succ_eq_append_getElem hlt)
      obtain ⟨hah, hup⟩ := ids_up i HA.out hi
      have HUP := Lib.hid hup
      obtain ⟨A, hA⟩ : ∃ A, A = aheadL l i := ⟨_, rfl⟩
      rw [← hA] at HUP hah ⊢
      have HAA := Lib.hid hA
      clear hx hup hA
      have hn := heap_alloc_new wr (.cells (duR.cells x).toArray 36)
      have RM := Lib.hid (dmay_any x (wr.alloc (.cells (duR.cells x).toArray 36)))
      obtain ⟨id, f, t, xx, we, u, hh⟩ := x
      have x0 := hc1 0 (by decide)
      have x1 := hc1 1 (by decide)
      have x2 := hc1 2 (by decide)
      have x3 := hc1 3 (by decide)
      have x4 := hc1 4 (by decide)
      have x5 := hc1 5 (by decide)
      have x6 := hc1 6 (by decide)
      simp only [duR, Nat.add_zero, List.getElem?_cons_zero, List.getElem?_cons_succ] at x0 x1 x2 x3 x4 x5 x6
      clear hc1
      dsimp only [Du.val, duR] at RM hn
      replace hs := hs.newCells #[.int .u64 id, .int .i64 f, .int .i64 t, .int .i64 xx, .int .i64 we, .int .i64 u, .bool hh] 36
      cases hm : mayD ⟨id, f, t, xx, we, u, hh⟩
      · have HE := Lib.hid (dof_bad (nx := nx) h64 hlt (by simp only [okId, List.getD_eq_getElem?_getD, List.getElem?_eq_getElem hlt, Option.getD_some]; rw [← HX.out]; simp [hm]))
        rw [hm] at RM
        clear hm
        go_wp2_with fail
        refine (RM.out).mono ?_
        rintro en w1 ⟨rfl, hb⟩
        have y0 := (hb.cell (p := ⟨wr.heap.size, 0, none⟩) (lt_of hn)).trans (cell_of hn 0)
        have y1 := (hb.cell (p := ⟨wr.heap.size, 1, none⟩) (lt_of hn)).trans (cell_of hn 1)
        have y2 := (hb.cell (p := ⟨wr.heap.size, 2, none⟩) (lt_of hn)).trans (cell_of hn 2)
        have y3 := (hb.cell (p := ⟨wr.heap.size, 3, none⟩) (lt_of hn)).trans (cell_of hn 3)
        have y4 := (hb.cell (p := ⟨wr.heap.size, 4, none⟩) (lt_of hn)).trans (cell_of hn 4)
        have y5 := (hb.cell (p := ⟨wr.heap.size, 5, none⟩) (lt_of hn)).trans (cell_of hn 5)
        have y6 := (hb.cell (p := ⟨wr.heap.size, 6, none⟩) (lt_of hn)).trans (cell_of hn 6)
        simp only [List.getElem?_toArray, List.getElem?_cons_zero, List.getElem?_cons_succ] at y0 y1 y2 y3 y4 y5 y6
        clear x0 x1 x2 x3 x4 x5 x6
        go_wp2_with fail
        go_ret2
        exact .inl ⟨by rw [HE.out]; decide, by rw [HE.out]; rfl, (hs.belowStep hb).tail.below⟩
      rw [hm] at RM
      by_cases hid : A < id
      rotate_left
      · have HE := Lib.hid (dof_bad (nx := nx) h64 hlt (by simp only [okId, List.getD_eq_getElem?_getD, List.getElem?_eq_getElem hlt, Option.getD_some]; rw [← HX.out]; simp [show ¬ aheadL l i < id by rw [← HAA.out]; exact hid]))
        have e3 : decide (id ≤ A) = true := decide_eq_true (by omega)
        clear hid hm
        go_wp2_with fail
        refine (RM.out).mono ?_
        rintro en w1 ⟨rfl, hb⟩
        have y0 := (hb.cell (p := ⟨wr.heap.size, 0, none⟩) (lt_of hn)).trans (cell_of hn 0)
        have y1 := (hb.cell (p := ⟨wr.heap.size, 1, none⟩) (lt_of hn)).trans (cell_of hn 1)
        have y2 := (hb.cell (p := ⟨wr.heap.size, 2, none⟩) (lt_of hn)).trans (cell_of hn 2)
        have y3 := (hb.cell (p := ⟨wr.heap.size, 3, none⟩) (lt_of hn)).trans (cell_of hn 3)
        have y4 := (hb.cell (p := ⟨wr.heap.size, 4, none⟩) (lt_of hn)).trans (cell_of hn 4)
        have y5 := (hb.cell (p := ⟨wr.heap.size, 5, none⟩) (lt_of hn)).trans (cell_of hn 5)
        have y6 := (hb.cell (p := ⟨wr.heap.size, 6, none⟩) (lt_of hn)).trans (cell_of hn 6)
        simp only [List.getElem?_toArray, List.getElem?_cons_zero, List.getElem?_cons_succ] at y0 y1 y2 y3 y4 y5 y6
        clear x0 x1 x2 x3 x4 x5 x6
        go_wp2_with fail
        go_ret2
        exact .inl ⟨by rw [HE.out]; decide, by rw [HE.out]; rfl, (hs.belowStep hb).tail.below⟩
      have e3 : decide (id ≤ A) = false := decide_eq_false (by omega)
      by_cases hnx : id < nx
      rotate_left
      · have HE := Lib.hid (dof_bad (nx := nx) h64 hlt (by simp only [okId, List.getD_eq_getElem?_getD, List.getElem?_eq_getElem hlt, Option.getD_some]; rw [← HX.out]; simp [hnx]))
        have e4 : decide (nx ≤ id) = true := decide_eq_true (by omega)
        clear hid hm
        go_wp2_with fail
        refine (RM.out).mono ?_
        rintro en w1 ⟨rfl, hb⟩
        have y0 := (hb.cell (p := ⟨wr.heap.size, 0, none⟩) (lt_of hn)).trans (cell_of hn 0)
        have y1 := (hb.cell (p := ⟨wr.heap.size, 1, none⟩) (lt_of hn)).trans (cell_of hn 1)
        have y2 := (hb.cell (p := ⟨wr.heap.size, 2, none⟩) (lt_of hn)).trans (cell_of hn 2)
        have y3 := (hb.cell (p := ⟨wr.heap.size, 3, none⟩) (lt_of hn)).trans (cell_of hn 3)
        have y4 := (hb.cell (p := ⟨wr.heap.size, 4, none⟩) (lt_of hn)).trans (cell_of hn 4)
        have y5 := (hb.cell (p := ⟨wr.heap.size, 5, none⟩) (lt_of hn)).trans (cell_of hn 5)
        have y6 := (hb.cell (p := ⟨wr.heap.size, 6, none⟩) (lt_of hn)).trans (cell_of hn 6)
        simp only [List.getElem?_toArray, List.getElem?_cons_zero, List.getElem?_cons_succ] at y0 y1 y2 y3 y4 y5 y6
        clear x0 x1 x2 x3 x4 x5 x6
        go_wp2_with fail
        go_ret2
        exact .inl ⟨by rw [HE.out]; decide, by rw [HE.out]; rfl, (hs.belowStep hb).tail.below⟩
      have e4 : decide (nx ≤ id) = false := decide_eq_false (by omega)
      have HA2 := Lib.hid (show ∀ j, j < i + 1 → okId l nx j = true from fun j hj => by
        by_cases hji : j = i
        · subst hji
          simp only [okId, List.getD_eq_getElem?_getD, List.getElem?_eq_getElem hlt, Option.getD_some]
          rw [← HX.out, ← HAA.out]
          simp [hm, hid, hnx]
        · exact HA.out j (by omega))
      have HNEW := Lib.hid (show ∀ d ∈ l.take i, d.id ≠ id from fun d hd e => by have := HUP.out d hd; omega)
      have HWF := Lib.hid (show (Lit.int .u64 id).wf = true from WalkArith.wf_u64 (by have := HN.out; omega))
      clear hm hid hnx
      go_wp2_with fail
      refine (RM.out).mono ?_
      rintro en w1 ⟨rfl, hb⟩
      have y0 := (hb.cell (p := ⟨wr.heap.size, 0, none⟩) (lt_of hn)).trans (cell_of hn 0)
      have y1 := (hb.cell (p := ⟨wr.heap.size, 1, none⟩) (lt_of hn)).trans (cell_of hn 1)
      have y2 := (hb.cell (p := ⟨wr.heap.size, 2, none⟩) (lt_of hn)).trans (cell_of hn 2)
      have y3 := (hb.cell (p := ⟨wr.heap.size, 3, none⟩) (lt_of hn)).trans (cell_of hn 3)
      have y4 := (hb.cell (p := ⟨wr.heap.size, 4, none⟩) (lt_of hn)).trans (cell_of hn 4)
      have y5 := (hb.cell (p := ⟨wr.heap.size, 5, none⟩) (lt_of hn)).trans (cell_of hn 5)
      have y6 := (hb.cell (p := ⟨wr.heap.size, 6, none⟩) (lt_of hn)).trans (cell_of hn 6)
      simp only [List.getElem?_toArray, List.getElem?_cons_zero, List.getElem?_cons_succ] at y0 y1 y2 y3 y4 y5 y6
      replace hs := hs.belowStep hb
      have m0 := cell_of (hs.cells 1 rfl) 0
      simp only [List.getElem?_toArray, List.getElem?_cons_zero, List.getElem?_cons_succ] at m0
      obtain ⟨ck, w2, hent, hs2⟩ := (hs.drew).entryNew (P := Try.prog) 2 rfl keyedU Try.underlying28 Try.underlying62 HZV.out id HWF.out HNEW.out
      obtain ⟨w3, hfil, hs3⟩ := hs2.entryFill (P := Try.prog) (t := 62) 2 (⟨id, f, t, xx, we, u, hh⟩ : Du) rfl
      simp only [List.set_cons_succ, List.set_cons_zero] at hs3
      dsimp only [Du.val] at hfil
      unfold goInt at hfil hent
      have HS2 := Lib.hid hs2
      have HS3 := Lib.hid hs3
      have hCW := (show (fun W : World => W.cell? ⟨wr.heap.size, 0, none⟩ = some (.int .u64 id) ∧ W.cell? ⟨wr.heap.size, 1, none⟩ = some (.int .i64 f) ∧ W.cell? ⟨wr.heap.size, 2, none⟩ = some (.int .i64 t) ∧ W.cell? ⟨wr.heap.size, 3, none⟩ = some (.int .i64 xx) ∧ W.cell? ⟨wr.heap.size, 4, none⟩ = some (.int .i64 we) ∧ W.cell? ⟨wr.heap.size, 5, none⟩ = some (.int .i64 u) ∧ W.cell? ⟨wr.heap.size, 6, none⟩ = some (.bool hh)) _ from ⟨cell_of (hs.drew.cells 0 rfl) 0, cell_of (hs.drew.cells 0 rfl) 1, cell_of (hs.drew.cells 0 rfl) 2, cell_of (hs.drew.cells 0 rfl) 3, cell_of (hs.drew.cells 0 rfl) 4, cell_of (hs.drew.cells 0 rfl) 5, cell_of (hs.drew.cells 0 rfl) 6⟩)
      clear x0 x1 x2 x3 x4 x5 x6 RM hb hb1 hn hs hs2 hs3
      go_wp2_with fail
      refine Mix.region [0, 0, 0, 0, 0, 0, 1, 1, 1, 2, 0, 2, 0] (fun W : World => W.cell? ⟨wr.heap.size, 0, none⟩ = some (.int .u64 id) ∧ W.cell? ⟨wr.heap.size, 1, none⟩ = some (.int .i64 f) ∧ W.cell? ⟨wr.heap.size, 2, none⟩ = some (.int .i64 t) ∧ W.cell? ⟨wr.heap.size, 3, none⟩ = some (.int .i64 xx) ∧ W.cell? ⟨wr.heap.size, 4, none⟩ = some (.int .i64 we) ∧ W.cell? ⟨wr.heap.size, 5, none⟩ = some (.int .i64 u) ∧ W.cell? ⟨wr.heap.size, 6, none⟩ = some (.bool hh)) (by kernel_rfl) (by kernel_rfl) hCW ?_
      simp only [List.zip_cons_cons, List.zip_nil_right]
      iterate 6 (refine Mix.step0 fun K hK => ?_; go_simp; (try (go_bits; try go_simp)); first | ((with_reducible refine hK _ _ ?_); clear hK K) | ((try (simp only [IntWalk.iteOmega]; try go_simp)); (try go_bits); (with_reducible refine hK _ _ ?_); clear hK K))
      (refine Mix.step1 fun K hK => ?_; go_simp; refine ⟨fun W => ?_, hK _ _ ?_⟩; (intro hW1; (try intro hW2); (try intro hW3); (try intro hW4); (try intro hW5); (try intro hW6); (try intro hW7); (try intro hW8); go_simp); clear hK K)
      (refine Mix.step1 fun K hK => ?_; go_simp; (try (go_bits; try go_simp)); first | ((with_reducible refine hK _ _ ?_); clear hK K) | ((try (simp only [IntWalk.iteOmega]; try go_simp)); (try go_bits); (with_reducible refine hK _ _ ?_); clear hK K))
      (refine Mix.step1 fun K hK => ?_; go_simp; refine ⟨fun W => ?_, hK _ _ ?_⟩; (intro hW1; (try intro hW2); (try intro hW3); (try intro hW4); (try intro hW5); (try intro hW6); (try intro hW7); (try intro hW8); go_simp); clear hK K)
      refine Mix.step2n (by first | rfl | simp [Region.wanted, yielded]) fun K hK => ?_
      go_wp2_with fail
      have hCW := (show (fun W : World => W.cell? ⟨wr.heap.size, 0, none⟩ = some (.int .u64 id) ∧ W.cell? ⟨wr.heap.size, 1, none⟩ = some (.int .i64 f) ∧ W.cell? ⟨wr.heap.size, 2, none⟩ = some (.int .i64 t) ∧ W.cell? ⟨wr.heap.size, 3, none⟩ = some (.int .i64 xx) ∧ W.cell? ⟨wr.heap.size, 4, none⟩ = some (.int .i64 we) ∧ W.cell? ⟨wr.heap.size, 5, none⟩ = some (.int .i64 u) ∧ W.cell? ⟨wr.heap.size, 6, none⟩ = some (.bool hh)) _ from ⟨cell_of (HS2.out.cells 0 rfl) 0, cell_of (HS2.out.cells 0 rfl) 1, cell_of (HS2.out.cells 0 rfl) 2, cell_of (HS2.out.cells 0 rfl) 3, cell_of (HS2.out.cells 0 rfl) 4, cell_of (HS2.out.cells 0 rfl) 5, cell_of (HS2.out.cells 0 rfl) 6⟩)
      refine Mix.post_mk (C := (fun W : World => W.cell? ⟨wr.heap.size, 0, none⟩ = some (.int .u64 id) ∧ W.cell? ⟨wr.heap.size, 1, none⟩ = some (.int .i64 f) ∧ W.cell? ⟨wr.heap.size, 2, none⟩ = some (.int .i64 t) ∧ W.cell? ⟨wr.heap.size, 3, none⟩ = some (.int .i64 xx) ∧ W.cell? ⟨wr.heap.size, 4, none⟩ = some (.int .i64 we) ∧ W.cell? ⟨wr.heap.size, 5, none⟩ = some (.int .i64 u) ∧ W.cell? ⟨wr.heap.size, 6, none⟩ = some (.bool hh))) (by first | exact hCW | exact HCW.out _) (hK _ _ ?_)
      clear hK K
      iterate 1 (refine Mix.step0 fun K hK => ?_; go_simp; (try (go_bits; try go_simp)); first | ((with_reducible refine hK _ _ ?_); clear hK K) | ((try (simp only [IntWalk.iteOmega]; try go_simp)); (try go_bits); (with_reducible refine hK _ _ ?_); clear hK K))
      refine Mix.step2n (by first | rfl | simp [Region.wanted, yielded]) fun K hK => ?_
      go_wp2_with fail
      have hCW := (show (fun W : World => W.cell? ⟨wr.heap.size, 0, none⟩ = some (.int .u64 id) ∧ W.cell? ⟨wr.heap.size, 1, none⟩ = some (.int .i64 f) ∧ W.cell? ⟨wr.heap.size, 2, none⟩ = some (.int .i64 t) ∧ W.cell? ⟨wr.heap.size, 3, none⟩ = some (.int .i64 xx) ∧ W.cell? ⟨wr.heap.size, 4, none⟩ = some (.int .i64 we) ∧ W.cell? ⟨wr.heap.size, 5, none⟩ = some (.int .i64 u) ∧ W.cell? ⟨wr.heap.size, 6, none⟩ = some (.bool hh)) _ from ⟨cell_of (HS3.out.cells 0 rfl) 0, cell_of (HS3.out.cells 0 rfl) 1, cell_of (HS3.out.cells 0 rfl) 2, cell_of (HS3.out.cells 0 rfl) 3, cell_of (HS3.out.cells 0 rfl) 4, cell_of (HS3.out.cells 0 rfl) 5, cell_of (HS3.out.cells 0 rfl) 6⟩)
      refine Mix.post_mk (C := (fun W : World => W.cell? ⟨wr.heap.size, 0, none⟩ = some (.int .u64 id) ∧ W.cell? ⟨wr.heap.size, 1, none⟩ = some (.int .i64 f) ∧ W.cell? ⟨wr.heap.size, 2, none⟩ = some (.int .i64 t) ∧ W.cell? ⟨wr.heap.size, 3, none⟩ = some (.int .i64 xx) ∧ W.cell? ⟨wr.heap.size, 4, none⟩ = some (.int .i64 we) ∧ W.cell? ⟨wr.heap.size, 5, none⟩ = some (.int .i64 u) ∧ W.cell? ⟨wr.heap.size, 6, none⟩ = some (.bool hh))) (by first | exact hCW | exact HCW.out _) (hK _ _ ?_)
      clear hK K
      iterate 1 (refine Mix.step0 fun K hK => ?_; go_simp; (try (go_bits; try go_simp)); first | ((with_reducible refine hK _ _ ?_); clear hK K) | ((try (simp only [IntWalk.iteOmega]; try go_simp)); (try go_bits); (with_reducible refine hK _ _ ?_); clear hK K))
      refine Mix.done ?_
      go_wp2_with fail
      refine Round.intro (l.length - (i + 1)) ?measure4 (by kernel_rfl) (hJ1 _ _ _ ?rel4)
      case' rel4 => (try dsimp only [nthV])
      case measure4 => omega
      case rel4 => exact ⟨i + 1, by rw [HAT.out], by go_num, hlt, rfl, HA2, by rw [HTK.out]; exact HS3.out.tail⟩
    · obtain rfl : i = l.length := by omega
      rw [List.take_length] at hs
      have HD := Lib.hid (dof_ok h64 HN.out HA.out)
      have AM := Lib.hid (amounts_any hs 0 1 (bm + 1) bm nx l rfl rfl (by omega))
      clear HA
      go_wp2_with fail
      refine (AM.out).mono ?_
      rintro en w2 ⟨u, ams, rfl, hp, hs2⟩
      have HE := Lib.hid (show dofE l nx = sumE ams by rw [HD.out, (sumE_perm hp).1])
      have HRD := Lib.hid (hs2.rdInts 0 rfl)
      replace hs2 := hs2.tail
      clear hp AM HD hs
      go_wp2_with fail
      refine (sum_any u ams _ HRD.out).mono ?_
      rintro en w3 ⟨rfl, rfl⟩
      obtain ⟨E, hE⟩ : ∃ E, E = sumE ams := ⟨_, rfl⟩
      rw [← hE] at HE ⊢
      clear hE
      by_cases h0 : E = 0
      · subst h0
        go_wp2_with fail
        go_ret2
        exact .inr ⟨HE.out, _, _, rfl, hs2⟩
      · have e5 : (E != 0) = true := by simpa using h0
        have HE0 := Lib.hid h0
        clear h0
        go_wp2_with fail
        go_ret2
        exact .inl ⟨by rw [HE.out]; exact HE0.out, by rw [HE.out]; rfl, hs2.below⟩
end Go.Proofs.Ythcmkljdhhepgaa
namespace Go.BuildP
open Go Go.RowKit Go.Mem Go.MoneyP Go.NetP
/-- Dues, numbered from 1 on. -/
def numL (l : List Du) : List Du := (List.range l.length).map fun i => { l.getD i default with id := (i : Int) + 1 }
theorem num_len (l : List Du) : (numL l).length = l.length := by simp [numL]
theorem num_at {l : List Du} {i : Nat} (hi : i < l.length) : (numL l)[i]? = some { l[i] with id := (i : Int) + 1 } := by
  simp [numL, hi]
theorem num_take {l : List Du} {i : Nat} (hi : i < l.length) : (numL l).take (i + 1) = (numL l).take i ++ [{ l[i] with id := (i : Int) + 1 }] := by
  have hn : i < (numL l).length := by rw [num_len]; exact hi
  rw [List.take_succ_eq_append_getElem hn]
  have := num_at hi
  rw [List.getElem?_eq_getElem hn] at this
  rw [Option.some.inj this]
theorem num_x (l : List Du) : (numL l).map (·.x) = l.map (·.x) := by
  apply List.ext_getElem?
  intro i
  by_cases hi : i < l.length
  · rw [List.getElem?_map, num_at hi, List.getElem?_map, List.getElem?_eq_getElem hi]; rfl
  · rw [List.getElem?_eq_none (by simp [num_len]; omega), List.getElem?_eq_none (by simp; omega)]
theorem num_ok {l : List Du} {i : Nat} (hi : i < l.length) : okId (numL l) ((l.length : Int) + 1) i = mayD l[i] := by
  have h1 : (numL l).getD i default = { l[i] with id := (i : Int) + 1 } := by rw [List.getD_eq_getElem?_getD, num_at hi]; rfl
  have h2 : aheadL (numL l) i = i := by
    unfold aheadL
    by_cases h0 : i = 0
    · simp [h0]
    · rw [if_neg h0, List.getD_eq_getElem?_getD, num_at (show i - 1 < l.length by omega)]
      show ((i - 1 : Nat) : Int) + 1 = i
      omega
  unfold okId
  rw [h1, h2]
  have h3 : decide ((i : Int) < (i : Int) + 1) = true := decide_eq_true (by omega)
  have h4 : decide ((i : Int) + 1 < (l.length : Int) + 1) = true := decide_eq_true (by omega)
  show (mayD _ && decide ((i : Int) < (i : Int) + 1) && decide ((i : Int) + 1 < (l.length : Int) + 1)) = _
  rw [h3, h4, Bool.and_true, Bool.and_true]
  rfl
theorem right_prog {rooms : List Int} {l : List Du} (h1 : rooms.length ≤ 16) (h2 : mays rooms = true) (h3 : ∀ d ∈ l, inD rooms.length d = true) (hl : l.length ≤ 1000000) : rightR rooms l = (dofE (numL l) ((l.length : Int) + 1) == 0) := by
  by_cases h64 : 64 < l.length
  · rw [dof_many (by rw [num_len]; exact h64)]
    have : decide (l.length ≤ 64) = false := decide_eq_false (by omega)
    simp [rightR, this]
  · have h64' : ¬ 64 < (numL l).length := by rw [num_len]; exact h64
    by_cases hm : l.all mayD = true
    · have hm' := List.all_eq_true.1 hm
      rw [dof_ok h64' (by omega) (fun i hi => by rw [num_len] at hi; rw [num_ok hi]; exact hm' _ (List.getElem_mem hi)), num_x]
      exact right_end h1 (by omega) h2 (List.all_eq_true.2 fun d hd => by simp [goodD, hm' d hd, h3 d hd])
    · have hm' : l.all mayD = false := by simpa using hm
      rw [List.all_eq_false] at hm'
      obtain ⟨d, hd, hb⟩ := hm'
      obtain ⟨i, hi, rfl⟩ := List.getElem_of_mem hd
      rw [dof_bad h64' (by rw [num_len]; exact hi) (by rw [num_ok hi]; simpa using hb)]
      rw [good_stop hi (by simp [goodD]; intro q; exact absurd q hb)]
      rfl
end Go.BuildP
namespace Go.Proofs.Ythcmkljdhhepgaa
open Go Go.RowKit Go.Mem Go.MoneyP Go.NetP Go.BuildP
end Go.Proofs.Ythcmkljdhhepgaa
namespace Go.BuildP
open Go Go.RowKit Go.Mem Go.MoneyP Go.NetP
/-- Pays that may be, of these dues. -/
structure PayQ (O : List Du) (ps : List Int) : Prop where
  len : O.length = ps.length
  may : ∀ q ∈ O.zip ps, MayD q.1
  all : (O.zip ps).all payB = true
  sum : ((O.zip ps).map (·.1.x)).sum ≤ 4503599627370496
theorem zip_at {O : List Du} {ps : List Int} (hl : O.length = ps.length) {i : Nat} (hi : i < O.length) : ∃ hz : i < (O.zip ps).length, (O.zip ps)[i] = (O[i], ps.getD i 0) := by
  have hz : i < (O.zip ps).length := by rw [List.length_zip]; omega
  refine ⟨hz, ?_⟩
  rw [List.getElem_zip]
  simp [show i < ps.length by omega]
theorem worth_step {O : List Du} {ps : List Int} (h : PayQ O ps) {i : Nat} (hi : i < O.length) :
    worthQ ((O.zip ps).take (i + 1)) = worthQ ((O.zip ps).take i) + (O[i]).w * ps.getD i 0 ∧ 0 ≤ worthQ ((O.zip ps).take i) ∧ worthQ ((O.zip ps).take i) ≤ 4503599627370496000 ∧ 0 ≤ (O[i]).w * ps.getD i 0 ∧ (O[i]).w * ps.getD i 0 ≤ 4503599627370496000 := by
  obtain ⟨hz, he⟩ := zip_at h.len hi
  have hmem := List.getElem_mem hz
  rw [he] at hmem
  have hm : MayD (O[i]) := h.may _ hmem
  have hp : 0 ≤ ps.getD i 0 ∧ ps.getD i 0 ≤ (O[i]).x := by
    have := List.all_eq_true.1 h.all _ hmem
    simpa [payB] using this
  have e1 : worthQ ((O.zip ps).take (i + 1)) = worthQ ((O.zip ps).take i) + (O[i]).w * ps.getD i 0 := by
    unfold worthQ
    rw [List.take_succ_eq_append_getElem hz, List.map_append, List.sum_append, he]
    simp
  have hb := worth_bound ((O.zip ps).take i) (fun q hq => h.may q (List.mem_of_mem_take hq)) (List.all_eq_true.2 fun q hq => List.all_eq_true.1 h.all q (List.mem_of_mem_take hq))
  have hs : (((O.zip ps).take i).map (·.1.x)).sum ≤ 4503599627370496 := by
    have h1 := h.sum
    have h2 : ((O.zip ps).map (·.1.x)).sum = (((O.zip ps).take i).map (·.1.x)).sum + (((O.zip ps).drop i).map (·.1.x)).sum := by
      rw [← List.sum_append, ← List.map_append, List.take_append_drop]
    have h3 : 0 ≤ (((O.zip ps).drop i).map (·.1.x)).sum := sum_nonneg fun x hx => by
      obtain ⟨q, hq, rfl⟩ := List.mem_map.1 hx
      have := (h.may q (List.mem_of_mem_drop hq)).x0
      omega
    omega
  have hxb := hm.x1
  have h2 : 0 ≤ (O[i]).w * ps.getD i 0 := Int.mul_nonneg (by have := hm.w0; omega) hp.1
  have h3 : (O[i]).w * ps.getD i 0 ≤ 1000 * (O[i]).x := Int.mul_le_mul hm.w1 hp.2 hp.1 (by omega)
  refine ⟨e1, hb.1, by omega, h2, by omega⟩
end Go.BuildP
namespace Go.Proofs.Ythcmkljdhhepgaa
open Go Go.RowKit Go.Mem Go.MoneyP Go.NetP Go.BuildP
end Go.Proofs.Ythcmkljdhhepgaa
namespace Go.BuildP
/-- How many of what flows are paid. -/
def payN (d : Int) (len : Nat) : Nat := min d.toNat len
end Go.BuildP
namespace Go.Proofs.Ythcmkljdhhepgaa
open Go Go.RowKit Go.Mem Go.MoneyP Go.NetP Go.BuildP
/-- The first k of a row that is read. -/
theorem Rd.takeK {k : IntKind} {w : World} {a : Option Addr} {c : Nat} {xs : List Int} (h : Rd k w (.slice a xs.length c) xs) (m : Nat) (hm : m ≤ xs.length) : Rd k w (.slice a m c) (xs.take m) := by
  obtain ⟨a', c', e, hl, hn, hc⟩ := h
  injection e with e1 e2 e3
  subst e1; subst e3
  have hml : (xs.take m).length = m := by rw [List.length_take, Nat.min_eq_left hm]
  refine ⟨a, c, by rw [hml], by rw [hml]; omega, hn, fun h0 => ?_⟩
  obtain ⟨b, off, e, hb, hcell⟩ := hc (by omega)
  refine ⟨b, off, e, hb, fun i hi => ?_⟩
  rw [hcell i (by omega)]
  congr 2
  rw [List.getD_eq_getElem?_getD, List.getD_eq_getElem?_getD, List.getElem?_take, if_pos (by omega)]
end Go.Proofs.Ythcmkljdhhepgaa
