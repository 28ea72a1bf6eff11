/-
  Add, Get and Of, the program's and the reference's, walked.
-/
import Derived.Test.YtfnkmkfkomhhnaaVC
import Derived.Test.YtfnkmkfkomhhnaaWin
namespace Go.ArchP
open Go Go.RowKit Go.Mem Go.NetP Go.CertP Go.Proofs.Ytfnkmkfkomhhnaa
/-- A round with another number. -/
def numR (x : Ro) (no : Int) : Ro := { x with no := no }
/-- Those that are kept, with one more. -/
def newY (ys : List Ro) (x : Ro) : List Ro := (ys ++ [x]).drop ((ys ++ [x]).length - 4)
/-- May these be an archive's rounds, the last one's number being no? -/
def ofB (l : List Ro) (no : Nat) : Bool := decide (no ≤ 4611686018427387904) && decide (l.length ≤ no) && (List.range l.length).all fun i => mayC (l.getD i default).co && decide ((l.getD i default).no = ((no - l.length + 1 + i : Nat) : Int))
def ofE (l : List Ro) (no : Nat) : Int := if 4 < l.length then 6 else if ofB l no = true then 0 else 1
def okI (l : List Ro) (no i : Nat) : Prop := mayC (l.getD i default).co = true ∧ (l.getD i default).no = ((no - l.length + 1 + i : Nat) : Int)
theorem of_many {l : List Ro} {no : Nat} (h : 4 < l.length) : ofE l no = 6 := by simp [ofE, h]
theorem of_yes {l : List Ro} {no : Nat} (h : l.length ≤ 4) (h1 : no ≤ 4611686018427387904) (h2 : l.length ≤ no) (h3 : ∀ i, i < l.length → okI l no i) : ofE l no = 0 := by
  have : ofB l no = true := by
    simp only [ofB, Bool.and_eq_true, decide_eq_true_eq, List.all_eq_true, List.mem_range]
    exact ⟨⟨h1, h2⟩, fun i hi => h3 i hi⟩
  simp [ofE, this]; omega
theorem of_no {l : List Ro} {no : Nat} (h : l.length ≤ 4) (h1 : ¬ no ≤ 4611686018427387904 ∨ ¬ l.length ≤ no ∨ ∃ i, i < l.length ∧ ¬ okI l no i) : ofE l no = 1 := by
  have : ofB l no = false := by
    rw [Bool.eq_false_iff]
    intro hb
    simp only [ofB, Bool.and_eq_true, decide_eq_true_eq, List.all_eq_true, List.mem_range] at hb
    rcases h1 with q | q | ⟨i, hi, q⟩
    · exact q hb.1.1
    · exact q hb.1.2
    · exact q (hb.2 i hi)
  simp [ofE, this]; omega
theorem newY_le (ys : List Ro) (x : Ro) : (newY ys x).length ≤ 4 := by unfold newY; rw [List.length_drop]; omega
end Go.ArchP
namespace Go.Proofs.Ytfnkmkfkomhhnaa
open Go Go.RowKit Go.Mem Go.NetP Go.CertP Go.ArchP
/-- The reference's archive: its block, its row. -/
abbrev refC (b : Nat) (v : Value) (N : Nat) : Thing := cellsT b #[v, .int .u64 N] 55
set_option maxHeartbeats 2000000 in
set_option maxRecDepth 100000 in
theorem rget_no (b : Nat) (v : Value) (N : Int) (ys : List Ro) (q : Nat) (w : World) (hb : w.heap[b]? = some (.cells #[v, .int .u64 N] 55 (0, 0))) (h : RdG roR w v ys) (hle : ys.length ≤ 4) (hq : ∀ j (hj : j < ys.length), (ys[j]).no ≠ q) :
    Calls Try.prog 21 #[.pointer (some ⟨b, 0, none⟩), .int .u64 q] w fun en w' => en = .returned (.tuple #[zeroV, .bool false]) ∧ Below w.heap.size w w' := by
  obtain ⟨a, c, rfl⟩ := h.shape
  have HQ := Lib.hid hq
  have HB := Lib.hid hb
  clear hq hb
  have hs0 := (Sep.start w).newCells #[.int .u64 0, .int .i64 0, .bool false, .slice none 0 0, .int .i64 0, .slice none 0 0, .slice none 0 0, .slice none 0 0] 39
  have FIN := Lib.hid (fun (W : World) (L : List Thing) (h : Sep w W L) => (⟨(h.cell (lt_of HB.out)).trans (cell_of HB.out 0), trivial⟩ : W.cell? ⟨b, 0, none⟩ = some (.slice a ys.length c) ∧ True))
  go_enter Try.func21, Try.ntmps21
  go_wp2_with fail
  refine wp_loopM [none, none, none, none, none, some 5, some 6, some 7, some 8, some 9, some 10, some 11, some 12, some 13, some 14, some 15, some 16, some 17, some 18, some 19, some 20, some 21, some 22, some 23, some 24, some 25, some 26, some 27, some 28, some 29, some 30, some 31, some 32, none] (fun (r : Nat) (f : Nat → Value) (wr : World) => (fun (v : Value) => ∃ j : Nat, v = .int .i64 j ∧ j ≤ ys.length ∧ r = ys.length - j ∧ wr = w.alloc (.cells #[.int .u64 0, .int .i64 0, .bool false, .slice none 0 0, .int .i64 0, .slice none 0 0, .slice none 0 0, .slice none 0 0] 39)) (f 6)) (ys.length) (by kernel_rfl) ?atStart1 ?round1
  case' atStart1 => (try dsimp only [nthV])
  case' round1 =>
    intro gk f wr l hl hrel J1 K1 hJ1 hK1
    (try simp only [mask] at hl)
    generalize f 6 = u6 at hl hrel
    subst hl
    (try dsimp only at hrel)
  case atStart1 => exact ⟨0, rfl, Nat.zero_le _, rfl, rfl⟩
  case round1 =>
    obtain ⟨j, rfl, hj, rfl, rfl⟩ := hrel
    obtain ⟨n0, _⟩ := FIN.out _ _ hs0
    by_cases hlt : j < ys.length
    · obtain ⟨b1, o1, e1, hb1, hc1⟩ := (hs0.rdG h).at j hlt
      subst e1
      have y0 := hc1 0 (by decide)
      have hne := HQ.out j hlt
      generalize ys[j] = y at y0 hne
      simp only [roR, Nat.add_zero, List.getElem?_cons_zero, List.getElem?_cons_succ] at y0
      have e0 : (y.no == (q : Int)) = false := by simpa using hne
      clear hc1 hne
      go_wp2_with fail
      refine Round.intro (ys.length - (j + 1)) ?measure2 (by kernel_rfl) (hJ1 _ _ _ ?rel2)
      case' rel2 => (try dsimp only [nthV])
      case measure2 => omega
      case rel2 => exact ⟨j + 1, by go_num, hlt, rfl, rfl⟩
    · have z0 := cell_of (hs0.cells 0 rfl) 0
      have z1 := cell_of (hs0.cells 0 rfl) 1
      have z2 := cell_of (hs0.cells 0 rfl) 2
      have z3 := cell_of (hs0.cells 0 rfl) 3
      have z4 := cell_of (hs0.cells 0 rfl) 4
      have z5 := cell_of (hs0.cells 0 rfl) 5
      have z6 := cell_of (hs0.cells 0 rfl) 6
      have z7 := cell_of (hs0.cells 0 rfl) 7
      simp only [List.getElem?_toArray, List.getElem?_cons_zero, List.getElem?_cons_succ] at z0 z1 z2 z3 z4 z5 z6 z7
      have qf := fun j => frozen_of (hs0.cells 0 rfl) j
      go_wp2_with fail
      exact bodyPost_ret (v := .tuple #[zeroV, .bool false]) (by simp [zeroV, results, Try.results21, go_sem, z0, z1, z2, z3, z4, z5, z6, z7]) rfl ⟨rfl, hs0.below⟩
set_option maxHeartbeats 4000000 in
set_option maxRecDepth 100000 in
theorem rget_yes (b : Nat) (v : Value) (N : Int) (ys : List Ro) (q k : Nat) (w : World) (hb : w.heap[b]? = some (.cells #[v, .int .u64 N] 55 (0, 0))) (h : RdG roR w v ys) (hle : ys.length ≤ 4) (hk : k < ys.length) (hkq : (ys[k]).no = q) (hq : ∀ j (hj : j < k), (ys[j]'(Nat.lt_trans hj hk)).no ≠ q) :
    Calls Try.prog 21 #[.pointer (some ⟨b, 0, none⟩), .int .u64 q] w fun en w' => en = .returned (.tuple #[(ys[k]).val, .bool true]) ∧ Below w.heap.size w w' := by
  obtain ⟨a, c, rfl⟩ := h.shape
  have HQ := Lib.hid hq
  have HB := Lib.hid hb
  have HKQ := Lib.hid hkq
  clear hq hb hkq
  have hs0 := (Sep.start w).newCells #[.int .u64 0, .int .i64 0, .bool false, .slice none 0 0, .int .i64 0, .slice none 0 0, .slice none 0 0, .slice none 0 0] 39
  have FIN := Lib.hid (fun (W : World) (L : List Thing) (h : Sep w W L) => (⟨(h.cell (lt_of HB.out)).trans (cell_of HB.out 0), trivial⟩ : W.cell? ⟨b, 0, none⟩ = some (.slice a ys.length c) ∧ True))
  go_enter Try.func21, Try.ntmps21
  go_wp2_with fail
  refine wp_loopM [none, none, none, none, none, some 5, some 6, some 7, some 8, some 9, some 10, some 11, some 12, some 13, some 14, some 15, some 16, some 17, some 18, some 19, some 20, some 21, some 22, some 23, some 24, some 25, some 26, some 27, some 28, some 29, some 30, some 31, some 32, none] (fun (r : Nat) (f : Nat → Value) (wr : World) => (fun (v : Value) => ∃ j : Nat, v = .int .i64 j ∧ j ≤ k ∧ r = ys.length - j ∧ wr = w.alloc (.cells #[.int .u64 0, .int .i64 0, .bool false, .slice none 0 0, .int .i64 0, .slice none 0 0, .slice none 0 0, .slice none 0 0] 39)) (f 6)) (ys.length) (by kernel_rfl) ?atStart3 ?round3
  case' atStart3 => (try dsimp only [nthV])
  case' round3 =>
    intro gk f wr l hl hrel J1 K1 hJ1 hK1
    (try simp only [mask] at hl)
    generalize f 6 = u6 at hl hrel
    subst hl
    (try dsimp only at hrel)
  case atStart3 => exact ⟨0, rfl, Nat.zero_le _, rfl, rfl⟩
  case round3 =>
    obtain ⟨j, rfl, hj, rfl, rfl⟩ := hrel
    obtain ⟨n0, _⟩ := FIN.out _ _ hs0
    have hlt : j < ys.length := by omega
    obtain ⟨b1, o1, e1, hb1, hc1⟩ := (hs0.rdG h).at j hlt
    subst e1
    by_cases hjk : j < k
    · have y0 := hc1 0 (by decide)
      have hne := HQ.out j hjk
      generalize ys[j] = y at y0 hne
      simp only [roR, Nat.add_zero, List.getElem?_cons_zero, List.getElem?_cons_succ] at y0
      have e0 : (y.no == (q : Int)) = false := by simpa using hne
      clear hc1 hne
      go_wp2_with fail
      refine Round.intro (ys.length - (j + 1)) ?measure4 (by kernel_rfl) (hJ1 _ _ _ ?rel4)
      case' rel4 => (try dsimp only [nthV])
      case measure4 => omega
      case rel4 => exact ⟨j + 1, by go_num, hjk, rfl, rfl⟩
    · obtain rfl : j = k := by omega
      have hkq := HKQ.out
      obtain ⟨y, hy⟩ : ∃ y, y = ys[j] := ⟨_, rfl⟩
      rw [← hy] at hc1 hkq
      have HY := Lib.hid hy
      clear hy
      obtain ⟨xno, xday, xcomp, ai, ci, ids, xn, ae, ce, es, af, cf, fl, ap, cp, pot⟩ := y
      dsimp only at hkq
      subst hkq
      have HV := Lib.hid (show (ys[j]).val = .agg #[.int .u64 q, .int .i64 xday, .bool xcomp, .slice ai ids.length ci, .int .i64 xn, .slice ae es.length ce, .slice af fl.length cf, .slice ap pot.length cp] by rw [← HY.out]; rfl)
      clear HY
      have y0 := hc1 0 (by decide)
      have y1 := hc1 1 (by decide)
      have y2 := hc1 2 (by decide)
      have y3 := hc1 3 (by decide)
      have y4 := hc1 4 (by decide)
      have y5 := hc1 5 (by decide)
      have y6 := hc1 6 (by decide)
      have y7 := hc1 7 (by decide)
      simp only [roR, Nat.add_zero, List.getElem?_cons_zero, List.getElem?_cons_succ] at y0 y1 y2 y3 y4 y5 y6 y7
      clear hc1
      have z0 := cell_of (hs0.cells 0 rfl) 0
      have z1 := cell_of (hs0.cells 0 rfl) 1
      have z2 := cell_of (hs0.cells 0 rfl) 2
      have z3 := cell_of (hs0.cells 0 rfl) 3
      have z4 := cell_of (hs0.cells 0 rfl) 4
      have z5 := cell_of (hs0.cells 0 rfl) 5
      have z6 := cell_of (hs0.cells 0 rfl) 6
      have z7 := cell_of (hs0.cells 0 rfl) 7
      simp only [List.getElem?_toArray, List.getElem?_cons_zero, List.getElem?_cons_succ] at z0 z1 z2 z3 z4 z5 z6 z7
      have qf := fun j => frozen_of (hs0.cells 0 rfl) j
      have e0 : ((q : Int) == (q : Int)) = true := by simp
      clear hjk
      go_wp2_with fail
      clear z0 z1 z2 z3 z4 z5 z6 z7 qf hs0
      have hs0 := (Sep.start w).newCells #[.int .u64 q, .int .i64 xday, .bool xcomp, .slice ai ids.length ci, .int .i64 xn, .slice ae es.length ce, .slice af fl.length cf, .slice ap pot.length cp] 39
      clear y0 y1 y2 y3 y4 y5 y6 y7
      have z0 := cell_of (hs0.cells 0 rfl) 0
      have z1 := cell_of (hs0.cells 0 rfl) 1
      have z2 := cell_of (hs0.cells 0 rfl) 2
      have z3 := cell_of (hs0.cells 0 rfl) 3
      have z4 := cell_of (hs0.cells 0 rfl) 4
      have z5 := cell_of (hs0.cells 0 rfl) 5
      have z6 := cell_of (hs0.cells 0 rfl) 6
      have z7 := cell_of (hs0.cells 0 rfl) 7
      simp only [List.getElem?_toArray, List.getElem?_cons_zero, List.getElem?_cons_succ] at z0 z1 z2 z3 z4 z5 z6 z7
      exact bodyPost_ret (v := .tuple #[.agg #[.int .u64 q, .int .i64 xday, .bool xcomp, .slice ai ids.length ci, .int .i64 xn, .slice ae es.length ce, .slice af fl.length cf, .slice ap pot.length cp], .bool true]) (by simp [results, Try.results21, go_sem, z0, z1, z2, z3, z4, z5, z6, z7]) rfl ⟨by rw [HV.out], hs0.below⟩
end Go.Proofs.Ytfnkmkfkomhhnaa
namespace Go.Proofs.Ytfnkmkfkomhhnaa
open Go Go.RowKit Go.Mem Go.NetP Go.CertP Go.ArchP
set_option maxHeartbeats 2000000 in
theorem radd_no {w0 w : World} {b N : Nat} {v : Value} {ys : List Ro} {L : List Thing} (hs : Sep w0 w (refC b v N :: winT roR v ys :: L)) (x : Ro) (h : x.Ok w) (hm : mayC x.co = false) :
    Calls Try.prog 20 #[.pointer (some ⟨b, 0, none⟩), x.val] w fun en w' => en = .returned (.tuple #[.int .u64 0, .int .i64 1]) ∧ Sep w0 w' (refC b v N :: winT roR v ys :: L) := by
  obtain ⟨xno, xday, xcomp, ai, ci, ids, xn, ae, ce, es, af, cf, fl, ap, cp, pot⟩ := x
  obtain ⟨al, cl, rfl⟩ := (hs.rdWin 1 rfl).shape
  have hs1 := hs.newCells #[.int .u64 xno, .int .i64 xday, .bool xcomp, .slice ai ids.length ci, .int .i64 xn, .slice ae es.length ce, .slice af fl.length cf, .slice ap pot.length cp] 39
  have hw := (Sep.start w).newCells #[.int .u64 xno, .int .i64 xday, .bool xcomp, .slice ai ids.length ci, .int .i64 xn, .slice ae es.length ce, .slice af fl.length cf, .slice ap pot.length cp] 39
  have RM := Lib.hid (rmay_any ⟨xno, xday, xcomp, ai, ci, ids, xn, ae, ce, es, af, cf, fl, ap, cp, pot⟩ _ (h.sep hw))
  have HX := Lib.hid h
  rw [hm] at RM
  dsimp only [Ro.val] at *
  clear hw h
  have z0 := cell_of (hs1.cells 0 rfl) 0
  have z1 := cell_of (hs1.cells 0 rfl) 1
  have z2 := cell_of (hs1.cells 0 rfl) 2
  have z3 := cell_of (hs1.cells 0 rfl) 3
  have z4 := cell_of (hs1.cells 0 rfl) 4
  have z5 := cell_of (hs1.cells 0 rfl) 5
  have z6 := cell_of (hs1.cells 0 rfl) 6
  have z7 := cell_of (hs1.cells 0 rfl) 7
  simp only [List.getElem?_toArray, List.getElem?_cons_zero, List.getElem?_cons_succ] at z0 z1 z2 z3 z4 z5 z6 z7
  go_enter Try.func20, Try.ntmps20
  go_wp2_with fail
  refine (RM.out).mono ?_
  rintro en w1 ⟨rfl, hb⟩
  replace hs1 := hs1.belowStep hb
  clear hb RM z0 z1 z2 z3 z4 z5 z6 z7 hs hm
  go_wp2_with fail
  go_ret2
  exact ⟨rfl, hs1.tail⟩
set_option maxHeartbeats 2000000 in
theorem radd_full {w0 w : World} {b N : Nat} {v : Value} {ys : List Ro} {L : List Thing} (hs : Sep w0 w (refC b v N :: winT roR v ys :: L)) (x : Ro) (h : x.Ok w) (hm : mayC x.co = true) (hN : 4611686018427387904 ≤ N) :
    Calls Try.prog 20 #[.pointer (some ⟨b, 0, none⟩), x.val] w fun en w' => en = .returned (.tuple #[.int .u64 0, .int .i64 6]) ∧ Sep w0 w' (refC b v N :: winT roR v ys :: L) := by
  have e1 : decide ((4611686018427387904 : Int) ≤ (N : Int)) = true := decide_eq_true (by omega)
  obtain ⟨xno, xday, xcomp, ai, ci, ids, xn, ae, ce, es, af, cf, fl, ap, cp, pot⟩ := x
  obtain ⟨al, cl, rfl⟩ := (hs.rdWin 1 rfl).shape
  have hs1 := hs.newCells #[.int .u64 xno, .int .i64 xday, .bool xcomp, .slice ai ids.length ci, .int .i64 xn, .slice ae es.length ce, .slice af fl.length cf, .slice ap pot.length cp] 39
  have hw := (Sep.start w).newCells #[.int .u64 xno, .int .i64 xday, .bool xcomp, .slice ai ids.length ci, .int .i64 xn, .slice ae es.length ce, .slice af fl.length cf, .slice ap pot.length cp] 39
  have RM := Lib.hid (rmay_any ⟨xno, xday, xcomp, ai, ci, ids, xn, ae, ce, es, af, cf, fl, ap, cp, pot⟩ _ (h.sep hw))
  have HX := Lib.hid h
  rw [hm] at RM
  dsimp only [Ro.val] at *
  clear hw h
  have z0 := cell_of (hs1.cells 0 rfl) 0
  have z1 := cell_of (hs1.cells 0 rfl) 1
  have z2 := cell_of (hs1.cells 0 rfl) 2
  have z3 := cell_of (hs1.cells 0 rfl) 3
  have z4 := cell_of (hs1.cells 0 rfl) 4
  have z5 := cell_of (hs1.cells 0 rfl) 5
  have z6 := cell_of (hs1.cells 0 rfl) 6
  have z7 := cell_of (hs1.cells 0 rfl) 7
  simp only [List.getElem?_toArray, List.getElem?_cons_zero, List.getElem?_cons_succ] at z0 z1 z2 z3 z4 z5 z6 z7
  go_enter Try.func20, Try.ntmps20
  go_wp2_with fail
  refine (RM.out).mono ?_
  rintro en w1 ⟨rfl, hb⟩
  replace hs1 := hs1.belowStep hb
  clear hb RM z0 z1 z2 z3 z4 z5 z6 z7 hs hm
  have m0 := cell_of (hs1.cells 1 rfl) 0
  have m1 := cell_of (hs1.cells 1 rfl) 1
  simp only [List.getElem?_toArray, List.getElem?_cons_zero, List.getElem?_cons_succ] at m0 m1
  go_wp2_with fail
  go_ret2
  exact ⟨rfl, hs1.tail⟩
set_option maxHeartbeats 4000000 in
set_option maxRecDepth 100000 in
theorem radd_yes {w0 w : World} {b N : Nat} {v : Value} {ys : List Ro} {L : List Thing} (hs : Sep w0 w (refC b v N :: winT roR v ys :: L)) (x : Ro) (h : x.Ok w) (hm : mayC x.co = true) (hN : N < 4611686018427387904) (hle : ys.length ≤ 4) :
    Calls Try.prog 20 #[.pointer (some ⟨b, 0, none⟩), x.val] w fun en w' => en = .returned (.tuple #[.int .u64 (N + 1), .int .i64 0]) ∧ ∃ v', Sep w0 w' (refC b v' (N + 1 : Nat) :: winT roR v' (newY ys (numR x ((N + 1 : Nat) : Int))) :: L) := by
  obtain ⟨i0, hi0, hz0, hz1, hz2⟩ := info_parts Try.infoRov
  have e1 : decide ((4611686018427387904 : Int) ≤ (N : Int)) = false := decide_eq_false (by omega)
  obtain ⟨xno, xday, xcomp, ai, ci, ids, xn, ae, ce, es, af, cf, fl, ap, cp, pot⟩ := x
  obtain ⟨al, cl, rfl⟩ := (hs.rdWin 1 rfl).shape
  have hs1 := hs.newCells #[.int .u64 xno, .int .i64 xday, .bool xcomp, .slice ai ids.length ci, .int .i64 xn, .slice ae es.length ce, .slice af fl.length cf, .slice ap pot.length cp] 39
  have hw := (Sep.start w).newCells #[.int .u64 xno, .int .i64 xday, .bool xcomp, .slice ai ids.length ci, .int .i64 xn, .slice ae es.length ce, .slice af fl.length cf, .slice ap pot.length cp] 39
  have RM := Lib.hid (rmay_any ⟨xno, xday, xcomp, ai, ci, ids, xn, ae, ce, es, af, cf, fl, ap, cp, pot⟩ _ (h.sep hw))
  have HX := Lib.hid h
  rw [hm] at RM
  dsimp only [Ro.val] at *
  clear hw h
  have z0 := cell_of (hs1.cells 0 rfl) 0
  have z1 := cell_of (hs1.cells 0 rfl) 1
  have z2 := cell_of (hs1.cells 0 rfl) 2
  have z3 := cell_of (hs1.cells 0 rfl) 3
  have z4 := cell_of (hs1.cells 0 rfl) 4
  have z5 := cell_of (hs1.cells 0 rfl) 5
  have z6 := cell_of (hs1.cells 0 rfl) 6
  have z7 := cell_of (hs1.cells 0 rfl) 7
  simp only [List.getElem?_toArray, List.getElem?_cons_zero, List.getElem?_cons_succ] at z0 z1 z2 z3 z4 z5 z6 z7
  go_enter Try.func20, Try.ntmps20
  go_wp2_with fail
  refine (RM.out).mono ?_
  rintro en w1 ⟨rfl, hb⟩
  replace hs1 := hs1.belowStep hb
  clear hb RM z0 z1 z2 z3 z4 z5 z6 z7 hs hm
  have m0 := cell_of (hs1.cells 1 rfl) 0
  have m1 := cell_of (hs1.cells 1 rfl) 1
  simp only [List.getElem?_toArray, List.getElem?_cons_zero, List.getElem?_cons_succ] at m0 m1
  have z0 := cell_of (hs1.cells 0 rfl) 0
  have z1 := cell_of (hs1.cells 0 rfl) 1
  have z2 := cell_of (hs1.cells 0 rfl) 2
  have z3 := cell_of (hs1.cells 0 rfl) 3
  have z4 := cell_of (hs1.cells 0 rfl) 4
  have z5 := cell_of (hs1.cells 0 rfl) 5
  have z6 := cell_of (hs1.cells 0 rfl) 6
  have z7 := cell_of (hs1.cells 0 rfl) 7
  simp only [List.getElem?_toArray, List.getElem?_cons_zero, List.getElem?_cons_succ] at z0 z1 z2 z3 z4 z5 z6 z7
  have qa := fun j => frozen_of (hs1.cells 1 rfl) j
  have qx := fun j => frozen_of (hs1.cells 0 rfl) j
  have hs3 := (hs1.setC 1 rfl 1 (.int .u64 (N + 1)) #[.slice al ys.length cl, .int .u64 (N + 1)] rfl).setC 0 rfl 0 (.int .u64 (N + 1)) #[.int .u64 (N + 1), .int .i64 xday, .bool xcomp, .slice ai ids.length ci, .int .i64 xn, .slice ae es.length ce, .slice af fl.length cf, .slice ap pot.length cp] rfl
  simp only [List.set_cons_succ, List.set_cons_zero] at hs3
  clear hs1
  go_upto_region 7 with fail
  clear m0 m1 z0 z1 z2 z3 z4 z5 z6 z7 qa qx
  revert hs3
  generalize World.setCell (World.setCell _ _ _) _ _ = W3
  intro hs3
  obtain ⟨BX, hBX⟩ : ∃ BX, BX = w.heap.size := ⟨_, rfl⟩
  rw [← hBX] at hs3 ⊢
  clear hBX
  have m0 := cell_of (hs3.cells 1 rfl) 0
  have m1 := cell_of (hs3.cells 1 rfl) 1
  simp only [List.getElem?_toArray, List.getElem?_cons_zero, List.getElem?_cons_succ] at m0 m1
  have z0 := cell_of (hs3.cells 0 rfl) 0
  have z1 := cell_of (hs3.cells 0 rfl) 1
  have z2 := cell_of (hs3.cells 0 rfl) 2
  have z3 := cell_of (hs3.cells 0 rfl) 3
  have z4 := cell_of (hs3.cells 0 rfl) 4
  have z5 := cell_of (hs3.cells 0 rfl) 5
  have z6 := cell_of (hs3.cells 0 rfl) 6
  have z7 := cell_of (hs3.cells 0 rfl) 7
  simp only [List.getElem?_toArray, List.getElem?_cons_zero, List.getElem?_cons_succ] at z0 z1 z2 z3 z4 z5 z6 z7
  obtain ⟨Y, hY⟩ : ∃ Y : Ro, Y = numR ⟨xno, xday, xcomp, ai, ci, ids, xn, ae, ce, es, af, cf, fl, ap, cp, pot⟩ ((N + 1 : Nat) : Int) := ⟨_, rfl⟩
  have HY := Lib.hid hY
  clear hY
  have hsa := (hs3.alloc (.cells #[.int .u64 (N + 1), .int .i64 xday, .bool xcomp, .slice ai ids.length ci, .int .i64 xn, .slice ae es.length ce, .slice af fl.length cf, .slice ap pot.length cp] 39)).drew
  have hCW : (fun W : World => W.cell? ⟨b, 0, none⟩ = some (.slice al ys.length cl)) W3.drew := m0
  go_wp2_with fail
  refine Mix.region2 8 [1, 1, 1, 1, 1, 0, 2, 2, 0, 0, 2] (fun W : World => W.cell? ⟨b, 0, none⟩ = some (.slice al ys.length cl)) (by kernel_rfl) (by kernel_rfl) hCW ?_
  simp only [List.zip_cons_cons, List.zip_nil_right, List.take_succ_cons, List.take_zero, List.drop_succ_cons, List.drop_zero]
  (refine Mix.step1 fun K hK => ?_; go_simp; (try (go_bits; try go_simp)); first | ((with_reducible refine hK _ _ ?_); clear hK K) | ((try (simp only [IntWalk.iteOmega]; try go_simp)); (try go_bits); (with_reducible refine hK _ _ ?_); clear hK K))
  (refine Mix.step1 fun K hK => ?_; go_simp; (try (go_bits; try go_simp)); first | ((with_reducible refine hK _ _ ?_); clear hK K) | ((try (simp only [IntWalk.iteOmega]; try go_simp)); (try go_bits); (with_reducible refine hK _ _ ?_); clear hK K))
  (refine Mix.step1 fun K hK => ?_; go_simp; (try (go_bits; try go_simp)); first | ((with_reducible refine hK _ _ ?_); clear hK K) | ((try (simp only [IntWalk.iteOmega]; try go_simp)); (try go_bits); (with_reducible refine hK _ _ ?_); clear hK K))
  (refine Mix.step1 fun K hK => ?_; go_simp; (try (go_bits; try go_simp)); first | ((with_reducible refine hK _ _ ?_); clear hK K) | ((try (simp only [IntWalk.iteOmega]; try go_simp)); (try go_bits); (with_reducible refine hK _ _ ?_); clear hK K))
  (refine Mix.step1 fun K hK => ?_; go_simp; refine ⟨fun W => ?_, hK _ _ ?_⟩; (intro hW1; (try intro hW2); (try intro hW3); (try intro hW4); (try intro hW5); (try intro hW6); (try intro hW7); (try intro hW8); go_simp); clear hK K)
  iterate 1 (refine Mix.step0 fun K hK => ?_; go_simp; (try (go_bits; try go_simp)); first | ((with_reducible refine hK _ _ ?_); clear hK K) | ((try (simp only [IntWalk.iteOmega]; try go_simp)); (try go_bits); (with_reducible refine hK _ _ ?_); clear hK K))
  refine Mix.step2n (by first | rfl | simp [Region.wanted, yielded]) fun K hK => ?_
  go_wp2_with fail
  have hCW := cell_of (hsa.cells 1 rfl) 0
  refine Mix.post_mk (C := (fun W : World => W.cell? ⟨b, 0, none⟩ = some (.slice al ys.length cl))) (by first | exact hCW | exact HCW.out _) (hK _ _ ?_)
  clear hK K
  refine Mix.step2n (by first | rfl | simp [Region.wanted, yielded]) fun K hK => ?_
  refine wpList_appWin roR rfl (.tmp 30) (.tmp 32) 22 rfl 39 i0 _ 128 Try.underlying22 hi0 hz0 hz1 hz2 rfl _ ys Y hsa 2 rfl W3.heap.size _ (by rw [HY.out]; rfl) (heap_alloc_new W3 _) rfl rfl (by unfold maxLen; omega) (by omega) ?_
  intro v' w5 hs4 hsh
  obtain ⟨g, off, cap, rfl, hcap⟩ := hsh.out
  (try simp only [List.set_cons_succ, List.set_cons_zero] at hs4)
  clear hsa hsh hs3 z0 z1 z2 z3 z4 z5 z6 z7
  have hCW := cell_of (hs4.cells 1 rfl) 0
  have qf := fun j => frozen_of (hs4.cells 1 rfl) j
  have hCW' := hCW
  simp only [List.getElem?_toArray, List.getElem?_cons_zero, List.getElem?_cons_succ] at hCW'
  go_wp2_with fail
  refine Mix.post_mk (C := (fun W : World => W.cell? ⟨b, 0, none⟩ = some (.slice al ys.length cl))) (by first | exact hCW | exact HCW.out _) (hK _ _ ?_)
  clear hK K
  refine Mix.done ?_
  iterate 2 (refine Mix.step0 fun K hK => ?_; go_simp; (try (go_bits; try go_simp)); first | ((with_reducible refine hK _ _ ?_); clear hK K) | ((try (simp only [IntWalk.iteOmega]; try go_simp)); (try go_bits); (with_reducible refine hK _ _ ?_); clear hK K))
  refine Mix.step2n (by first | rfl | simp [Region.wanted, yielded]) fun K hK => ?_
  go_wp2_with fail
  have hs5 := hs4.setC 1 rfl 0 (.slice (some ⟨g, off, none⟩) (ys.length + 1) cap) #[.slice (some ⟨g, off, none⟩) (ys.length + 1) cap, .int .u64 (N + 1)] rfl
  simp only [List.set_cons_succ, List.set_cons_zero] at hs5
  clear hs4 qf hCW' hCW m0 m1
  refine Mix.post_mk (C := (fun _ => True)) trivial (hK _ _ ?_)
  clear hK K
  refine Mix.done ?_
  generalize w5.setCell _ _ = W6 at hs5 ⊢
  have m0 := cell_of (hs5.cells 1 rfl) 0
  have m1 := cell_of (hs5.cells 1 rfl) 1
  simp only [List.getElem?_toArray, List.getElem?_cons_zero, List.getElem?_cons_succ] at m0 m1
  have qa := fun j => frozen_of (hs5.cells 1 rfl) j
  have hL : (ys ++ [Y]).length = ys.length + 1 := by simp
  by_cases h4 : ys.length = 4
  · have HN := Lib.hid (show newY ys Y = (ys ++ [Y]).drop 1 by unfold newY; rw [hL, h4])
    have hc1 : ¬ cap = 1 := by omega
    have hd := hs5.winDrop 2 rfl 1 (by omega)
    rw [← HN.out, HY.out] at hd
    simp only [List.set_cons_succ, List.set_cons_zero] at hd
    rw [h4] at hd m0 hs5 ⊢
    have hfin := hd.setC 1 rfl 0 (.slice (some ⟨g, off + 8, none⟩) 4 (cap - 1)) #[.slice (some ⟨g, off + 8, none⟩) 4 (cap - 1), .int .u64 (N + 1)] rfl
    simp only [List.set_cons_succ, List.set_cons_zero] at hfin
    go_wp2_with fail
    go_ret2
    exact ⟨rfl, _, hfin.tail⟩
  · have HN := Lib.hid (show newY ys Y = ys ++ [Y] by unfold newY; rw [hL, show ys.length + 1 - 4 = 0 by omega]; rfl)
    have d4 : decide ((4 : Int) < ((ys.length : Int) + 1)) = false := decide_eq_false (by omega)
    rw [← HN.out, HY.out] at hs5
    go_wp2_with fail
    go_ret2
    exact ⟨rfl, _, hs5.tail⟩
end Go.Proofs.Ytfnkmkfkomhhnaa
namespace Go.ArchP
open Go Go.RowKit Go.Mem Go.NetP Go.CertP Go.Proofs.Ytfnkmkfkomhhnaa
def ROfP (l : List Ro) (no : Nat) (w : World) (en : Ending) (w' : World) : Prop :=
  (ofE l no = 0 ∧ ∃ b v, en = .returned (.tuple #[.pointer (some ⟨b, 0, none⟩), .int .i64 0]) ∧ Sep w w' [refC b v no, winT roR v l]) ∨
  (ofE l no ≠ 0 ∧ en = .returned (.tuple #[.pointer none, .int .i64 (ofE l no)]) ∧ Below w.heap.size w w')
def POfP (l : List Ro) (no : Nat) (w : World) (en : Ending) (w' : World) : Prop :=
  (ofE l no = 0 ∧ ∃ b ks, en = .returned (.tuple #[.pointer (some ⟨b, 0, none⟩), .int .i64 0]) ∧ GoodW ks l (no - l.length) ∧ Sep w w' [arcT b ks l.length no]) ∨
  (ofE l no ≠ 0 ∧ en = .returned (.tuple #[.pointer none, .int .i64 (ofE l no)]) ∧ Below w.heap.size w w')
/-- The number that stands in an archive behind i of l. -/
def noAt (l : List Ro) (no i : Nat) : Nat := if i = 0 then 0 else no - l.length + i
end Go.ArchP
namespace Go.Proofs.Ytfnkmkfkomhhnaa
open Go Go.RowKit Go.Mem Go.NetP Go.CertP Go.ArchP
set_option maxHeartbeats 4000000 in
set_option maxRecDepth 100000 in
theorem pof_any (l : List Ro) (no : Nat) (v : Value) (w : World) (h : RdG roR w v l) (hok : ∀ r ∈ l, r.Ok w ∧ (Lit.int .u64 r.no).wf = true) :
    Calls Try.prog 18 #[v, .int .u64 no] w fun en w' => POfP l no w en w' := by
  obtain ⟨a, c, rfl⟩ := h.shape
  have hle := h.le'
  have HOK := Lib.hid hok
  clear hok
  by_cases h4 : l.length ≤ 4
  rotate_left
  · have HE := Lib.hid (of_many (no := no) (show 4 < l.length by omega))
    have e1 : decide ((4 : Int) < (l.length : Int)) = true := decide_eq_true (by omega)
    clear h4
    go_enter Try.func18, Try.ntmps18
    go_wp2_with fail
    go_ret2
    exact .inr ⟨by rw [HE.out]; decide, by rw [HE.out]; rfl, Below.refl _ _⟩
  have e1 : decide ((4 : Int) < (l.length : Int)) = false := decide_eq_false (by omega)
  by_cases hn1 : no ≤ 4611686018427387904
  rotate_left
  · have HE := Lib.hid (of_no h4 (.inl hn1))
    have e2 : decide ((4611686018427387904 : Int) < (no : Int)) = true := decide_eq_true (by omega)
    clear hn1
    go_enter Try.func18, Try.ntmps18
    go_wp2_with fail
    go_ret2
    exact .inr ⟨by rw [HE.out]; decide, by rw [HE.out]; rfl, Below.refl _ _⟩
  have e2 : decide ((4611686018427387904 : Int) < (no : Int)) = false := decide_eq_false (by omega)
  by_cases hn2 : l.length ≤ no
  rotate_left
  · have HE := Lib.hid (of_no h4 (.inr (.inl hn2)))
    have e3 : no < l.length := by omega
    clear hn1 hn2
    go_enter Try.func18, Try.ntmps18
    go_wp2_with fail
    go_ret2
    exact .inr ⟨by rw [HE.out]; decide, by rw [HE.out]; rfl, Below.refl _ _⟩
  have e3 : ¬ no < l.length := by omega
  have hs0 := Sep.archNew (Tu := 27) (Te := 70) (Ti := 2) (T := 59) (ks := List.replicate 4 default) (n := 0) (no := 0) ((Sep.start w).newCells (roR.flat (List.replicate 4 default) ++ [Value.int .u64 0, Value.int .u64 0]).toArray 59) (fun r hr => List.eq_of_mem_replicate hr)
  go_enter Try.func18, Try.ntmps18
  go_wp2_with fail
  refine wp_loopM [none, none, none, none, some 4, some 5, none, none, some 8, some 9, none, none, none, none, none, none, none, none, none, none, none, none, none, none, none, none, some 26, some 27, some 28, some 29, some 30, some 31, some 32, some 33, some 34, some 35, some 36, some 37, some 38, some 39, some 40, some 41, some 42, some 43, some 44, some 45, some 46, some 47, some 48, some 49, none, none, none, none, none] (fun (r : Nat) (f : Nat → Value) (wr : World) => (fun (v : Value) => ∃ (i : Nat) (ks : List Ro), v = .int .i64 i ∧ i ≤ l.length ∧ r = l.length - i ∧ Hid (GoodW ks (l.take i) (no - l.length) ∧ ∀ j, j < i → okI l no j) ∧ Sep w wr [arcT w.heap.size ks i (noAt l no i)]) (f 26)) (l.length) (by kernel_rfl) ?atStart5 ?round5
  case' atStart5 => (try dsimp only [nthV])
  case' round5 =>
    intro gk f wr l hl hrel J1 K1 hJ1 hK1
    (try simp only [mask] at hl)
    generalize f 26 = u26 at hl hrel
    subst hl
    (try dsimp only at hrel)
  case atStart5 => exact ⟨0, _, rfl, Nat.zero_le _, rfl, Lib.hid ⟨⟨rfl, fun r hr => by rw [List.eq_of_mem_replicate hr]; simp [default, Ro.small], by simp, fun j hj => by simp at hj⟩, fun j hj => by omega⟩, hs0⟩
  case round5 =>
    clear hs0
    obtain ⟨i, ks, rfl, hi, rfl, HG, hs⟩ := hrel
    by_cases hlt : i < l.length
    · obtain ⟨b1, o1, e1', hb1, hc1⟩ := (hs.rdG h).at i hlt
      subst e1'
      have hgd : l.getD i default = l[i] := by simp [hlt]
      have hx1 := (HOK.out _ (List.getElem_mem hlt)).1
      obtain ⟨x, hx⟩ : ∃ x, x = l[i] := ⟨_, rfl⟩
      rw [← hx] at hc1 hx1 hgd
      have HX := Lib.hid hx
      have HGD := Lib.hid hgd
      have HXO := Lib.hid hx1
      clear hx hgd hx1
      obtain ⟨xno, xday, xcomp, ai, ci, ids, xn, ae, ce, es, af, cf, fl, ap, cp, pot⟩ := x
      replace hs := hs.newCells #[.int .u64 xno, .int .i64 xday, .bool xcomp, .slice ai ids.length ci, .int .i64 xn, .slice ae es.length ce, .slice af fl.length cf, .slice ap pot.length cp] 39
      have MY := Lib.hid (may_any ⟨xno, xday, xcomp, ai, ci, ids, xn, ae, ce, es, af, cf, fl, ap, cp, pot⟩ _ (HXO.out.sep hs))
      have x0 := hc1 0 (by decide)
      have x1 := hc1 1 (by decide)
      have x2 := hc1 2 (by decide)
      have x3 := hc1 3 (by decide)
      have x4 := hc1 4 (by decide)
      have x5 := hc1 5 (by decide)
      have x6 := hc1 6 (by decide)
      have x7 := hc1 7 (by decide)
      simp only [roR, Nat.add_zero, List.getElem?_cons_zero, List.getElem?_cons_succ] at x0 x1 x2 x3 x4 x5 x6 x7
      clear hc1
      dsimp only [Ro.val] at MY
      have y0 := cell_of (hs.cells 0 rfl) 0
      have y1 := cell_of (hs.cells 0 rfl) 1
      have y2 := cell_of (hs.cells 0 rfl) 2
      have y3 := cell_of (hs.cells 0 rfl) 3
      have y4 := cell_of (hs.cells 0 rfl) 4
      have y5 := cell_of (hs.cells 0 rfl) 5
      have y6 := cell_of (hs.cells 0 rfl) 6
      have y7 := cell_of (hs.cells 0 rfl) 7
      simp only [List.getElem?_toArray, List.getElem?_cons_zero, List.getElem?_cons_succ] at y0 y1 y2 y3 y4 y5 y6 y7
      cases hm : mayC (Ro.co ⟨xno, xday, xcomp, ai, ci, ids, xn, ae, ce, es, af, cf, fl, ap, cp, pot⟩)
      · have HE := Lib.hid (of_no (no := no) h4 (.inr (.inr ⟨i, hlt, fun q => by have q1 := q.1; rw [HGD.out, hm] at q1; cases q1⟩)))
        rw [hm] at MY
        clear hm
        go_wp2_with fail
        refine (MY.out).mono ?_
        rintro en w2 ⟨rfl, hb⟩
        go_wp2_with fail
        go_ret2
        exact .inr ⟨by rw [HE.out]; decide, by rw [HE.out]; rfl, (hs.belowStep hb).below⟩
      rw [hm] at MY
      by_cases hno : xno = ((no - l.length + 1 + i : Nat) : Int)
      rotate_left
      · have HE := Lib.hid (of_no (no := no) h4 (.inr (.inr ⟨i, hlt, fun q => hno (by have q2 := q.2; rw [HGD.out] at q2; exact q2)⟩)))
        have e5 : (xno != (no : Int) - (l.length : Int) + 1 + (i : Int)) = true := by simp; omega
        clear hm hno
        go_wp2_with fail
        refine (MY.out).mono ?_
        rintro en w2 ⟨rfl, hb⟩
        replace hs := hs.belowStep hb
        clear y0 y1 y2 y3 y4 y5 y6 y7
        have y0 := cell_of (hs.cells 0 rfl) 0
        have y1 := cell_of (hs.cells 0 rfl) 1
        have y2 := cell_of (hs.cells 0 rfl) 2
        have y3 := cell_of (hs.cells 0 rfl) 3
        have y4 := cell_of (hs.cells 0 rfl) 4
        have y5 := cell_of (hs.cells 0 rfl) 5
        have y6 := cell_of (hs.cells 0 rfl) 6
        have y7 := cell_of (hs.cells 0 rfl) 7
        simp only [List.getElem?_toArray, List.getElem?_cons_zero, List.getElem?_cons_succ] at y0 y1 y2 y3 y4 y5 y6 y7
        go_wp2_with fail
        go_ret2
        exact .inr ⟨by rw [HE.out]; decide, by rw [HE.out]; rfl, hs.below⟩
      have e5 : (xno != (no : Int) - (l.length : Int) + 1 + (i : Int)) = false := by simp; omega
      have HOKI := Lib.hid (show ∀ j, j < i + 1 → okI l no j from fun j hj => by
        by_cases hji : j = i
        · subst hji; exact ⟨by rw [HGD.out]; exact hm, by rw [HGD.out]; exact hno⟩
        · exact HG.out.2 j (by omega))
      have HSM := Lib.hid (may_small hm)
      have HNO := Lib.hid hno
      have HTK := Lib.hid (List.take_succ_eq_append_getElem hlt)
      rw [← HX.out] at HTK
      clear hm hno
      go_wp2_with fail
      refine (MY.out).mono ?_
      rintro en w2 ⟨rfl, hb⟩
      replace hs := hs.belowStep hb
      clear y0 y1 y2 y3 y4 y5 y6 y7
      have y0 := cell_of (hs.cells 0 rfl) 0
      have y1 := cell_of (hs.cells 0 rfl) 1
      have y2 := cell_of (hs.cells 0 rfl) 2
      have y3 := cell_of (hs.cells 0 rfl) 3
      have y4 := cell_of (hs.cells 0 rfl) 4
      have y5 := cell_of (hs.cells 0 rfl) 5
      have y6 := cell_of (hs.cells 0 rfl) 6
      have y7 := cell_of (hs.cells 0 rfl) 7
      simp only [List.getElem?_toArray, List.getElem?_cons_zero, List.getElem?_cons_succ] at y0 y1 y2 y3 y4 y5 y6 y7
      have PUT := Lib.hid (put_any hs 1 w.heap.size ks i (noAt l no i) rfl HG.out.1.l4 (by omega) ⟨xno, xday, xcomp, ai, ci, ids, xn, ae, ce, es, af, cf, fl, ap, cp, pot⟩ (no - l.length + 1 + i) HNO.out (by omega) (HXO.out.sep hs) HSM.out)
      dsimp only [Ro.val] at PUT
      go_wp2_with fail
      refine (PUT.out).mono ?_
      rintro en w3 ⟨⟨u, rfl⟩, r', hco, hs3⟩
      simp only [List.set_cons_succ, List.set_cons_zero] at hs3
      have hil : (l.take i).length = i := by rw [List.length_take, Nat.min_eq_left hi]
      have HG2 := Lib.hid (show GoodW (ks.set ((no - l.length + 1 + i) % 4) r') (l.take (i + 1)) (no - l.length) by
        have := goodW_add HG.out.1 (x := ⟨xno, xday, xcomp, ai, ci, ids, xn, ae, ce, es, af, cf, fl, ap, cp, pot⟩) (r := r') (by omega) hco HSM.out (by rw [hil]; show xno = _; rw [HNO.out]; omega)
        rw [hil] at this
        rw [HTK.out, show no - l.length + 1 + i = no - l.length + i + 1 by omega]
        exact this)
      have HC := Lib.hid (show cap4 (i : Nat) = ((i + 1 : Nat) : Int) by unfold cap4; rw [if_pos (by omega)]; omega)
      have HNA := Lib.hid (show noAt l no (i + 1) = no - l.length + 1 + i by unfold noAt; rw [if_neg (by omega)]; omega)
      clear hco hil PUT y0 y1 y2 y3 y4 y5 y6 y7
      go_wp2_with fail
      refine Round.intro (l.length - (i + 1)) ?measure6 (by kernel_rfl) (hJ1 _ _ _ ?rel6)
      case' rel6 => (try dsimp only [nthV])
      case measure6 => omega
      case rel6 => exact ⟨i + 1, _, by go_num, hlt, rfl, Lib.hid ⟨HG2.out, HOKI.out⟩, by rw [HNA.out, ← HC.out]; exact hs3.tail⟩
    · obtain rfl : i = l.length := by omega
      have HGW := Lib.hid HG.out.1
      rw [List.take_length] at HGW
      have HE := Lib.hid (of_yes h4 hn1 hn2 HG.out.2)
      obtain ⟨an, ano⟩ := arch_n HGW.out.l4 (Sep.arch (i := 0) hs rfl).1
      have qf := fun j => frozen_of (Sep.arch (i := 0) hs rfl).1 j
      have hs2 := Sep.archNo HGW.out.l4 hs 0 rfl no
      simp only [List.set_cons_zero] at hs2
      clear HG
      go_wp2_with fail
      go_ret2
      exact .inl ⟨HE.out, _, _, rfl, HGW.out, hs2⟩
end Go.Proofs.Ytfnkmkfkomhhnaa
namespace Go.Proofs.Ytfnkmkfkomhhnaa
open Go Go.RowKit Go.Mem Go.NetP Go.CertP Go.ArchP
set_option maxHeartbeats 4000000 in
set_option maxRecDepth 100000 in
theorem rof_any (l : List Ro) (no : Nat) (hno64 : no ≤ 18446744073709551615) (v : Value) (w : World) (h : RdG roR w v l) (hok : ∀ r ∈ l, r.Ok w ∧ (Lit.int .u64 r.no).wf = true) :
    Calls Try.prog 19 #[v, .int .u64 no] w fun en w' => ROfP l no w en w' := by
  obtain ⟨i0, hi0, hz0, hz1, hz2⟩ := info_parts Try.infoRov
  obtain ⟨a, c, rfl⟩ := h.shape
  have hle := h.le'
  have HOK := Lib.hid hok
  clear hok
  by_cases h4 : l.length ≤ 4
  rotate_left
  · have HE := Lib.hid (of_many (no := no) (show 4 < l.length by omega))
    have e1 : decide ((4 : Int) < (l.length : Int)) = true := decide_eq_true (by omega)
    clear h4
    go_enter Try.func19, Try.ntmps19
    go_wp2_with fail
    go_ret2
    exact .inr ⟨by rw [HE.out]; decide, by rw [HE.out]; rfl, Below.refl _ _⟩
  have e1 : decide ((4 : Int) < (l.length : Int)) = false := decide_eq_false (by omega)
  have HH4 := Lib.hid h4
  go_enter Try.func19, Try.ntmps19
  go_wp2_with fail
  refine wp_loopM [none, none, none, none, some 4, some 5, some 6, none, none, none, none, some 11, some 12, some 13, some 14, some 15, some 16, some 17, some 18, some 19, some 20, some 21, some 22, some 23, some 24, some 25, some 26, some 27, some 28, some 29, some 30, some 31, some 32, some 33, some 34, some 35, some 36, some 37, some 38, some 39, some 40, some 41, some 42, some 43, some 44, some 45, some 46, some 47, some 48, some 49, some 50, some 51, some 52, some 53, none, none, none, none, none, none, none, none, none, none, none, none, none, none, none] (fun (r : Nat) (f : Nat → Value) (wr : World) => (fun (v : Value) => ∃ i : Nat, v = .int .i64 i ∧ i ≤ l.length ∧ r = l.length - i ∧ Hid ((0 < i → l.length ≤ no) ∧ ∀ j, j < i → okI l no j) ∧ Sep w wr []) (f 6)) (l.length) (by kernel_rfl) ?atStart7 ?round7
  case' atStart7 => (try dsimp only [nthV])
  case' round7 =>
    intro gk f wr l hl hrel J1 K1 hJ1 hK1
    (try simp only [mask] at hl)
    generalize f 6 = u6 at hl hrel
    subst hl
    (try dsimp only at hrel)
  case atStart7 => exact ⟨0, rfl, Nat.zero_le _, rfl, Lib.hid ⟨fun q => by omega, fun j hj => by omega⟩, Sep.start w⟩
  case round7 =>
    obtain ⟨i, rfl, hi, rfl, HG, hs⟩ := hrel
    by_cases hlt : i < l.length
    · obtain ⟨b1, o1, e1', hb1, hc1⟩ := (hs.rdG h).at i hlt
      subst e1'
      have hgd : l.getD i default = l[i] := by simp [hlt]
      have hx1 := HOK.out _ (List.getElem_mem hlt)
      obtain ⟨x, hx⟩ : ∃ x, x = l[i] := ⟨_, rfl⟩
      rw [← hx] at hc1 hx1 hgd
      have HGD := Lib.hid hgd
      have HXO := Lib.hid hx1.1
      have hwf := bounds_u64 hx1.2
      clear hx hgd hx1
      have FSc := Lib.hid (fun (W : World) (hb : Below wr.heap.size wr W) => (fun j hj => (hb.cell (p := ⟨b1, o1 + i * 8 + j, none⟩) hb1).trans (hc1 j hj) : ∀ j, j < 8 → W.cell? ⟨b1, o1 + i * 8 + j, none⟩ = (roR.cells x)[j]?))
      obtain ⟨xno, xday, xcomp, ai, ci, ids, xn, ae, ce, es, af, cf, fl, ap, cp, pot⟩ := x
      have MY := Lib.hid (rmay_any ⟨xno, xday, xcomp, ai, ci, ids, xn, ae, ce, es, af, cf, fl, ap, cp, pot⟩ _ (HXO.out.sep hs))
      have x0 := hc1 0 (by decide)
      have x1 := hc1 1 (by decide)
      have x2 := hc1 2 (by decide)
      have x3 := hc1 3 (by decide)
      have x4 := hc1 4 (by decide)
      have x5 := hc1 5 (by decide)
      have x6 := hc1 6 (by decide)
      have x7 := hc1 7 (by decide)
      simp only [roR, Nat.add_zero, List.getElem?_cons_zero, List.getElem?_cons_succ] at x0 x1 x2 x3 x4 x5 x6 x7
      clear hc1
      dsimp only [Ro.val] at MY
      dsimp only at hwf
      obtain ⟨hw0, hw1⟩ := hwf
      have HEB := Lib.hid (fun q => of_no (no := no) h4 (.inr (.inr ⟨i, hlt, q⟩)))
      cases hm : mayC (Ro.co ⟨xno, xday, xcomp, ai, ci, ids, xn, ae, ce, es, af, cf, fl, ap, cp, pot⟩)
      · have HE := Lib.hid (HEB.out fun q => by have q1 := q.1; rw [HGD.out, hm] at q1; cases q1)
        rw [hm] at MY
        clear hm
        go_wp2_with fail
        refine (MY.out).mono ?_
        rintro en w2 ⟨rfl, hb⟩
        go_wp2_with fail
        go_ret2
        exact .inr ⟨by rw [HE.out]; decide, by rw [HE.out]; rfl, (hs.belowStep hb).below⟩
      rw [hm] at MY
      by_cases h1 : xno < 1
      · have HE := Lib.hid (HEB.out fun q => by have q2 := q.2; rw [HGD.out] at q2; dsimp only at q2; omega)
        have e5 : decide (xno < 1) = true := decide_eq_true h1
        clear hm h1
        go_wp2_with fail
        refine (MY.out).mono ?_
        rintro en w2 ⟨rfl, hb⟩
        have y8 := FSc.out _ hb
        have y0 := y8 0 (by decide)
        have y1 := y8 1 (by decide)
        have y2 := y8 2 (by decide)
        have y3 := y8 3 (by decide)
        have y4 := y8 4 (by decide)
        have y5 := y8 5 (by decide)
        have y6 := y8 6 (by decide)
        have y7 := y8 7 (by decide)
        simp only [roR, Nat.add_zero, List.getElem?_cons_zero, List.getElem?_cons_succ] at y0 y1 y2 y3 y4 y5 y6 y7
        clear y8
        go_wp2_with fail
        go_ret2
        exact .inr ⟨by rw [HE.out]; decide, by rw [HE.out]; rfl, (hs.belowStep hb).below⟩
      have e5 : decide (xno < 1) = false := decide_eq_false h1
      by_cases hnl : l.length ≤ no
      rotate_left
      · have HE := Lib.hid (of_no h4 (.inr (.inl hnl)))
        have e6 : no < l.length := by omega
        clear hm
        go_wp2_with fail
        refine (MY.out).mono ?_
        rintro en w2 ⟨rfl, hb⟩
        have y8 := FSc.out _ hb
        have y0 := y8 0 (by decide)
        have y1 := y8 1 (by decide)
        have y2 := y8 2 (by decide)
        have y3 := y8 3 (by decide)
        have y4 := y8 4 (by decide)
        have y5 := y8 5 (by decide)
        have y6 := y8 6 (by decide)
        have y7 := y8 7 (by decide)
        simp only [roR, Nat.add_zero, List.getElem?_cons_zero, List.getElem?_cons_succ] at y0 y1 y2 y3 y4 y5 y6 y7
        clear y8
        go_wp2_with fail
        all_goals
          go_ret2
          exact .inr ⟨by rw [HE.out]; decide, by rw [HE.out]; rfl, (hs.belowStep hb).below⟩
      have e6 : ¬ no < l.length := by omega
      by_cases hno : xno = ((no - l.length + 1 + i : Nat) : Int)
      rotate_left
      · have HE := Lib.hid (HEB.out fun q => hno (by have q2 := q.2; rw [HGD.out] at q2; exact q2))
        have e7 : (xno != (no : Int) - ((l.length : Int) - 1 - (i : Int))) = true := by simp; omega
        clear hm hno
        go_wp2_with fail
        refine (MY.out).mono ?_
        rintro en w2 ⟨rfl, hb⟩
        have y8 := FSc.out _ hb
        have y0 := y8 0 (by decide)
        have y1 := y8 1 (by decide)
        have y2 := y8 2 (by decide)
        have y3 := y8 3 (by decide)
        have y4 := y8 4 (by decide)
        have y5 := y8 5 (by decide)
        have y6 := y8 6 (by decide)
        have y7 := y8 7 (by decide)
        simp only [roR, Nat.add_zero, List.getElem?_cons_zero, List.getElem?_cons_succ] at y0 y1 y2 y3 y4 y5 y6 y7
        clear y8
        go_wp2_with fail
        go_ret2
        exact .inr ⟨by rw [HE.out]; decide, by rw [HE.out]; rfl, (hs.belowStep hb).below⟩
      have e7 : (xno != (no : Int) - ((l.length : Int) - 1 - (i : Int))) = false := by simp; omega
      have HG2 := Lib.hid (show (0 < i + 1 → l.length ≤ no) ∧ ∀ j, j < i + 1 → okI l no j from ⟨fun _ => hnl, fun j hj => by
        by_cases hji : j = i
        · subst hji; exact ⟨by rw [HGD.out]; exact hm, by rw [HGD.out]; exact hno⟩
        · exact HG.out.2 j (by omega)⟩)
      clear hm hno
      go_wp2_with fail
      refine (MY.out).mono ?_
      rintro en w2 ⟨rfl, hb⟩
      have y8 := FSc.out _ hb
      have y0 := y8 0 (by decide)
      have y1 := y8 1 (by decide)
      have y2 := y8 2 (by decide)
      have y3 := y8 3 (by decide)
      have y4 := y8 4 (by decide)
      have y5 := y8 5 (by decide)
      have y6 := y8 6 (by decide)
      have y7 := y8 7 (by decide)
      simp only [roR, Nat.add_zero, List.getElem?_cons_zero, List.getElem?_cons_succ] at y0 y1 y2 y3 y4 y5 y6 y7
      clear y8
      go_wp2_with fail
      refine Round.intro (l.length - (i + 1)) ?measure8 (by kernel_rfl) (hJ1 _ _ _ ?rel8)
      case' rel8 => (try dsimp only [nthV])
      case measure8 => omega
      case rel8 => exact ⟨i + 1, by go_num, hlt, rfl, HG2, hs.belowStep hb⟩
    · obtain rfl : i = l.length := by omega
      have hnl : l.length ≤ no := by
        rcases Nat.eq_zero_or_pos l.length with q | q
        · omega
        · exact HG.out.1 q
      by_cases hn1 : no ≤ 4611686018427387904
      rotate_left
      · have HE := Lib.hid (of_no h4 (.inl hn1))
        have e2 : decide ((4611686018427387904 : Int) < (no : Int)) = true := decide_eq_true (by omega)
        clear hn1
        go_wp2_with fail
        go_ret2
        exact .inr ⟨by rw [HE.out]; decide, by rw [HE.out]; rfl, hs.below⟩
      have HE := Lib.hid (of_yes h4 hn1 hnl HG.out.2)
      have e2 : decide ((4611686018427387904 : Int) < (no : Int)) = false := decide_eq_false (by omega)
      have hs2 := ((hs.nilRecs roR 39).newCells #[.slice none 0 0, .int .u64 no] 55)
      obtain ⟨BA, hBA⟩ : ∃ BA, BA = wr.heap.size := ⟨_, rfl⟩
      have HRD := Lib.hid (hs2.rdG h)
      clear HG
      go_upto_region 11 with fail
      rw [← hBA] at hs2 ⊢
      have m0 := cell_of (hs2.cells 0 rfl) 0
      simp only [List.getElem?_toArray, List.getElem?_cons_zero] at m0
      generalize World.alloc wr _ = W1 at hs2 HRD m0 ⊢
      clear hBA
      go_wp2_with (at_builtin; refine wpList_appRdG roR rfl (.tmp 63) (.tmp 64) 22 rfl 39 i0 _ 128 Try.underlying22 hi0 hz0 hz1 hz2 rfl _ [] _ l hs2 1 rfl HRD.out rfl rfl ?c3 ?c4 ?grow)
      case c3 => (try simp only [List.length_nil]); unfold maxLen; omega
      case c4 => (try simp only [List.length_nil]); omega
      case grow =>
        intro v' w5 hs5
        (try simp only [List.set_cons_succ, List.set_cons_zero, List.nil_append] at hs5)
        obtain ⟨a', c', rfl⟩ := (hs5.rdRecs 1 rfl).shape
        have n0 := cell_of (hs5.cells 0 rfl) 0
        simp only [List.getElem?_toArray, List.getElem?_cons_zero] at n0
        have qf := fun j => frozen_of (hs5.cells 0 rfl) j
        have hs6 := (hs5.setC 0 rfl 0 (.slice a' l.length c') #[.slice a' l.length c', .int .u64 no] rfl).winOf 1 rfl
        simp only [List.set_cons_succ, List.set_cons_zero] at hs6
        clear hs2 m0
        go_wp2_with fail
        go_ret2
        exact .inl ⟨HE.out, _, _, rfl, hs6⟩
end Go.Proofs.Ytfnkmkfkomhhnaa
namespace Go.Mem
open Go Go.RowKit
theorem Sep.front {w0 w : World} {L : List Thing} {A : Thing} (h : Sep w0 w L) (i : Nat) (hi : L[i]? = some A) : Sep w0 w (A :: L.eraseIdx i) := by
  obtain ⟨Ss, hl, ha, p⟩ := h
  have hil : i < L.length := (List.getElem?_eq_some_iff.1 hi).1
  have hiS : i < Ss.length := by omega
  have look : ∀ {α : Type _} (l : List α) (x : α) (k : Nat) (y : α), l[i]? = some x → (x :: l.eraseIdx i)[k]? = some y → l[if k = 0 then i else if k - 1 < i then k - 1 else k]? = some y := by
    intro α l x k y hx hk
    match k, hk with
    | 0, hk => rw [if_pos rfl, hx]; exact hk
    | k + 1, hk =>
      rw [List.getElem?_cons_succ, List.getElem?_eraseIdx] at hk
      rw [if_neg (by omega), Nat.add_sub_cancel]
      split at hk
      · rename_i q; rw [if_pos q]; exact hk
      · rename_i q; rw [if_neg q]; exact hk
  have hSi : Ss[i]? = some Ss[i] := by simp [hiS]
  refine ⟨Ss[i] :: Ss.eraseIdx i, by simp [List.length_eraseIdx, hil, hiS, hl], fun k C T hC hT => ha _ C T (look L A k C hi hC) (look Ss _ k T hSi hT), fun k j C D hC hD hne => p.dis _ _ C D (look Ss _ k C hSi hC) (look Ss _ j D hSi hD) ?_, fun k C hC => p.rng _ C (look Ss _ k C hSi hC), p.below⟩
  by_cases h1 : k = 0 <;> by_cases h2 : j = 0 <;> simp only [h1, h2, if_true, if_false] <;> (try split) <;> (try split) <;> omega
end Go.Mem
namespace Go.ArchP
open Go Go.RowKit Go.Mem Go.NetP Go.CertP Go.Proofs.Ytfnkmkfkomhhnaa
def inQ (D n q : Nat) : Bool := decide (D < q) && decide (q ≤ D + n)
/-- What Get tells of a number. -/
def pickC (ys : List Ro) (D q : Nat) : Co := if inQ D ys.length q = true then (ys.getD (q - D - 1) default).co else Ro.co default
theorem zero_ok (w : World) : Ro.Ok w default := ⟨Rd.nil _ _, RdG.nil _ _, Rd.nil _ _, Rd.nil _ _⟩
theorem pick_yes {ys : List Ro} {D q k : Nat} (hk : k < ys.length) (hq : q = D + k + 1) : inQ D ys.length q = true ∧ pickC ys D q = (ys[k]).co := by
  have : inQ D ys.length q = true := by simp [inQ]; omega
  refine ⟨this, ?_⟩
  unfold pickC
  rw [if_pos this, show q - D - 1 = k by omega]
  simp [hk]
theorem pick_no {ys : List Ro} {D q : Nat} (h : q ≤ D ∨ D + ys.length < q) : inQ D ys.length q = false ∧ pickC ys D q = Ro.co default := by
  have : inQ D ys.length q = false := by
    rcases h with h | h
    · simp [inQ]; omega
    · simp [inQ]; omega
  refine ⟨this, ?_⟩
  unfold pickC
  rw [this]; rfl
end Go.ArchP
namespace Go.Proofs.Ytfnkmkfkomhhnaa
open Go Go.RowKit Go.Mem Go.NetP Go.CertP Go.ArchP
theorem get_both {b : Nat} {ks ys : List Ro} {D N q : Nat} {w : World} (hA : w.heap[b]? = some (.cells (roR.flat ks ++ [Value.int .u64 (ys.length : Nat), Value.int .u64 N]).toArray 59 (0, 0))) (hg : GoodW ks ys D) (hN : N = D + ys.length) (hNl : N ≤ 4611686018427387904) (hok : ∀ k ∈ ks, k.Ok w) :
    Calls Try.prog 14 #[.pointer (some ⟨b, 0, none⟩), .int .u64 q] w fun en w' => ∃ r1 : Ro, en = .returned (.tuple #[r1.val, .bool (inQ D ys.length q)]) ∧ r1.co = pickC ys D q ∧ r1.Ok w' ∧ Below w.heap.size w w' := by
  obtain ⟨an, ano⟩ := arch_n hg.l4 hA
  by_cases h1 : q ≤ D
  · obtain ⟨e1, e2⟩ := pick_no (ys := ys) (D := D) (.inl h1)
    rw [e1, e2]
    exact (get_old b ys.length N q w (lt_of hA) an ano (by omega) (by omega) (by omega)).mono fun en w' ⟨e, hb⟩ => ⟨default, e, rfl, zero_ok _, hb⟩
  · by_cases h2 : N < q
    · obtain ⟨e1, e2⟩ := pick_no (ys := ys) (D := D) (q := q) (.inr (by omega))
      rw [e1, e2]
      exact (get_over b ys.length N q w (lt_of hA) an ano h2).mono fun en w' ⟨e, hb⟩ => ⟨default, e, rfl, zero_ok _, hb⟩
    · obtain ⟨k, hk⟩ : ∃ k, q = D + k + 1 := ⟨q - D - 1, by omega⟩
      have hkl : k < ys.length := by omega
      obtain ⟨e1, e2⟩ := pick_yes (D := D) hkl hk
      obtain ⟨kk, k1, k2, _⟩ := hg.at_ k hkl
      have hm := List.mem_of_getElem? k1
      rw [e1, e2]
      exact (get_yes b ks ys.length N q w hA hg.l4 (by omega) (by omega) (by omega) kk (by rw [hk]; exact k1) (hok kk hm) (hg.small kk hm)).mono fun en w' ⟨r', hc, e, k3⟩ => ⟨r', e, hc.trans k2, Sep.ro (i := 0) k3 rfl, k3.below⟩
theorem rget_both {b : Nat} {v : Value} {ks ys : List Ro} {D N q : Nat} {w : World} (hb : w.heap[b]? = some (.cells #[v, .int .u64 N] 55 (0, 0))) (h : RdG roR w v ys) (hg : GoodW ks ys D) (hN : N = D + ys.length) (hok : ∀ y ∈ ys, y.Ok w) :
    Calls Try.prog 21 #[.pointer (some ⟨b, 0, none⟩), .int .u64 q] w fun en w' => ∃ r1 : Ro, en = .returned (.tuple #[r1.val, .bool (inQ D ys.length q)]) ∧ r1.co = pickC ys D q ∧ r1.Ok w' ∧ Below w.heap.size w w' := by
  have hno : ∀ j (hj : j < ys.length), (ys[j]).no = ((D + j + 1 : Nat) : Int) := fun j hj => by obtain ⟨_, _, _, k3⟩ := hg.at_ j hj; exact k3
  by_cases h1 : q ≤ D ∨ D + ys.length < q
  · obtain ⟨e1, e2⟩ := pick_no (ys := ys) h1
    rw [e1, e2]
    exact (rget_no b v N ys q w hb h hg.le (fun j hj => by rw [hno j hj]; omega)).mono fun en w' ⟨e, hb⟩ => ⟨default, e, rfl, zero_ok _, hb⟩
  · obtain ⟨k, hk⟩ : ∃ k, q = D + k + 1 := ⟨q - D - 1, by omega⟩
    have hkl : k < ys.length := by omega
    obtain ⟨e1, e2⟩ := pick_yes (D := D) hkl hk
    rw [e1, e2]
    exact (rget_yes b v N ys q k w hb h hg.le hkl (by rw [hno k hkl, hk]) (fun j hj => by rw [hno j (by omega)]; omega)).mono fun en w' ⟨e, hb⟩ => ⟨ys[k], e, rfl, (hok _ (List.getElem_mem hkl)).below hb, hb⟩
end Go.Proofs.Ytfnkmkfkomhhnaa
namespace Go.ArchP
open Go Go.RowKit Go.Mem Go.NetP Go.CertP Go.Proofs.Ytfnkmkfkomhhnaa
def keeps (x : Co) (N : Nat) : Bool := mayC x && decide (N < 4611686018427387904)
def addN (x : Co) (N : Nat) : Int := if keeps x N = true then ((N + 1 : Nat) : Int) else 0
def addE (x : Co) (N : Nat) : Int := if mayC x = true then (if N < 4611686018427387904 then 0 else 6) else 1
def nextY (ys : List Ro) (x : Ro) (N : Nat) : List Ro := if keeps x.co N = true then newY ys (numR x ((N + 1 : Nat) : Int)) else ys
def nextD (ys : List Ro) (D : Nat) (x : Ro) (N : Nat) : Nat := if keeps x.co N = true then D + (ys.length + 1 - 4) else D
def nextN (x : Co) (N : Nat) : Nat := if keeps x N = true then N + 1 else N
theorem next_sum {ys : List Ro} {D N : Nat} {x : Ro} (h : N = D + ys.length) (hl : ys.length ≤ 4) : nextN x.co N = nextD ys D x N + (nextY ys x N).length := by
  unfold nextN nextD nextY
  split
  · unfold newY; rw [List.length_drop, List.length_append, List.length_singleton]; omega
  · exact h
theorem next_ok {ys : List Ro} {x : Ro} {N : Nat} {w : World} (h : ∀ y ∈ ys, y.Ok w) (hx : x.Ok w) : ∀ y ∈ nextY ys x N, y.Ok w := by
  unfold nextY
  split
  · intro y hy
    rcases List.mem_append.1 (List.mem_of_mem_drop hy) with q | q
    · exact h y q
    · rw [List.mem_singleton.1 q]; exact hx
  · exact h
theorem next_le (x : Co) (N : Nat) (h : N ≤ 4611686018427387904) : nextN x N ≤ 4611686018427387904 := by
  unfold nextN keeps
  split
  · rename_i q
    have := of_decide_eq_true ((Bool.and_eq_true _ _).mp q).2
    omega
  · exact h
end Go.ArchP
namespace Go.Proofs.Ytfnkmkfkomhhnaa
open Go Go.RowKit Go.Mem Go.NetP Go.CertP Go.ArchP
theorem add_all {w0 w : World} {L : List Thing} (hs : Sep w0 w L) (i b : Nat) (ks ys : List Ro) (D N : Nat) (hi : L[i]? = some (arcT b ks (ys.length : Nat) N)) (hg : GoodW ks ys D) (hN : N = D + ys.length) (x X : Ro) (hxX : x.co = X.co) (h : x.Ok w) :
    Calls Try.prog 10 #[.pointer (some ⟨b, 0, none⟩), x.val] w fun en w' => en = .returned (.tuple #[.int .u64 (addN X.co N), .int .i64 (addE X.co N)]) ∧ ∃ ks', GoodW ks' (nextY ys X N) (nextD ys D X N) ∧ Sep w0 w' (L.set i (arcT b ks' ((nextY ys X N).length : Nat) (nextN X.co N : Nat))) := by
  cases hm : mayC X.co
  · have hk : keeps X.co N = false := by simp [keeps, hm]
    refine (add_no hs b x h (by rw [hxX]; exact hm)).mono fun en w' ⟨e, k⟩ => ⟨by rw [e]; simp [addN, addE, hk, hm], ks, ?_, ?_⟩
    · unfold nextY nextD; rw [hk]; exact hg
    · unfold nextY nextN; rw [hk]; show Sep w0 w' (L.set i (arcT b ks (ys.length : Nat) N)); rw [set_same hi]; exact k
  · by_cases hn : N < 4611686018427387904
    · have hk : keeps X.co N = true := by simp [keeps, hm, hn]
      have hle := hg.le
      refine (add_yes hs i b ks (ys.length : Nat) N hi hg.l4 (by omega) x h (by rw [hxX]; exact hm) hn).mono fun en w' ⟨e, r', hr, k⟩ => ⟨by rw [e]; simp [addN, addE, hk, hm, hn], ks.set ((N + 1) % 4) r', ?_, ?_⟩
      · have := (good5_add hg (x := numR X ((N + 1 : Nat) : Int)) (r := r') (by rw [hr, hxX]; rfl) (by have := may_small hm; exact this) (by rw [hN]; rfl)).2
        rw [← hN] at this
        unfold nextY nextD
        rw [hk, if_pos rfl, if_pos rfl]
        unfold newY
        rw [List.length_append, List.length_singleton] at this ⊢
        exact this
      · have hc : cap4 (ys.length : Nat) = ((nextY ys X N).length : Nat) := by
          unfold nextY; rw [hk, if_pos rfl]; unfold newY cap4; rw [List.length_drop, List.length_append, List.length_singleton]; split <;> omega
        rw [hc] at k
        unfold nextN; rw [hk, if_pos rfl]; exact k
    · have hk : keeps X.co N = false := by simp [keeps, hn]
      refine (add_full hs i b ks (ys.length : Nat) N hi hg.l4 x h (by rw [hxX]; exact hm) (by omega)).mono fun en w' ⟨e, k⟩ => ⟨by rw [e]; simp [addN, addE, hk, hm, hn], ks, ?_, ?_⟩
      · unfold nextY nextD; rw [hk]; exact hg
      · unfold nextY nextN; rw [hk]; show Sep w0 w' (L.set i (arcT b ks (ys.length : Nat) N)); rw [set_same hi]; exact k
theorem radd_all {w0 w : World} {b N : Nat} {v : Value} {ys : List Ro} {L : List Thing} (hs : Sep w0 w (refC b v N :: winT roR v ys :: L)) (X : Ro) (h : X.Ok w) (hle : ys.length ≤ 4) :
    Calls Try.prog 20 #[.pointer (some ⟨b, 0, none⟩), X.val] w fun en w' => en = .returned (.tuple #[.int .u64 (addN X.co N), .int .i64 (addE X.co N)]) ∧ ∃ v', Sep w0 w' (refC b v' (nextN X.co N) :: winT roR v' (nextY ys X N) :: L) := by
  cases hm : mayC X.co
  · have hk : keeps X.co N = false := by simp [keeps, hm]
    refine (radd_no hs X h hm).mono fun en w' ⟨e, k⟩ => ⟨by rw [e]; simp [addN, addE, hk, hm], v, ?_⟩
    unfold nextY nextN; rw [hk]; exact k
  · by_cases hn : N < 4611686018427387904
    · have hk : keeps X.co N = true := by simp [keeps, hm, hn]
      refine (radd_yes hs X h hm hn hle).mono fun en w' ⟨e, v', k⟩ => ⟨by rw [e]; simp [addN, addE, hk, hm, hn], v', ?_⟩
      unfold nextY nextN; rw [hk, if_pos rfl, if_pos rfl]; exact k
    · have hk : keeps X.co N = false := by simp [keeps, hn]
      refine (radd_full hs X h hm (by omega)).mono fun en w' ⟨e, k⟩ => ⟨by rw [e]; simp [addN, addE, hk, hm, hn], v, ?_⟩
      unfold nextY nextN; rw [hk]; exact k
end Go.Proofs.Ytfnkmkfkomhhnaa
