/-
  The law SolveDoubles, walked.
-/
import Derived.Test.YtacbfpgijmpilaaSMoreW
import Derived.Test.YtacbfpgijmpilaaSOne
import Derived.Test.YtacbfpgijmpilaaSH
set_option linter.unusedVariables false
set_option linter.unusedSimpArgs false
namespace Go.SolveP
open Go Go.Mem Go.NetP Go.RestP Go.CertP
theorem tk_one {es : List Ed} {i : Nat} (h : i < es.length) : es.take (i + 1) = es.take i ++ [edAt es i] := by
  rw [edAt_of h, List.take_succ_eq_append_getElem h]
theorem caps_one {es : List Ed} {i : Nat} (h : i < es.length) : capsL (es.take (i + 1)) = capsL (es.take i) ++ [⟨(edAt es i).f, (edAt es i).t, 2 * (edAt es i).c, (edAt es i).k⟩] := by
  rw [tk_one h]; unfold capsL; rw [List.map_append]; rfl
theorem twice_one {es : List Ed} {i : Nat} (h : i < es.length) : twiceL (es.take (i + 1)) = twiceL (es.take i) ++ [⟨(edAt es i).f, (edAt es i).t, (edAt es i).c, 2 * (edAt es i).k⟩] := by
  rw [tk_one h]; unfold twiceL; rw [List.map_append]; rfl
theorem dup_one {es : List Ed} {i : Nat} (h : i < es.length) : dupL (es.take (i + 1)) = dupL (es.take i) ++ [edAt es i, edAt es i] := by
  rw [tk_one h]; unfold dupL; rw [List.flatMap_append]; rfl
theorem perm7 {α : Type _} (x y z p q r s : α) : [x, y, z, p, q, r, s].Perm [x, r, y, q, z, p, s] := by
  refine .cons _ ?_
  refine (List.perm_middle (l₁ := [y, z, p, q]) (a := r) (l₂ := [s])).trans (.cons _ (.cons _ ?_))
  refine (List.perm_middle (l₁ := [z, p]) (a := q) (l₂ := [s])).trans (.cons _ ?_)
  exact .refl _
theorem tk_len {es : List Ed} {i : Nat} (h : i ≤ es.length) : (es.take i).length = i := by rw [List.length_take]; omega
end Go.SolveP
namespace Go.Proofs.Ytacbfpgijmpilaa
open Go Go.RowKit Go.Mem Go.NetP Go.RestP Go.CertP Go.PathP Go.SolveP Go.Shelf
theorem least_l (nn : Int) (a : Option Addr) (c : Nat) (es : List Ed) (l : Nat) (w : World) (hl : es.length = l) (h : RdG edR w (.slice a l c) es) (hr : rightB nn es = true) :
    Calls Try.prog 17 #[.agg #[.int .i64 nn, .slice a l c]] w fun en w' => (∃ fl pot, checkB nn es fl pot = true ∧ en = .returned (.tuple #[.int .i64 (costV nn es fl), .bool true])) ∧ Below w.heap.size w w' := by
  subst hl; exact least_any nn a c es w h hr
set_option maxRecDepth 100000 in
set_option maxHeartbeats 4000000 in
theorem solveDoubles_any (nn : Int) (a : Option Addr) (c : Nat) (es : List Ed) (w : World) (h : RdG edR w (.slice a es.length c) es) :
    Calls Try.prog 6 #[.agg #[.int .i64 nn, .slice a es.length c]] w fun en w' => en = .returned (.bool true) ∧ Below w.heap.size w w' := by
  obtain ⟨e0, he0, he1, he2, he3⟩ := info_parts Try.infoEdgb
  have hle := h.le'
  have hs := (Sep.start w).newCells #[.int .i64 nn, .slice a es.length c] 24
  obtain ⟨B1, hB⟩ : ∃ B1, B1 = w.heap.size := ⟨_, rfl⟩
  rw [← hB] at hs
  have n0 := cell_of (hs.cells 0 rfl) 0
  have n1 := cell_of (hs.cells 0 rfl) 1
  simp only [List.getElem?_toArray, List.getElem?_cons_zero, List.getElem?_cons_succ] at n0 n1
  by_cases hn20 : 20 < nn
  · go_enter Try.func6, Try.ntmps6
    go_wp2_with fail
    (try rw [← hB])
    clear hB
    refine (works_any _).mono ?_
    rintro en w2 ⟨rfl, hb⟩
    have hs2 := hs.belowStep hb
    clear hs hb
    go_wp2_with fail
    go_ret
    exact ⟨rfl, hs2.below⟩
  by_cases hl50 : 50 < es.length
  · have d0 : decide (50 < (es.length : Int)) = true := decide_eq_true (by omega)
    go_enter Try.func6, Try.ntmps6
    go_wp2_with fail
    (try rw [← hB])
    clear hB
    refine (works_any _).mono ?_
    rintro en w2 ⟨rfl, hb⟩
    have hs2 := hs.belowStep hb
    clear hs hb
    go_wp2_with fail
    go_ret
    exact ⟨rfl, hs2.below⟩
  have hl1 : es.length ≤ 50 := by omega
  have d0 : decide (50 < (es.length : Int)) = false := decide_eq_false (by omega)
  cases hr : rightB nn es
  · have HR := Lib.hid hr
    clear hr
    go_enter Try.func6, Try.ntmps6
    go_wp2_with fail
    (try rw [← hB])
    clear hB
    refine (rright_any nn a c es _ (hs.rdG h)).mono ?_
    rintro en w1 ⟨rfl, hb⟩
    rw [HR.out]
    have hs1 := hs.belowStep hb
    clear hs hb n0 n1
    have hs := hs1
    clear hs1
    go_wp2_with fail
    refine (works_any _).mono ?_
    rintro en w2 ⟨rfl, hb⟩
    have hs2 := hs.belowStep hb
    clear hs hb
    go_wp2_with fail
    go_ret
    exact ⟨rfl, hs2.below⟩
  have HR := Lib.hid hr
  clear hr hl50
  go_enter Try.func6, Try.ntmps6
  go_wp2_with fail
  (try rw [← hB])
  clear hB
  refine (rright_any nn a c es _ (hs.rdG h)).mono ?_
  rintro en w1 ⟨rfl, hb⟩
  rw [HR.out]
  have hs1 := hs.belowStep hb
  clear hs hb n0 n1
  have hs := hs1
  clear hs1
  have n0 := cell_of (hs.cells 0 rfl) 0
  have n1 := cell_of (hs.cells 0 rfl) 1
  simp only [List.getElem?_toArray, List.getElem?_cons_zero, List.getElem?_cons_succ] at n0 n1
  go_upto_region 4 with fail
  replace hs := hs.newCells #[.int .i64 nn, .slice none 0 0] 24
  obtain ⟨B3, hB⟩ : ∃ B3, B3 = (w1).heap.size := ⟨_, rfl⟩
  rw [← hB] at hs ⊢
  clear hB n0 n1
  generalize World.alloc w1 _ = W3 at hs ⊢
  have n0 := cell_of (hs.cells 1 rfl) 0
  have n1 := cell_of (hs.cells 1 rfl) 1
  simp only [List.getElem?_toArray, List.getElem?_cons_zero, List.getElem?_cons_succ] at n0 n1
  go_upto_region 5 with fail
  replace hs := hs.newCells #[.int .i64 nn, .slice none 0 0] 24
  obtain ⟨B4, hB⟩ : ∃ B4, B4 = (W3).heap.size := ⟨_, rfl⟩
  rw [← hB] at hs ⊢
  clear hB n0 n1
  generalize World.alloc W3 _ = W4 at hs ⊢
  have n0 := cell_of (hs.cells 2 rfl) 0
  have n1 := cell_of (hs.cells 2 rfl) 1
  simp only [List.getElem?_toArray, List.getElem?_cons_zero, List.getElem?_cons_succ] at n0 n1
  go_upto_region 6 with fail
  replace hs := hs.newCells #[.int .i64 nn, .slice none 0 0] 24
  obtain ⟨B5, hB⟩ : ∃ B5, B5 = (W4).heap.size := ⟨_, rfl⟩
  rw [← hB] at hs ⊢
  clear hB n0 n1
  generalize World.alloc W4 _ = W5 at hs ⊢
  have hs2 : Sep w W5 [recT edR 34 (.slice none 0 0) (capsL (es.take 0)), cellsT B3 #[.int .i64 nn, .slice none 0 0] 24, recT edR 34 (.slice none 0 0) (twiceL (es.take 0)), cellsT B4 #[.int .i64 nn, .slice none 0 0] 24, recT edR 34 (.slice none (2 * 0) 0) (dupL (es.take 0)), cellsT B5 #[.int .i64 nn, .slice none (2 * 0) 0] 24, cellsT B1 #[.int .i64 nn, .slice a es.length c] 24] :=
    (((hs.nilRecs edR 34).nilRecs edR 34).nilRecs edR 34).perm (by exact perm7 _ _ _ _ _ _ _)
  clear hs
  go_wp2_with fail
  refine wp_loopM [none, none, some 2, none, none, none, some 6, some 7, some 8, none, none, none, none, none, none, none, none, none, none, none, none, none, none, none, none, none, none, none, none, none, none, none, none, none, none, none, none, none, none, some 39, some 40, some 41, some 42, some 43, some 44, some 45, some 46, some 47, some 48, some 49, some 50, some 51, some 52, some 53, some 54, some 55, some 56, some 57, some 58, some 59, some 60, some 61, some 62, some 63, some 64, some 65, some 66, some 67, some 68, some 69, some 70, some 71, some 72, some 73, some 74, some 75, some 76, some 77, some 78, some 79, some 80, some 81, some 82, some 83, some 84, some 85, some 86, some 87, some 88, some 89, some 90, some 91, some 92, some 93, none, none, none, none, none, none, none, none, none, none, none, none, none, none, none, none, none, none, none, none, none, none, none, none, none, none, none, none, none, none, none, none, none, none] (fun (r : Nat) (f : Nat → Value) (wr : World) => (fun (v : Value) => ∃ (i : Nat) (aa : Option Addr) (ca : Nat) (ab : Option Addr) (cb : Nat) (ac : Option Addr) (cc : Nat), v = .int .i64 i ∧ i ≤ es.length ∧ r = es.length - i ∧ (∀ j, j < i → (edAt es j).c ≤ 1073741824 ∧ -500 ≤ (edAt es j).k ∧ (edAt es j).k ≤ 500) ∧ Sep w wr [recT edR 34 (.slice aa i ca) (capsL (es.take i)), cellsT B3 #[.int .i64 nn, .slice aa i ca] 24, recT edR 34 (.slice ab i cb) (twiceL (es.take i)), cellsT B4 #[.int .i64 nn, .slice ab i cb] 24, recT edR 34 (.slice ac (2 * i) cc) (dupL (es.take i)), cellsT B5 #[.int .i64 nn, .slice ac (2 * i) cc] 24, cellsT B1 #[.int .i64 nn, .slice a es.length c] 24]) (f 6)) (es.length) (by kernel_rfl) ?atStart1 ?round1
  case' atStart1 => (try dsimp only [nthV])
  case' round1 =>
    intro gk f wr l hl hrel J1 K1 hJ1 hK1
    (try simp only [mask] at hl)
    generalize f 6 = u6 at hl hrel
    subst hl
    (try dsimp only at hrel)
  case atStart1 => exact ⟨0, none, 0, none, 0, none, 0, rfl, Nat.zero_le _, rfl, fun j hj => by omega, hs2⟩
  case round1 =>
    clear hs2
    obtain ⟨i, aa, ca, ab, cb, ac, cc, rfl, hi, rfl, hall, hs⟩ := hrel
    have HALL := Lib.hid hall
    clear hall
    have n0 := cell_of (hs.cells 6 rfl) 0
    have n1 := cell_of (hs.cells 6 rfl) 1
    simp only [List.getElem?_toArray, List.getElem?_cons_zero, List.getElem?_cons_succ] at n0 n1
    by_cases hlt : i < es.length
    · skip
      obtain ⟨b2, o2, eq2, _, hc2⟩ := (hs.rdG h).at i hlt
      subst eq2
      rw [← edAt_of hlt] at hc2
      have HCA := Lib.hid (caps_one hlt)
      have HTW := Lib.hid (twice_one hlt)
      have HDU := Lib.hid (dup_one hlt)
      have hEe := (edgeB_iff _ _).1 ((right_cap HR.out).2.2.2.2 _ (List.getElem_mem hlt))
      rw [← edAt_of hlt] at hEe
      obtain ⟨E, hE⟩ : ∃ E, E = edAt es i := ⟨_, rfl⟩
      rw [← hE] at hc2 HCA HTW HDU hEe
      have HE := Lib.hid hE
      clear hE
      have y0 := hc2 0 (by decide)
      have y1 := hc2 1 (by decide)
      have y2 := hc2 2 (by decide)
      have y3 := hc2 3 (by decide)
      simp only [edR, Nat.add_zero, List.getElem?_cons_zero, List.getElem?_cons_succ] at y0 y1 y2 y3
      obtain ⟨ef, et, ec, ek⟩ := E
      dsimp only at y0 y1 y2 y3 HCA HTW HDU hEe HE
      obtain ⟨_, _, c0, c1, k0, k1⟩ := hEe
      clear hc2
      have hiI : (i : Int) < es.length := by omega
      go_upto_region 10 with fail
      replace hs := hs.newCells #[.int .i64 ef, .int .i64 et, .int .i64 ec, .int .i64 ek] 34
      obtain ⟨B7, hB⟩ : ∃ B7, B7 = (wr).heap.size := ⟨_, rfl⟩
      rw [← hB] at hs ⊢
      clear hB n0 n1
      generalize World.alloc wr _ = W7 at hs ⊢
      clear y0 y1 y2 y3
      have x0 := cell_of (hs.cells 0 rfl) 0
      have x1 := cell_of (hs.cells 0 rfl) 1
      have x2 := cell_of (hs.cells 0 rfl) 2
      have x3 := cell_of (hs.cells 0 rfl) 3
      have xf := fun j => frozen_of (hs.cells 0 rfl) j
      simp only [List.getElem?_toArray, List.getElem?_cons_zero, List.getElem?_cons_succ] at x0 x1 x2 x3
      have n0 := cell_of (hs.cells 7 rfl) 0
      have n1 := cell_of (hs.cells 7 rfl) 1
      simp only [List.getElem?_toArray, List.getElem?_cons_zero, List.getElem?_cons_succ] at n0 n1
      by_cases q1 : 1073741824 < ec
      · go_wp2_with fail
        refine (works_any _).mono ?_
        rintro en w2 ⟨rfl, hb⟩
        have hs2 := hs.belowStep hb
        clear hs hb
        go_wp2_with fail
        go_ret
        exact ⟨rfl, hs2.below⟩
      by_cases q2 : 500 < ek
      · go_wp2_with fail
        refine (works_any _).mono ?_
        rintro en w2 ⟨rfl, hb⟩
        have hs2 := hs.belowStep hb
        clear hs hb
        go_wp2_with fail
        go_ret
        exact ⟨rfl, hs2.below⟩
      by_cases q3 : ek < -500
      · go_wp2_with fail
        refine (works_any _).mono ?_
        rintro en w2 ⟨rfl, hb⟩
        have hs2 := hs.belowStep hb
        clear hs hb
        go_wp2_with fail
        go_ret
        exact ⟨rfl, hs2.below⟩
      go_upto_region 13 with fail
      replace hs := hs.newCells #[.int .i64 ef, .int .i64 et, .int .i64 ec, .int .i64 ek] 34
      obtain ⟨B8, hB⟩ : ∃ B8, B8 = (W7).heap.size := ⟨_, rfl⟩
      rw [← hB] at hs ⊢
      clear hB n0 n1
      generalize World.alloc W7 _ = W8 at hs ⊢
      clear x0 x1 x2 x3
      have x0 := cell_of (hs.cells 0 rfl) 0
      have x1 := cell_of (hs.cells 0 rfl) 1
      have x2 := cell_of (hs.cells 0 rfl) 2
      have x3 := cell_of (hs.cells 0 rfl) 3
      have xf := fun j => frozen_of (hs.cells 0 rfl) j
      simp only [List.getElem?_toArray, List.getElem?_cons_zero, List.getElem?_cons_succ] at x0 x1 x2 x3
      go_upto_region 14 with fail
      have hs2 := hs.setC 0 rfl 2 (.int .i64 (ec * 2)) #[.int .i64 ef, .int .i64 et, .int .i64 (ec * 2), .int .i64 ek] rfl
      (try simp only [List.set_cons_zero, List.set_cons_succ] at hs2)
      clear hs x0 x1 x2 x3
      generalize World.setCell W8 _ _ = W9 at hs2 ⊢
      have hs := hs2
      clear hs2
      have x0 := cell_of (hs.cells 0 rfl) 0
      have x1 := cell_of (hs.cells 0 rfl) 1
      have x2 := cell_of (hs.cells 0 rfl) 2
      have x3 := cell_of (hs.cells 0 rfl) 3
      have xf := fun j => frozen_of (hs.cells 0 rfl) j
      simp only [List.getElem?_toArray, List.getElem?_cons_zero, List.getElem?_cons_succ] at x0 x1 x2 x3
      have m1 := cell_of (hs.cells 3 rfl) 1
      have mf := frozen_of (hs.cells 3 rfl) 1
      simp only [List.getElem?_toArray, List.getElem?_cons_zero, List.getElem?_cons_succ] at m1
      go_wp2_with (at_builtin; refine wpList_appRec edR rfl (.tmp 71) (.tmp 73) 22 rfl 34 e0 _ 32 Try.underlying22 he0 he1 he2 he3 rfl _ _ ⟨ef, et, ec * 2, ek⟩ hs 2 rfl _ rfl rfl rfl ?c3 ?c4 ?grow)
      case c3 => simp only [capsL_len, tk_len hi, maxLen]; omega
      case c4 => simp only [capsL_len, tk_len hi]; omega
      case grow =>
        intro v' w2 hs2 hv
        obtain ⟨g1, k1, rfl⟩ := hv.out
        rw [capsL_len, tk_len hi, Int.mul_comm ec 2, ← HCA.out] at hs2
        rw [capsL_len, tk_len hi]
        (try simp only [List.set_cons_zero, List.set_cons_succ] at hs2)
        clear hs hv m1 mf x0 x1 x2 x3 xf HCA
        have hs := hs2
        clear hs2
        have m1 := cell_of (hs.cells 3 rfl) 1
        have mf := frozen_of (hs.cells 3 rfl) 1
        simp only [List.getElem?_toArray, List.getElem?_cons_zero, List.getElem?_cons_succ] at m1
        go_upto_region 15 with fail
        have hs2 := hs.setC 3 rfl 1 (.slice (some ⟨g1, 0, none⟩) (i + 1) k1) #[.int .i64 nn, .slice (some ⟨g1, 0, none⟩) (i + 1) k1] rfl
        (try simp only [List.set_cons_zero, List.set_cons_succ] at hs2)
        clear hs m1 mf
        generalize World.setCell w2 _ _ = W10 at hs2 ⊢
        have hs := hs2
        clear hs2
        have x0 := cell_of (hs.cells 1 rfl) 0
        have x1 := cell_of (hs.cells 1 rfl) 1
        have x2 := cell_of (hs.cells 1 rfl) 2
        have x3 := cell_of (hs.cells 1 rfl) 3
        have xf := fun j => frozen_of (hs.cells 1 rfl) j
        simp only [List.getElem?_toArray, List.getElem?_cons_zero, List.getElem?_cons_succ] at x0 x1 x2 x3
        have y0 := cell_of (hs.cells 0 rfl) 0
        have y1 := cell_of (hs.cells 0 rfl) 1
        have y2 := cell_of (hs.cells 0 rfl) 2
        have y3 := cell_of (hs.cells 0 rfl) 3
        have yf := fun j => frozen_of (hs.cells 0 rfl) j
        simp only [List.getElem?_toArray, List.getElem?_cons_zero, List.getElem?_cons_succ] at y0 y1 y2 y3
        go_upto_region 16 with fail
        have hs2 := (((hs.setC 0 rfl 0 (.int .i64 ef) #[.int .i64 ef, .int .i64 et, .int .i64 (2 * ec), .int .i64 ek] (by simp)).setC 0 rfl 1 (.int .i64 et) #[.int .i64 ef, .int .i64 et, .int .i64 (2 * ec), .int .i64 ek] (by simp)).setC 0 rfl 2 (.int .i64 ec) #[.int .i64 ef, .int .i64 et, .int .i64 ec, .int .i64 ek] (by simp)).setC 0 rfl 3 (.int .i64 ek) #[.int .i64 ef, .int .i64 et, .int .i64 ec, .int .i64 ek] (by simp)
        (try simp only [List.set_cons_zero, List.set_cons_succ] at hs2)
        clear hs x0 x1 x2 x3 xf y0 y1 y2 y3 yf
        generalize World.setCell _ (⟨B8, 3, none⟩ : Addr) _ = W11 at hs2 ⊢
        have hs := hs2
        clear hs2
        have x0 := cell_of (hs.cells 0 rfl) 0
        have x1 := cell_of (hs.cells 0 rfl) 1
        have x2 := cell_of (hs.cells 0 rfl) 2
        have x3 := cell_of (hs.cells 0 rfl) 3
        have xf := fun j => frozen_of (hs.cells 0 rfl) j
        simp only [List.getElem?_toArray, List.getElem?_cons_zero, List.getElem?_cons_succ] at x0 x1 x2 x3
        go_upto_region 17 with fail
        have hs2 := hs.setC 0 rfl 3 (.int .i64 (ek * 2)) #[.int .i64 ef, .int .i64 et, .int .i64 ec, .int .i64 (ek * 2)] rfl
        (try simp only [List.set_cons_zero, List.set_cons_succ] at hs2)
        clear hs x0 x1 x2 x3 xf
        generalize World.setCell W11 _ _ = W12 at hs2 ⊢
        have hs := hs2
        clear hs2
        have x0 := cell_of (hs.cells 0 rfl) 0
        have x1 := cell_of (hs.cells 0 rfl) 1
        have x2 := cell_of (hs.cells 0 rfl) 2
        have x3 := cell_of (hs.cells 0 rfl) 3
        have xf := fun j => frozen_of (hs.cells 0 rfl) j
        simp only [List.getElem?_toArray, List.getElem?_cons_zero, List.getElem?_cons_succ] at x0 x1 x2 x3
        have m1 := cell_of (hs.cells 5 rfl) 1
        have mf := frozen_of (hs.cells 5 rfl) 1
        simp only [List.getElem?_toArray, List.getElem?_cons_zero, List.getElem?_cons_succ] at m1
        go_wp2_with (at_builtin; refine wpList_appRec edR rfl (.tmp 82) (.tmp 84) 22 rfl 34 e0 _ 32 Try.underlying22 he0 he1 he2 he3 rfl _ _ ⟨ef, et, ec, ek * 2⟩ hs 4 rfl _ rfl rfl rfl ?c5 ?c6 ?grow2)
        case c5 => simp only [twiceL_len, tk_len hi, maxLen]; omega
        case c6 => simp only [twiceL_len, tk_len hi]; omega
        case grow2 =>
          intro v' w3 hs2 hv
          obtain ⟨g2, k2, rfl⟩ := hv.out
          rw [twiceL_len, tk_len hi, Int.mul_comm ek 2, ← HTW.out] at hs2
          rw [twiceL_len, tk_len hi]
          (try simp only [List.set_cons_zero, List.set_cons_succ] at hs2)
          clear hs hv m1 mf x0 x1 x2 x3 xf HTW
          have hs := hs2
          clear hs2
          have m1 := cell_of (hs.cells 5 rfl) 1
          have mf := frozen_of (hs.cells 5 rfl) 1
          simp only [List.getElem?_toArray, List.getElem?_cons_zero, List.getElem?_cons_succ] at m1
          go_upto_region 18 with fail
          have hs2 := hs.setC 5 rfl 1 (.slice (some ⟨g2, 0, none⟩) (i + 1) k2) #[.int .i64 nn, .slice (some ⟨g2, 0, none⟩) (i + 1) k2] rfl
          (try simp only [List.set_cons_zero, List.set_cons_succ] at hs2)
          clear hs m1 mf
          generalize World.setCell w3 _ _ = W13 at hs2 ⊢
          have hs := hs2
          clear hs2
          have x0 := cell_of (hs.cells 1 rfl) 0
          have x1 := cell_of (hs.cells 1 rfl) 1
          have x2 := cell_of (hs.cells 1 rfl) 2
          have x3 := cell_of (hs.cells 1 rfl) 3
          have xf := fun j => frozen_of (hs.cells 1 rfl) j
          simp only [List.getElem?_toArray, List.getElem?_cons_zero, List.getElem?_cons_succ] at x0 x1 x2 x3
          have hs3 := hs.litRecs edR 34 [⟨ef, et, ec, ek⟩, ⟨ef, et, ec, ek⟩] (by simp [maxLen])
          replace hs3 : Sep w (W13.alloc (.cells #[.int .i64 ef, .int .i64 et, .int .i64 ec, .int .i64 ek, .int .i64 ef, .int .i64 et, .int .i64 ec, .int .i64 ek] 34)) _ := hs3
          simp only [List.length_cons, List.length_nil, Nat.reduceAdd] at hs3
          have m1 := cell_of (hs3.cells 8 rfl) 1
          have mf := frozen_of (hs3.cells 8 rfl) 1
          simp only [List.getElem?_toArray, List.getElem?_cons_zero, List.getElem?_cons_succ] at m1
          have m2 := cell_of (hs.cells 7 rfl) 1
          simp only [List.getElem?_toArray, List.getElem?_cons_zero, List.getElem?_cons_succ] at m2
          go_wp2_with (at_builtin; refine wpList_appRdG edR rfl (.tmp 88) (.tmp 91) 22 rfl 34 e0 _ 32 Try.underlying22 he0 he1 he2 he3 rfl _ _ _ _ hs3 7 rfl (hs3.rdRecs 0 rfl) rfl rfl ?c7 ?c8 ?grow3)
          case c7 => simp only [dupL, dup_len, tk_len hi, maxLen, List.length_cons, List.length_nil]; omega
          case c8 => simp only [dupL, dup_len, tk_len hi, List.length_cons, List.length_nil]; omega
          case grow3 =>
            intro v' w4 hs2
            obtain ⟨ad, cd, rfl⟩ := (hs2.rdRecs 7 rfl).shape
            have hl2 : (dupL (es.take i) ++ ([⟨ef, et, ec, ek⟩, ⟨ef, et, ec, ek⟩] : List Ed)).length = 2 * (i + 1) := by
              simp only [dupL, dup_len, List.length_append, tk_len hi, List.length_cons, List.length_nil]; omega
            rw [hl2] at hs2 ⊢
            rw [← HDU.out] at hs2
            clear hl2 hs hs3 m1 m2 mf HDU
            replace hs := hs2.tail
            clear hs2
            have m1 := cell_of (hs.cells 7 rfl) 1
            have mf := frozen_of (hs.cells 7 rfl) 1
            simp only [List.getElem?_toArray, List.getElem?_cons_zero, List.getElem?_cons_succ] at m1
            have hs4 := (hs.setC 7 rfl 1 (.slice ad (2 * (i + 1)) cd) #[.int .i64 nn, .slice ad (2 * (i + 1)) cd] rfl).tail.tail
            go_wp2_with fail
            refine Round.intro (es.length - (i + 1)) ?measure2 (by kernel_rfl) (hJ1 _ _ _ ?rel2)
            case' rel2 => (try dsimp only [nthV])
            case measure2 => omega
            case rel2 =>
              refine ⟨i + 1, some ⟨g1, 0, none⟩, k1, some ⟨g2, 0, none⟩, k2, ad, cd, by go_num, hlt, rfl, fun j hj => ?_, hs4⟩
              rcases Nat.lt_or_ge j i with q | q
              · exact HALL.out j q
              · obtain rfl : j = i := by omega
                rw [← HE.out]; dsimp only; omega
    · obtain rfl : i = es.length := by omega
      rw [List.take_length] at hs
      have hmem : ∀ e ∈ es, e.c ≤ 1073741824 ∧ -500 ≤ e.k ∧ e.k ≤ 500 := fun e he => by
        obtain ⟨j, hj, rfl⟩ := List.getElem_of_mem he
        have := HALL.out j hj
        rw [edAt_of hj] at this; exact this
      have HC := Lib.hid (caps_right HR.out fun e he => (hmem e he).1)
      have HT := Lib.hid (twice_right HR.out (fun e he => (hmem e he).1) fun e he => (hmem e he).2)
      have HD := Lib.hid (dup_right HR.out (by omega) fun e he => (hmem e he).1)
      clear hmem hlt hi HALL
      go_wp2_with fail
      refine (least_any nn a c es _ (hs.rdG h) HR.out).mono ?_
      rintro en w5 ⟨⟨fl, pot, hck, rfl⟩, hb⟩
      have hs2 := hs.belowStep hb
      clear hs hb n0 n1
      have hs := hs2
      clear hs2
      have HQ1 := Lib.hid (show ∀ fl' pot', checkB nn (capsL es) fl' pot' = true → costV nn (capsL es) fl' = 2 * costV nn es fl from fun fl' pot' q => (check_cost q (caps_check hck HC.out).1).trans (caps_check hck HC.out).2)
      have HQ2 := Lib.hid (show ∀ fl' pot', checkB nn (twiceL es) fl' pot' = true → costV nn (twiceL es) fl' = 2 * costV nn es fl from fun fl' pot' q => twice_cost hck q)
      have HQ3 := Lib.hid (show ∀ fl' pot', checkB nn (dupL es) fl' pot' = true → costV nn (dupL es) fl' = 2 * costV nn es fl from fun fl' pot' q => (check_cost q (dup_check hck HD.out).1).trans (dup_check hck HD.out).2)
      have hb0 := cost_bound2 (flows_iff.1 (check_flows hck)).1
      have hb1 := cost_low hck HR.out
      obtain ⟨K, hK⟩ : ∃ K, K = costV nn es fl := ⟨_, rfl⟩
      rw [← hK] at HQ1 HQ2 HQ3 hb0 hb1 ⊢
      obtain ⟨hb0, _⟩ := hb0
      clear hK hck
      have a0 := cell_of (hs.cells 1 rfl) 0
      have a1 := cell_of (hs.cells 1 rfl) 1
      have b0 := cell_of (hs.cells 3 rfl) 0
      have b1 := cell_of (hs.cells 3 rfl) 1
      have d0 := cell_of (hs.cells 5 rfl) 0
      have d1 := cell_of (hs.cells 5 rfl) 1
      simp only [List.getElem?_toArray, List.getElem?_cons_zero, List.getElem?_cons_succ] at a0 a1 b0 b1 d0 d1
      go_upto_region 21 with fail
      have hs2 := hs.newCells #[.int .i64 nn, .slice aa es.length ca, .int .i64 nn, .slice ab es.length cb, .int .i64 nn, .slice ac (2 * es.length) cc] 24
      obtain ⟨B6, hB⟩ : ∃ B6, B6 = w5.heap.size := ⟨_, rfl⟩
      rw [← hB] at hs2 ⊢
      clear hB hs a0 a1 b0 b1 d0 d1
      generalize World.alloc w5 _ = W6 at hs2 ⊢
      go_wp2_with fail
      refine wp_loopM [none, none, some 2, none, none, none, none, none, none, none, none, none, some 12, some 13, some 14, none, none, none, none, none, none, none, none, none, none, none, none, none, none, none, none, none, none, none, none, none, none, none, none, none, none, none, none, none, none, none, none, none, none, none, none, none, none, none, none, none, none, none, none, none, none, none, none, none, none, none, none, none, none, none, none, none, none, none, none, none, none, none, none, none, none, none, none, none, none, none, none, none, none, none, none, none, none, none, none, none, none, none, none, none, none, none, none, some 103, some 104, some 105, some 106, some 107, some 108, some 109, some 110, some 111, some 112, some 113, some 114, some 115, some 116, some 117, some 118, some 119, some 120, some 121, some 122, some 123, some 124, some 125, some 126, none] (fun (r : Nat) (f : Nat → Value) (wr : World) => (fun (v : Value) => ∃ (i : Nat), v = .int .i64 i ∧ i ≤ 3 ∧ r = 3 - i ∧ Sep w wr [cellsT B6 #[.int .i64 nn, .slice aa es.length ca, .int .i64 nn, .slice ab es.length cb, .int .i64 nn, .slice ac (2 * es.length) cc] 24, recT edR 34 (.slice aa es.length ca) (capsL es), cellsT B3 #[.int .i64 nn, .slice aa es.length ca] 24, recT edR 34 (.slice ab es.length cb) (twiceL es), cellsT B4 #[.int .i64 nn, .slice ab es.length cb] 24, recT edR 34 (.slice ac (2 * es.length) cc) (dupL es), cellsT B5 #[.int .i64 nn, .slice ac (2 * es.length) cc] 24, cellsT B1 #[.int .i64 nn, .slice a es.length c] 24]) (f 12)) (3) (by kernel_rfl) ?atStart3 ?round3
      case' atStart3 => (try dsimp only [nthV])
      case' round3 =>
        intro gk f wr l hl hrel J2 K2 hJ2 hK2
        (try simp only [mask] at hl)
        generalize f 12 = u12 at hl hrel
        subst hl
        (try dsimp only at hrel)
      case atStart3 => exact ⟨0, rfl, by omega, rfl, hs2⟩
      case round3 =>
        clear hs2
        obtain ⟨i, rfl, hi, rfl, hs⟩ := hrel
        rcases i with _ | _ | _ | i
        · have p0 := cell_of (hs.cells 0 rfl) 0
          have p1 := cell_of (hs.cells 0 rfl) 1
          simp only [List.getElem?_toArray, List.getElem?_cons_zero, List.getElem?_cons_succ] at p0 p1
          go_wp2_with fail
          refine (least_l nn aa ca (capsL es) es.length _ (capsL_len es) (hs.rdRecs 1 rfl) HC.out).mono ?_
          rintro en w6 ⟨⟨fl', pot', hck', rfl⟩, hb⟩
          rw [HQ1.out fl' pot' hck']
          have hs2 := hs.belowStep hb
          clear hs hb p0 p1 hck'
          go_wp2_with fail
          refine Round.intro (3 - 1) ?measure4 (by kernel_rfl) (hJ2 _ _ _ ?rel4)
          case' rel4 => (try dsimp only [nthV])
          case measure4 => omega
          case rel4 => exact ⟨1, by go_num, by omega, rfl, hs2⟩
        · have p0 := cell_of (hs.cells 0 rfl) 2
          have p1 := cell_of (hs.cells 0 rfl) 3
          simp only [List.getElem?_toArray, List.getElem?_cons_zero, List.getElem?_cons_succ] at p0 p1
          go_wp2_with fail
          refine (least_l nn ab cb (twiceL es) es.length _ (twiceL_len es) (hs.rdRecs 3 rfl) HT.out).mono ?_
          rintro en w6 ⟨⟨fl', pot', hck', rfl⟩, hb⟩
          rw [HQ2.out fl' pot' hck']
          have hs2 := hs.belowStep hb
          clear hs hb p0 p1 hck'
          go_wp2_with fail
          refine Round.intro (3 - 2) ?measure5 (by kernel_rfl) (hJ2 _ _ _ ?rel5)
          case' rel5 => (try dsimp only [nthV])
          case measure5 => omega
          case rel5 => exact ⟨2, by go_num, by omega, rfl, hs2⟩
        · have p0 := cell_of (hs.cells 0 rfl) 4
          have p1 := cell_of (hs.cells 0 rfl) 5
          simp only [List.getElem?_toArray, List.getElem?_cons_zero, List.getElem?_cons_succ] at p0 p1
          go_wp2_with fail
          refine (least_l nn ac cc (dupL es) (2 * es.length) _ (dup_len es) (hs.rdRecs 5 rfl) HD.out).mono ?_
          rintro en w6 ⟨⟨fl', pot', hck', rfl⟩, hb⟩
          rw [HQ3.out fl' pot' hck']
          have hs2 := hs.belowStep hb
          clear hs hb p0 p1 hck'
          go_wp2_with fail
          refine Round.intro (3 - 3) ?measure6 (by kernel_rfl) (hJ2 _ _ _ ?rel6)
          case' rel6 => (try dsimp only [nthV])
          case measure6 => omega
          case rel6 => exact ⟨3, by go_num, by omega, rfl, hs2⟩
        · obtain rfl : i = 0 := by omega
          go_wp2_with fail
          refine (works_any _).mono ?_
          rintro en w2 ⟨rfl, hb⟩
          have hs2 := hs.belowStep hb
          clear hs hb
          go_wp2_with fail
          go_ret
          exact ⟨rfl, hs2.below⟩
end Go.Proofs.Ytacbfpgijmpilaa
