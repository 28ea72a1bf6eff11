/-
  DuesGross, walked.
-/
import Derived.Test.YthcmkljdhhepgaaUdStep
import Derived.Deep.CutBlock
set_option linter.unusedVariables false
set_option linter.unusedSimpArgs false
namespace Go.Proofs.Ythcmkljdhhepgaa
open Go Go.RowKit Go.Mem Go.MoneyP Go.NetP Go.BuildP Go.DuesP Go.Maps Go.Shelf
attribute [local go_sem] Oper.semAt_some
theorem ne_self (x : Int) : (x != x) = false := by simp
/-- A step as it lies alone. -/
abbrev stC (B : Nat) (s : St) : Thing := cellsT B #[.int .i64 s.q, .int .u64 s.id, .int .i64 s.a, .int .i64 s.b, .int .i64 s.x, .int .i64 s.w, .int .i64 s.u] 48
/-- What a round of DuesGross leaves behind its switch. -/
def GroP (w : World) (b BS : Nat) (s : St) (vG vl : Value) (wq : World) : Prop := ∃ (xs : List Du) (nx : Int), vG = .int .i64 (sumX xs) ∧ vl = .int .u64 (nx - 1) ∧ Hid (GoodS xs nx) ∧ Sep w wq [stC BS s, duesT b xs nx]
set_option maxRecDepth 100000 in
set_option maxHeartbeats 16000000 in
theorem lawGross_any (l : List St) (v : Value) (w : World) (h : RdG stR w v l) (hok : ∀ s ∈ l, s.Ok) : Calls Try.prog 4 #[v] w fun en w' => en = .returned (.bool true) ∧ Below w.heap.size w w' := by
  obtain ⟨al, cl, rfl⟩ := h.shape
  have hle := h.le'
  obtain ⟨n, hn⟩ : ∃ n, n = l.length := ⟨_, rfl⟩
  have HN := Lib.hid hn
  have HR := Lib.hid h
  have HOK := Lib.hid hok
  rw [← hn] at hle ⊢
  clear h hok hn
  have NX := ne_self
  by_cases h150 : 150 < n
  · have hI : decide ((150 : Int) < (n : Int)) = true := decide_eq_true (by omega)
    go_enter Try.func4, Try.ntmps4
    go_wp2_with fail
    refine (works_any _).mono ?_
    rintro en w1 ⟨rfl, hb⟩
    go_wp2_with fail
    go_ret
    exact ⟨rfl, hb⟩
  have hI : decide ((150 : Int) < (n : Int)) = false := decide_eq_false (by omega)
  go_enter Try.func4, Try.ntmps4
  go_wp2_with fail
  refine (duesNew_any (Sep.start w)).mono ?_
  rintro en w1 ⟨b, rfl, hs⟩
  go_wp2_with fail
  refine wp_loopM [none, none, some 2, none, some 4, some 5, some 6, some 7, some 8, some 9, some 10, some 11, some 12, some 13, some 14, some 15, some 16, some 17, some 18, none, none, none, none, none, some 24, some 25, some 26, some 27, some 28, some 29, some 30, some 31, some 32, some 33, some 34, some 35, some 36, some 37, some 38, some 39, some 40, some 41, some 42, some 43, some 44, some 45, some 46, some 47, some 48, some 49, some 50, some 51, some 52, some 53, some 54, some 55, some 56, some 57, some 58, some 59, some 60, some 61, some 62, some 63, some 64, some 65, some 66, some 67, some 68, some 69, some 70, some 71, some 72, some 73, some 74, some 75, some 76, some 77, some 78, some 79, some 80, some 81, some 82, some 83, some 84, some 85, some 86, some 87, some 88, some 89, some 90, some 91, some 92, some 93, some 94, some 95, some 96, some 97, some 98, some 99, some 100, some 101, some 102, some 103, some 104, some 105, some 106, some 107, some 108, some 109, some 110, some 111, some 112, some 113, some 114, some 115, some 116, some 117, some 118, some 119, some 120, some 121, some 122, some 123, some 124, some 125, some 126, some 127, some 128, some 129, some 130, some 131, some 132, some 133, some 134, some 135, some 136, some 137, some 138, some 139, some 140, some 141, some 142, some 143, some 144, some 145, some 146, some 147, some 148, some 149, some 150, some 151, some 152, some 153, some 154, some 155, some 156, some 157, some 158, some 159, some 160, some 161, some 162, some 163, some 164, some 165, some 166, some 167, some 168, some 169, some 170, some 171, some 172, some 173, some 174, some 175, some 176, some 177, some 178, some 179, some 180, some 181, some 182, some 183, some 184, some 185, some 186, some 187, some 188, some 189, some 190, some 191, some 192, some 193, some 194, some 195, some 196, some 197, some 198, some 199, some 200, some 201, some 202, some 203, some 204, some 205, some 206, some 207, some 208, some 209, some 210, none] (fun (r : Nat) (f : Nat → Value) (wr : World) => (fun (vG vl vi : Value) => ∃ (j : Nat) (xs : List Du) (nx : Int), vi = .int .i64 j ∧ vG = .int .i64 (sumX xs) ∧ vl = .int .u64 (nx - 1) ∧ j ≤ n ∧ r = n - j ∧ Hid (GoodS xs nx) ∧ Sep w wr [duesT b xs nx]) (f 4) (f 5) (f 6)) (n) (by kernel_rfl) ?atStart1 ?round1
  case' atStart1 => (try dsimp only [nthV])
  case' round1 =>
    intro gk f wr l hl hrel J1 K1 hJ1 hK1
    (try simp only [mask] at hl)
    generalize f 4 = u4 at hl hrel
    generalize f 5 = u5 at hl hrel
    generalize f 6 = u6 at hl hrel
    subst hl
    (try dsimp only at hrel)
  case atStart1 => exact ⟨0, [], 1, rfl, rfl, rfl, Nat.zero_le _, rfl, Lib.hid GoodS.nil, hs⟩
  case round1 =>
    clear hs
    obtain ⟨j, xs, nx, rfl, rfl, rfl, hjn, rfl, HG, hs⟩ := hrel
    by_cases hj : j < n
    · have hjI : (j : Int) < (n : Int) := by omega
      have hjl : j < l.length := by rw [← HN.out]; exact hj
      obtain ⟨bq, oq, eq, hbq, hcell⟩ := HR.out.at j hjl
      have z0 := (hs.cell hbq).trans (hcell 0 (by decide))
      have z1 := (hs.cell hbq).trans (hcell 1 (by decide))
      have z2 := (hs.cell hbq).trans (hcell 2 (by decide))
      have z3 := (hs.cell hbq).trans (hcell 3 (by decide))
      have z4 := (hs.cell hbq).trans (hcell 4 (by decide))
      have z5 := (hs.cell hbq).trans (hcell 5 (by decide))
      have z6 := (hs.cell hbq).trans (hcell 6 (by decide))
      obtain ⟨s, hsl⟩ : ∃ s : St, s = l[j]'hjl := ⟨_, rfl⟩
      have HSO := Lib.hid (show s.Ok by rw [hsl]; exact HOK.out _ (List.getElem_mem hjl))
      simp only [stR, List.getElem?_cons_zero, List.getElem?_cons_succ, Nat.add_zero, ← hsl] at z0 z1 z2 z3 z4 z5 z6
      clear hcell hsl hjl hbq
      subst eq
      obtain ⟨S, hS⟩ : ∃ S, S = sumX xs := ⟨_, rfl⟩
      have HS := Lib.hid hS
      have hS0 : 0 ≤ S := by rw [hS]; exact HG.out.s0
      have hS1 : S ≤ 4503599627370496 := by rw [hS]; exact HG.out.s1
      have hn1 : 1 ≤ nx := HG.out.n1
      have hn2 : nx ≤ 4611686018427387904 := HG.out.n2
      rw [← hS]
      clear hS
      have hb := hs.newCells #[.int .i64 s.q, .int .u64 s.id, .int .i64 s.a, .int .i64 s.b, .int .i64 s.x, .int .i64 s.w, .int .i64 s.u] 48
      obtain ⟨BS, hBS⟩ : ∃ BS, BS = wr.heap.size := ⟨_, rfl⟩
      have HBS := Lib.hid hBS
      have hb : Sep w _ [stC wr.heap.size s, duesT b xs nx] := hb
      have HL := Lib.hid (duesList_any hb (i := 1) rfl HG.out)
      clear hs hb hBS
      go_wp2_with fail
      refine HL.out.mono ?_
      rintro en w2 ⟨vw, rfl, hs⟩
      rw [← HBS.out] at hs ⊢
      obtain ⟨aw, cw, rfl⟩ := (hs.rdRecs 0 rfl).shape
      obtain ⟨N2, hN2⟩ : ∃ N, N = xs.length := ⟨_, rfl⟩
      have HN2 := Lib.hid hN2
      have hN2l : N2 ≤ 64 := by rw [hN2]; exact HG.out.len
      rw [← hN2] at hs ⊢
      clear hN2
      clear HL z0 z1 z2 z3 z4 z5 z6 HBS
      have c0 := cell_of (hs.cells 1 rfl) 0
      have c1 := cell_of (hs.cells 1 rfl) 1
      have c2 := cell_of (hs.cells 1 rfl) 2
      have c3 := cell_of (hs.cells 1 rfl) 3
      have c4 := cell_of (hs.cells 1 rfl) 4
      have c5 := cell_of (hs.cells 1 rfl) 5
      have c6 := cell_of (hs.cells 1 rfl) 6
      simp only [List.getElem?_toArray, List.getElem?_cons_zero, List.getElem?_cons_succ] at c0 c1 c2 c3 c4 c5 c6
      go_upto_block 2 with fail
      refine wp_cutM [none, none, some 2, none, some 4, some 5, none, none, none, some 9, some 10, some 11, some 12, some 13, some 14, some 15, none, none, none, none, none, none, none, none, none, none, none, none, none, none, none, none, none, none, none, none, some 36, some 37, some 38, some 39, some 40, some 41, some 42, some 43, some 44, some 45, some 46, some 47, some 48, some 49, some 50, some 51, some 52, some 53, some 54, some 55, some 56, some 57, some 58, some 59, some 60, some 61, some 62, some 63, some 64, some 65, some 66, some 67, some 68, some 69, some 70, some 71, some 72, some 73, some 74, some 75, some 76, some 77, some 78, some 79, some 80, some 81, some 82, some 83, some 84, some 85, some 86, some 87, some 88, some 89, some 90, some 91, some 92, some 93, some 94, some 95, some 96, some 97, some 98, some 99, some 100, some 101, some 102, some 103, some 104, some 105, some 106, some 107, some 108, some 109, some 110, some 111, some 112, some 113, some 114, some 115, some 116, some 117, some 118, some 119, some 120, some 121, some 122, some 123, some 124, some 125, some 126, some 127, some 128, some 129, some 130, some 131, some 132, some 133, some 134, some 135, some 136, some 137, some 138, some 139, some 140, some 141, some 142, some 143, some 144, none, none, none, none, none, none, none, none, none, none, none, none, none, none, none, none, none, none, none, none, none, none, none, none, none, none, none, none, none, none, none, none, none, none, none, none, none, none, none, none, none, none, none, none, none, none, none, none, none, none, none, none, none, none, none, none, none, none, none, none, none, none, none, none, none, none, none] (fun (f : Nat → Value) (wq : World) => (fun (vG vl : Value) => GroP w b BS s vG vl wq) (f 4) (f 5)) ?first2 ?rest2
      case' first2 => intro JC KC hJC hKC
      case' rest2 =>
        intro f wr l hl hrel
        (try simp only [mask] at hl)
        generalize f 4 = u4 at hl hrel
        generalize f 5 = u5 at hl hrel
        subst hl
        (try dsimp only at hrel)
      case first2 =>
        have hi0 := HSO.out.i0
        have hi1 := HSO.out.i1
        obtain ⟨q, id, a, b2, x, we, u⟩ := s
        dsimp only at c0 c1 c2 c3 c4 c5 c6 hi0 hi1
        by_cases d1 : q = 1
        · subst d1
          have HC := Lib.hid (duesAdd_any hs (i := 2) rfl HG.out a b2 x we u)
          unfold AddD at HC
          obtain ⟨E, hE⟩ : ∃ E, E = addE xs nx ⟨nx, a, b2, x, we, u, false⟩ := ⟨_, rfl⟩
          by_cases hz : E = 0
          · subst hz
            obtain ⟨A1, A2, A3⟩ : addI xs nx ⟨nx, a, b2, x, we, u, false⟩ = nx ∧ addS xs nx ⟨nx, a, b2, x, we, u, false⟩ = xs ++ [⟨nx, a, b2, x, we, u, false⟩] ∧ addN xs nx ⟨nx, a, b2, x, we, u, false⟩ = nx + 1 := by
              unfold addI addS addN; rw [← hE]; exact ⟨if_pos rfl, if_pos rfl, if_pos rfl⟩
            rw [A1, A2, A3, ← hE] at HC
            have HG2 := Lib.hid (show GoodS (xs ++ [⟨nx, a, b2, x, we, u, false⟩]) (nx + 1) from HG.out.add rfl hE.symm)
            have HSX := Lib.hid (show sumX (xs ++ [⟨nx, a, b2, x, we, u, false⟩]) = S + x by rw [sumX_app, sumX_one, ← HS.out])
            have hsx : S + x ≤ 4503599627370496 := by rw [← HSX.out]; exact HG2.out.s1
            have hx1 : 1 ≤ x := (HG2.out.xb ⟨nx, a, b2, x, we, u, false⟩ (by simp)).1
            have hnl : ¬ nx ≤ nx - 1 := by omega
            clear hs hE A1 A2 A3
            go_wp2_with fail
            refine HC.out.mono ?_
            rintro en w3 ⟨rfl, hs⟩
            have HT := Lib.hid (show Sep w w3 [stC BS ⟨1, id, a, b2, x, we, u⟩, duesT b (xs ++ [⟨nx, a, b2, x, we, u, false⟩]) (nx + 1)] from hs.tail)
            clear HC c0 c1 c2 c3 c4 c5 c6
            have c4 := cell_of (hs.cells 1 rfl) 4
            simp only [List.getElem?_toArray, List.getElem?_cons_zero, List.getElem?_cons_succ] at c4
            clear hs
            go_wp2_with fail
            refine Meet.intro (by kernel_rfl) (hJC _ _ ?rel3)
            case' rel3 => (try dsimp only [nthV])
            exact ⟨xs ++ [⟨nx, a, b2, x, we, u, false⟩], nx + 1, by rw [HSX.out], by congr 1; omega, HG2, HT.out⟩
          · obtain ⟨A1, A2, A3⟩ := add_err hE.symm hz
            rw [A1, A2, A3, ← hE] at HC
            clear hs hE A1 A2 A3
            go_wp2_with fail
            refine HC.out.mono ?_
            rintro en w3 ⟨rfl, hs⟩
            have HT := Lib.hid (show Sep w w3 [stC BS ⟨1, id, a, b2, x, we, u⟩, duesT b xs nx] from hs.tail)
            clear HC hs c0 c1 c2 c3 c4 c5 c6
            go_wp2_with fail
            refine Meet.intro (by kernel_rfl) (hJC _ _ ?rel4)
            case' rel4 => (try dsimp only [nthV])
            exact ⟨xs, nx, by rw [HS.out], rfl, Lib.hid (by have h := HG.out; exact h), HT.out⟩
        · have e1 : (q == 1) = false := by simpa using d1
          by_cases d2 : q = 2
          · subst d2
            have HC := Lib.hid (hold_u hs (i := 2) rfl HG.out id hi0 hi1)
            clear hs d1 e1
            go_wp2_with fail
            refine HC.out.mono ?_
            rintro en w3 ⟨rfl, hs⟩
            have HT := Lib.hid (show Sep w w3 [stC BS ⟨2, id, a, b2, x, we, u⟩, duesT b (turnS (heldF true) xs id) nx] from hs.tail)
            clear hs HC
            go_wp2_with fail
            refine Meet.intro (by kernel_rfl) (hJC _ _ ?rel5)
            case' rel5 => (try dsimp only [nthV])
            exact ⟨turnS (heldF true) xs id, nx, by rw [held_sum true xs nx HG.out, HS.out], rfl, Lib.hid (by have h := HG.out; exact h.turn (fine_held true) id), HT.out⟩
          · have e2 : (q == 2) = false := by simpa using d2
            by_cases d3 : q = 3
            · subst d3
              have HC := Lib.hid (release_u hs (i := 2) rfl HG.out id hi0 hi1)
              clear hs d1 e1 d2 e2
              go_wp2_with fail
              refine HC.out.mono ?_
              rintro en w3 ⟨rfl, hs⟩
              have HT := Lib.hid (show Sep w w3 [stC BS ⟨3, id, a, b2, x, we, u⟩, duesT b (turnS (heldF false) xs id) nx] from hs.tail)
              clear hs HC
              go_wp2_with fail
              refine Meet.intro (by kernel_rfl) (hJC _ _ ?rel6)
              case' rel6 => (try dsimp only [nthV])
              exact ⟨turnS (heldF false) xs id, nx, by rw [held_sum false xs nx HG.out, HS.out], rfl, Lib.hid (by have h := HG.out; exact h.turn (fine_held false) id), HT.out⟩
            · have e3 : (q == 3) = false := by simpa using d3
              by_cases d4 : q = 4
              · subst d4
                have HC := Lib.hid (duesGet_any hs (i := 2) rfl id hi0 hi1)
                obtain ⟨f1, f2, f3, f4⟩ := cancel_facts HG.out id
                obtain ⟨D, hD⟩ : ∃ D : Du, D = getV xs id := ⟨_, rfl⟩
                obtain ⟨B, hB⟩ : ∃ B, B = getB xs id := ⟨_, rfl⟩
                obtain ⟨E, hE⟩ : ∃ E, E = turnE cancelF xs id := ⟨_, rfl⟩
                obtain ⟨ys, hys⟩ : ∃ ys, ys = turnS cancelF xs id := ⟨_, rfl⟩
                have HY := Lib.hid (show GoodS ys nx by rw [hys]; exact HG.out.turn fine_cancel id)
                have HYE := Lib.hid hys
                have HEE := Lib.hid hE
                rw [← hD, ← hB] at HC
                rw [← hE, ← hB] at f1
                rw [← hys, ← HS.out, ← hD] at f2
                rw [← hD] at f3 f4
                have HF2 := Lib.hid f2
                clear hs hD hB hE hys f2 d1 d2 d3 e1 e2 e3
                obtain ⟨di, df, dt, dx, dw, du, dh⟩ := D
                dsimp only [Du.val] at HC f3 f4 HF2
                go_wp2_with fail
                refine HC.out.mono ?_
                rintro en w3 ⟨rfl, hs⟩
                clear HC c0 c1 c2 c3 c4 c5 c6
                have hs4 := hs.newCells #[.int .u64 di, .int .i64 df, .int .i64 dt, .int .i64 dx, .int .i64 dw, .int .i64 du, .bool dh] 36
                have c1 := cell_of (hs4.cells 2 rfl) 1
                simp only [List.getElem?_toArray, List.getElem?_cons_zero, List.getElem?_cons_succ] at c1
                obtain ⟨BY, hBY⟩ : ∃ BY, BY = w3.heap.size := ⟨_, rfl⟩
                rw [← hBY] at hs4
                have HBY := Lib.hid hBY
                have HC := Lib.hid (cancel_u hs4 (i := 3) rfl HG.out id hi0 hi1)
                unfold TurnD at HC
                rw [← HEE.out, ← HYE.out] at HC
                clear hs hs4 hBY
                go_wp2_with fail
                refine HC.out.mono ?_
                rintro en w4 ⟨rfl, hs⟩
                have HT := Lib.hid (show Sep w w4 [stC BS ⟨4, id, a, b2, x, we, u⟩, duesT b ys nx] from hs.tail.tail)
                rw [← HBY.out]
                have c3 := cell_of (hs.cells 0 rfl) 3
                simp only [List.getElem?_toArray, List.getElem?_cons_zero, List.getElem?_cons_succ] at c3
                clear HC hs c1 HBY HEE
                rcases f1 with ⟨rfl, rfl⟩ | ⟨rfl, rfl⟩
                · go_wp2_with fail
                  refine Meet.intro (by kernel_rfl) (hJC _ _ ?rel7)
                  case' rel7 => (try dsimp only [nthV])
                  exact ⟨ys, nx, by rw [HF2.out], rfl, Lib.hid (by have h := HG.out; exact HY.out), HT.out⟩
                · go_wp2_with fail
                  refine Meet.intro (by kernel_rfl) (hJC _ _ ?rel8)
                  case' rel8 => (try dsimp only [nthV])
                  exact ⟨ys, nx, by rw [HF2.out], rfl, Lib.hid (by have h := HG.out; exact HY.out), HT.out⟩
              · have e4 : (q == 4) = false := by simpa using d4
                by_cases d5 : q = 5
                · subst d5
                  have HC := Lib.hid (pay_u hs (i := 2) rfl HG.out id hi0 hi1 x)
                  clear d1 d2 d3 d4 e1 e2 e3 e4
                  obtain ⟨E, hE⟩ : ∃ E, E = turnE (payF x) xs id := ⟨_, rfl⟩
                  obtain ⟨ys, hys⟩ : ∃ ys, ys = turnS (payF x) xs id := ⟨_, rfl⟩
                  have HY := Lib.hid (show GoodS ys nx by rw [hys]; exact HG.out.turn (fine_pay x) id)
                  have HE0 := Lib.hid (show E = 0 → sumX ys = S - x ∧ 0 ≤ x ∧ x ≤ 4503599627370496 by rw [hE, hys, HS.out]; exact pay_ok HG.out)
                  have HE1 := Lib.hid (show E ≠ 0 → ys = xs by rw [hE, hys]; exact pay_err)
                  unfold TurnD at HC
                  rw [← hE, ← hys] at HC
                  clear hs hE hys
                  go_wp2_with fail
                  refine HC.out.mono ?_
                  rintro en w3 ⟨rfl, hs⟩
                  have HT := Lib.hid (show Sep w w3 [stC BS ⟨5, id, a, b2, x, we, u⟩, duesT b ys nx] from hs.tail)
                  clear HC
                  have c4 := cell_of (hs.cells 1 rfl) 4
                  simp only [List.getElem?_toArray, List.getElem?_cons_zero, List.getElem?_cons_succ] at c4
                  clear hs
                  by_cases hz : E = 0
                  · subst hz
                    obtain ⟨q1, q2, q3⟩ := HE0.out rfl
                    have HQ1 := Lib.hid q1
                    clear q1
                    go_wp2_with fail
                    refine Meet.intro (by kernel_rfl) (hJC _ _ ?rel9)
                    case' rel9 => (try dsimp only [nthV])
                    exact ⟨ys, nx, by rw [HQ1.out], rfl, Lib.hid (by have h := HG.out; exact HY.out), HT.out⟩
                  · have HQ1 := Lib.hid (HE1.out hz)
                    go_wp2_with fail
                    refine Meet.intro (by kernel_rfl) (hJC _ _ ?rel10)
                    case' rel10 => (try dsimp only [nthV])
                    exact ⟨ys, nx, by rw [HQ1.out, HS.out], rfl, Lib.hid (by have h := HG.out; exact HY.out), HT.out⟩
                · have e5 : (q == 5) = false := by simpa using d5
                  by_cases d6 : q = 6
                  · subst d6
                    have HC := Lib.hid (duesExpire_any hs (i := 2) rfl HG.out u)
                    clear d1 d2 d3 d4 d5 e1 e2 e3 e4 e5 hs
                    obtain ⟨F, hF⟩ : ∃ F, F = expD xs u := ⟨_, rfl⟩
                    obtain ⟨I, hI⟩ : ∃ I, I = expI xs u := ⟨_, rfl⟩
                    obtain ⟨ys, hys⟩ : ∃ ys, ys = expS xs u := ⟨_, rfl⟩
                    have HY := Lib.hid (show GoodS ys nx by rw [hys]; exact HG.out.exp u)
                    have HGF := Lib.hid (show GoodS F nx by rw [hF]; exact HG.out.expG u)
                    have HSE := Lib.hid (show sumX ys = S - sumX F by rw [hys, hF, HS.out]; exact exp_sum xs u)
                    have HIL := Lib.hid (show I.length = F.length by rw [hI, hF, expI_eq, List.length_map])
                    have HAT := Lib.hid (show ∀ k (hk : k < F.length), I.getD k 0 = (F[k]).id ∧ subId xs (F[k]).id xs.length = (F[k]).x from fun k hk => by subst hF; rw [hI]; exact ⟨exp_at hk, exp_one HG.out hk⟩)
                    unfold ExpD at HC
                    rw [← hI, ← hys] at HC
                    clear hF hI hys
                    go_wp2_with fail
                    refine HC.out.mono ?_
                    rintro en w3 ⟨vg, rfl, hs⟩
                    obtain ⟨ag, cg, rfl⟩ := (hs.rdInts 0 rfl).shape
                    obtain ⟨m, hm⟩ : ∃ m, m = F.length := ⟨_, rfl⟩
                    have HM := Lib.hid hm
                    have hml : m ≤ 64 := by rw [hm]; exact HGF.out.len
                    rw [HIL.out, ← hm] at hs ⊢
                    have hs0 : Sep w w3 [intsT .u64 28 (.slice ag m cg) I, recT duR 36 (.slice aw N2 cw) xs, stC BS ⟨6, id, a, b2, x, we, u⟩, duesT b ys nx] := hs
                    clear hs hm HC c0 c1 c2 c3 c4 c5 c6
                    go_wp2_with fail
                    refine wp_loopM [none, none, none, none, some 4, none, none, none, none, none, none, none, none, none, some 14, some 15, none, none, none, none, none, none, none, none, none, none, none, none, none, none, none, none, none, none, none, none, none, none, none, none, none, none, none, none, none, none, none, none, none, none, none, none, none, none, none, none, none, none, none, none, none, none, none, none, none, none, none, none, none, none, none, none, none, none, none, none, none, none, none, none, none, none, none, none, none, none, none, none, none, none, none, none, none, none, none, none, none, none, none, none, none, none, none, none, none, none, none, none, none, none, none, none, none, none, none, none, some 116, some 117, some 118, some 119, some 120, some 121, some 122, some 123, some 124, some 125, some 126, some 127, some 128, some 129, some 130, some 131, some 132, some 133, some 134, some 135, some 136, some 137, some 138, some 139, some 140, some 141, some 142, some 143, some 144, none, none, none, none, none, none, none, none, none, none, none, none, none, none, none, none, none, none, none, none, none, none, none, none, none, none, none, none, none, none, none, none, none, none, none, none, none, none, none, none, none, none, none, none, none, none, none, none, none, none, none, none, none, none, none, none, none, none, none, none, none, none, none, none, none, none, none] (fun (r : Nat) (f : Nat → Value) (wr : World) => (fun (vG vk : Value) => ∃ k : Nat, vk = .int .i64 k ∧ vG = .int .i64 (S - sumX (F.take k)) ∧ k ≤ m ∧ r = m - k ∧ Sep w wr [intsT .u64 28 (.slice ag m cg) I, recT duR 36 (.slice aw N2 cw) xs, stC BS ⟨6, id, a, b2, x, we, u⟩, duesT b ys nx]) (f 4) (f 14)) (m) (by kernel_rfl) ?atStart11 ?round11
                    case' atStart11 => (try dsimp only [nthV])
                    case' round11 =>
                      intro gk f wr l hl hrel J2 K2 hJ2 hK2
                      (try simp only [mask] at hl)
                      generalize f 4 = u4 at hl hrel
                      generalize f 14 = u14 at hl hrel
                      subst hl
                      (try dsimp only at hrel)
                    case atStart11 => exact ⟨0, rfl, by rw [sumX0, Int.sub_zero], Nat.zero_le _, rfl, hs0⟩
                    case round11 =>
                      clear hs0
                      obtain ⟨k, rfl, rfl, hkm, rfl, hs0⟩ := hrel
                      obtain ⟨A, hA⟩ : ∃ A, A = sumX (F.take k) := ⟨_, rfl⟩
                      have hA0 : 0 ≤ A ∧ A ≤ 4503599627370496 := by
                        have h1 := sumX_take_le HGF.out k
                        have h2 := HGF.out.s1
                        rw [← hA] at h1; omega
                      rw [← hA]
                      have HA := Lib.hid hA
                      clear hA
                      by_cases hk : k < m
                      · have hkI : (k : Int) < (m : Int) := by omega
                        have hkF : k < F.length := by rw [← HM.out]; exact hk
                        obtain ⟨G, hG⟩ : ∃ G : Int, G = (F[k]'hkF).id := ⟨_, rfl⟩
                        have HIG := Lib.hid (show I.getD k 0 = G by rw [hG]; exact (HAT.out k hkF).1)
                        have HSG := Lib.hid (show subId xs G xs.length = (F[k]'hkF).x by rw [hG]; exact (HAT.out k hkF).2)
                        have HTK := Lib.hid (show sumX (F.take (k + 1)) = A + subId xs G xs.length by rw [sumX_take hkF, HSG.out, HA.out])
                        clear HSG hG hkF
                        go_wp2_with fail
                        refine wp_loopM [none, none, none, none, some 4, none, none, none, none, none, none, none, none, none, none, some 15, none, none, none, none, none, none, none, none, none, none, none, none, none, none, none, none, none, none, none, none, none, none, none, none, none, none, none, none, none, none, none, none, none, none, none, none, none, none, none, none, none, none, none, none, none, none, none, none, none, none, none, none, none, none, none, none, none, none, none, none, none, none, none, none, none, none, none, none, none, none, none, none, none, none, none, none, none, none, none, none, none, none, none, none, none, none, none, none, none, none, none, none, none, none, none, none, none, none, none, none, none, none, none, none, none, none, some 122, some 123, some 124, some 125, some 126, some 127, some 128, some 129, some 130, some 131, some 132, some 133, some 134, some 135, some 136, some 137, some 138, some 139, some 140, some 141, some 142, some 143, some 144, none, none, none, none, none, none, none, none, none, none, none, none, none, none, none, none, none, none, none, none, none, none, none, none, none, none, none, none, none, none, none, none, none, none, none, none, none, none, none, none, none, none, none, none, none, none, none, none, none, none, none, none, none, none, none, none, none, none, none, none, none, none, none, none, none, none, none] (fun (r : Nat) (f : Nat → Value) (wr : World) => (fun (vG vj : Value) => ∃ t : Nat, vj = .int .i64 t ∧ vG = .int .i64 (S - A - subId xs G t) ∧ t ≤ N2 ∧ r = N2 - t ∧ Sep w wr [intsT .u64 28 (.slice ag m cg) I, recT duR 36 (.slice aw N2 cw) xs, stC BS ⟨6, id, a, b2, x, we, u⟩, duesT b ys nx]) (f 4) (f 15)) (N2) (by kernel_rfl) ?atStart12 ?round12
                        case' atStart12 => (try dsimp only [nthV])
                        case' round12 =>
                          intro gk f wr l hl hrel J3 K3 hJ3 hK3
                          (try simp only [mask] at hl)
                          generalize f 4 = u4 at hl hrel
                          generalize f 15 = u15 at hl hrel
                          subst hl
                          (try dsimp only at hrel)
                        case atStart12 => exact ⟨0, rfl, by rw [sub0, Int.sub_zero], Nat.zero_le _, rfl, hs0⟩
                        case round12 =>
                          clear hs0
                          obtain ⟨t, rfl, rfl, htn, rfl, hs0⟩ := hrel
                          obtain ⟨Z, hZ⟩ : ∃ Z, Z = subId xs G t := ⟨_, rfl⟩
                          have hZ0 : 0 ≤ Z ∧ Z ≤ 4503599627370496 := by rw [hZ]; exact subId_le HG.out G t
                          rw [← hZ]
                          have HZ := Lib.hid hZ
                          clear hZ
                          by_cases ht : t < N2
                          · have htI : (t : Int) < (N2 : Int) := by omega
                            have htx : t < xs.length := by rw [← HN2.out]; exact ht
                            have HST := Lib.hid (subId_step (id := G) htx)
                            obtain ⟨bx1, ox1, ex1, _, hcx⟩ := (hs0.rdRecs 1 rfl).at t htx
                            have x0 := hcx 0 (by decide)
                            have x3 := hcx 3 (by decide)
                            obtain ⟨D, hD⟩ : ∃ D : Du, D = xs[t]'htx := ⟨_, rfl⟩
                            have hDx := HG.out.xb D (by rw [hD]; exact List.getElem_mem htx)
                            simp only [duR, List.getElem?_cons_zero, List.getElem?_cons_succ, Nat.add_zero, ← hD] at x0 x3
                            rw [← hD] at HST
                            obtain ⟨bg, og, eg, _, y0⟩ := (hs0.rdInts 0 rfl).at k (by rw [HIL.out, ← HM.out]; exact hk)
                            rw [HIG.out] at y0
                            clear hD htx hcx
                            subst ex1
                            subst eg
                            have HS0 := Lib.hid hs0
                            clear hs0
                            by_cases hid : D.id = G
                            · have HSQ := Lib.hid (show subId xs G (t + 1) = Z + D.x by rw [HST.out, if_pos hid, HZ.out])
                              have hidb : (D.id == G) = true := by simpa using hid
                              clear hid
                              go_wp2_with fail
                              refine Mix.region [0, 0, 0, 0, 0, 0, 0, 0, 0, 0] (fun _ => True) (by kernel_rfl) (by kernel_rfl) trivial ?_
                              simp only [List.zip_cons_cons, List.zip_nil_right]
                              iterate 10 (refine Mix.step0 fun K hK => ?_; go_simp; (try (go_bits; try go_simp)); first | ((with_reducible refine hK _ _ ?_); clear hK K) | ((try (simp only [IntWalk.iteOmega]; try go_simp)); (try go_bits); (with_reducible refine hK _ _ ?_); clear hK K))
                              refine Mix.done ?_
                              go_wp2_with fail
                              refine Round.intro ((N2 - (t + 1))) ?measure13 (by kernel_rfl) (hJ3 _ _ _ ?rel13)
                              case' rel13 => (try dsimp only [nthV])
                              case measure13 => omega
                              case rel13 => exact ⟨t + 1, by go_num, by rw [HSQ.out]; congr 1; omega, by omega, rfl, HS0.out.drew⟩
                            · have HSQ := Lib.hid (show subId xs G (t + 1) = Z by rw [HST.out, if_neg hid, HZ.out]; omega)
                              have hidb : (D.id == G) = false := by simpa using hid
                              clear hid
                              go_wp2_with fail
                              refine Mix.region [0, 0, 0, 0, 0, 0, 0, 0, 0, 0] (fun _ => True) (by kernel_rfl) (by kernel_rfl) trivial ?_
                              simp only [List.zip_cons_cons, List.zip_nil_right]
                              iterate 10 (refine Mix.step0 fun K hK => ?_; go_simp; (try (go_bits; try go_simp)); first | ((with_reducible refine hK _ _ ?_); clear hK K) | ((try (simp only [IntWalk.iteOmega]; try go_simp)); (try go_bits); (with_reducible refine hK _ _ ?_); clear hK K))
                              refine Mix.done ?_
                              go_wp2_with fail
                              refine Round.intro ((N2 - (t + 1))) ?measure14 (by kernel_rfl) (hJ3 _ _ _ ?rel14)
                              case' rel14 => (try dsimp only [nthV])
                              case measure14 => omega
                              case rel14 => exact ⟨t + 1, by go_num, by rw [HSQ.out], by omega, rfl, HS0.out.drew⟩
                          · obtain rfl : N2 = t := by omega
                            have HTQ := Lib.hid (show sumX (F.take (k + 1)) = A + Z by rw [HTK.out, HZ.out, HN2.out])
                            have HS0 := Lib.hid hs0
                            clear hs0
                            go_wp2_with fail
                            refine Round.intro ((m - (k + 1))) ?measure15 (by kernel_rfl) (hJ2 _ _ _ ?rel15)
                            case' rel15 => (try dsimp only [nthV])
                            case measure15 => omega
                            case rel15 => exact ⟨k + 1, by go_num, by rw [HTQ.out]; congr 1; omega, by omega, rfl, HS0.out⟩
                      · obtain rfl : m = k := by omega
                        have HQ1 := Lib.hid (show sumX ys = S - A by rw [HSE.out, HA.out, HM.out, List.take_length])
                        have HT := Lib.hid (show Sep w wr [stC BS ⟨6, id, a, b2, x, we, u⟩, duesT b ys nx] from hs0.tail.tail)
                        clear hs0
                        go_wp2_with fail
                        refine Meet.intro (by kernel_rfl) (hJC _ _ ?rel16)
                        case' rel16 => (try dsimp only [nthV])
                        exact ⟨ys, nx, by rw [HQ1.out], rfl, Lib.hid (by have h := HG.out; exact HY.out), HT.out⟩
                  · have e6 : (q == 6) = false := by simpa using d6
                    have HT := Lib.hid (hs.tail)
                    clear hs
                    go_wp2_with fail
                    refine Meet.intro (by kernel_rfl) (hJC _ _ ?rel17)
                    case' rel17 => (try dsimp only [nthV])
                    exact ⟨xs, nx, by rw [HS.out], rfl, Lib.hid (by have h := HG.out; exact h), HT.out⟩
      case rest2 =>
        clear hs HG HS hS0 hS1 hn1 hn2 HN2 hN2l S c0 c1 c2 c3 c4 c5 c6
        unfold GroP at hrel
        obtain ⟨ys, nx2, rfl, rfl, HG, hs⟩ := hrel
        obtain ⟨S, hS⟩ : ∃ S, S = sumX ys := ⟨_, rfl⟩
        have HS := Lib.hid hS
        have hS0 : 0 ≤ S := by rw [hS]; exact HG.out.s0
        have hS1 : S ≤ 4503599627370496 := by rw [hS]; exact HG.out.s1
        have hn1 : 1 ≤ nx2 := HG.out.n1
        have hn2 : nx2 ≤ 4611686018427387904 := HG.out.n2
        have hlen := HG.out.len
        rw [← hS]
        have HL := Lib.hid (duesList_any hs (i := 1) rfl HG.out)
        clear hS hs
        go_wp2_with fail
        refine HL.out.mono ?_
        rintro en w4 ⟨vn, rfl, hs⟩
        obtain ⟨an, cn, rfl⟩ := (hs.rdRecs 0 rfl).shape
        obtain ⟨N2, hN2⟩ : ∃ N, N = ys.length := ⟨_, rfl⟩
        have HN2 := Lib.hid hN2
        rw [← hN2] at hs hlen ⊢
        have hs0 : Sep w w4 [recT duR 36 (.slice an N2 cn) ys, stC BS s, duesT b ys nx2] := hs
        clear hs hN2 HL
        go_wp2_with fail
        refine wp_loopM [none, none, some 2, none, none, none, none, none, none, none, none, none, none, none, none, none, none, some 17, some 18, none, none, none, none, none, none, none, none, none, none, none, none, none, none, none, none, none, none, none, none, none, none, none, none, none, none, none, none, none, none, none, none, none, none, none, none, none, none, none, none, none, none, none, none, none, none, none, none, none, none, none, none, none, none, none, none, none, none, none, none, none, none, none, none, none, none, none, none, none, none, none, none, none, none, none, none, none, none, none, none, none, none, none, none, none, none, none, none, none, none, none, none, none, none, none, none, none, none, none, none, none, none, none, none, none, none, none, none, none, none, none, none, none, none, none, none, none, none, none, none, none, none, none, none, none, none, none, none, some 147, some 148, some 149, some 150, some 151, some 152, some 153, some 154, some 155, some 156, some 157, some 158, some 159, some 160, some 161, some 162, some 163, some 164, some 165, some 166, some 167, some 168, some 169, some 170, some 171, some 172, some 173, some 174, some 175, some 176, some 177, some 178, some 179, some 180, some 181, some 182, some 183, some 184, some 185, some 186, some 187, some 188, some 189, some 190, some 191, some 192, none, none, none, none, none, none, none, none, none, none, none, none, none, none, none, none, none, none, none] (fun (r : Nat) (f : Nat → Value) (wr : World) => (fun (vs vk : Value) => ∃ k : Nat, vk = .int .i64 k ∧ vs = .int .i64 (sumX (ys.take k)) ∧ k ≤ N2 ∧ r = N2 - k ∧ Sep w wr [recT duR 36 (.slice an N2 cn) ys, stC BS s, duesT b ys nx2]) (f 17) (f 18)) (N2) (by kernel_rfl) ?atStart18 ?round18
        case' atStart18 => (try dsimp only [nthV])
        case' round18 =>
          intro gk f wr l hl hrel J4 K4 hJ4 hK4
          (try simp only [mask] at hl)
          generalize f 17 = u17 at hl hrel
          generalize f 18 = u18 at hl hrel
          subst hl
          (try dsimp only at hrel)
        case atStart18 => exact ⟨0, rfl, by rw [sumX0], Nat.zero_le _, rfl, hs0⟩
        case round18 =>
          clear hs0
          obtain ⟨k, rfl, rfl, hkn, rfl, hs0⟩ := hrel
          obtain ⟨A, hA⟩ : ∃ A, A = sumX (ys.take k) := ⟨_, rfl⟩
          have hA0 : 0 ≤ A ∧ A ≤ S := by rw [hA, HS.out]; exact sumX_take_le HG.out k
          rw [← hA]
          have HA := Lib.hid hA
          clear hA
          by_cases hk : k < N2
          · have hkI : (k : Int) < (N2 : Int) := by omega
            have hkx : k < ys.length := by rw [← HN2.out]; exact hk
            have HSA := Lib.hid (show sumX (ys.take (k + 1)) = A + (ys[k]'hkx).x by rw [sumX_take hkx, HA.out])
            obtain ⟨bx1, ox1, ex1, _, hcx⟩ := (hs0.rdRecs 0 rfl).at k hkx
            have x0 := hcx 0 (by decide)
            have x3 := hcx 3 (by decide)
            obtain ⟨D, hD⟩ : ∃ D : Du, D = ys[k]'hkx := ⟨_, rfl⟩
            have hDx := HG.out.xb D (by rw [hD]; exact List.getElem_mem hkx)
            have hDi := (HG.out.ok D (by rw [hD]; exact List.getElem_mem hkx)).2
            rw [← hD] at HSA
            simp only [duR, List.getElem?_cons_zero, List.getElem?_cons_succ, Nat.add_zero, ← hD] at x0 x3
            have HD := Lib.hid (show ∃ h : k < ys.length, D = ys[k]'h from ⟨hkx, hD⟩)
            have hd1 : decide (D.x < 1) = false := decide_eq_false (by omega)
            have hd2 : decide (nx2 - 1 < D.id) = false := decide_eq_false (by omega)
            clear hD hkx hcx
            subst ex1
            obtain ⟨Dx, hDxx⟩ : ∃ y, y = D.x := ⟨_, rfl⟩
            obtain ⟨Di, hDii⟩ : ∃ y, y = D.id := ⟨_, rfl⟩
            rw [← hDxx] at x3 hd1 hDx HSA
            rw [← hDii] at x0 hd2 hDi
            have HDI := Lib.hid hDii
            clear hDxx hDii
            have HS0 := Lib.hid hs0
            go_wp2_with fail
            refine wp_cutM [none, none, none, none, none, none, none, none, none, none, none, none, none, none, none, none, none, none, none, none, none, none, none, none, none, none, none, none, none, none, none, none, none, none, none, none, none, none, none, none, none, none, none, none, none, none, none, none, none, none, none, none, none, none, none, none, none, none, none, none, none, none, none, none, none, none, none, none, none, none, none, none, none, none, none, none, none, none, none, none, none, none, none, none, none, none, none, none, none, none, none, none, none, none, none, none, none, none, none, none, none, none, none, none, none, none, none, none, none, none, none, none, none, none, none, none, none, none, none, none, none, none, none, none, none, none, none, none, none, none, none, none, none, none, none, none, none, none, none, none, none, none, none, none, none, none, none, none, none, none, none, none, none, none, none, none, none, none, none, none, some 160, some 161, some 162, some 163, some 164, some 165, some 166, some 167, some 168, some 169, some 170, some 171, some 172, some 173, some 174, some 175, some 176, some 177, some 178, some 179, some 180, some 181, some 182, some 183, some 184, some 185, some 186, some 187, some 188, some 189, some 190, some 191, some 192, none, none, none, none, none, none, none, none, none, none, none, none, none, none, none, none, none, none, none] (fun (f : Nat → Value) (wq : World) => (fun (vt : Value) => vt = .bool false ∧ Sep w wq [recT duR 36 (.slice (some ⟨bx1, ox1, none⟩) N2 cn) ys, stC BS s, duesT b ys nx2]) (f 192)) ?first19 ?rest19
            case' first19 => intro JC KC hJC hKC
            case' rest19 =>
              intro f wr l hl hrel
              (try simp only [mask] at hl)
              generalize f 192 = u192 at hl hrel
              subst hl
              (try dsimp only at hrel)
            case first19 =>
              by_cases hk0 : 0 < k
              · have hk0I : decide ((0 : Int) < (k : Int)) = true := decide_eq_true (by omega)
                have hk1 : 1 ≤ k := hk0
                have hkp : k - 1 < ys.length := by have := HN2.out; omega
                obtain ⟨bx2, ox2, ex2, _, hcy⟩ := (hs0.rdRecs 0 rfl).at (k - 1) hkp
                have y0 := hcy 0 (by decide)
                obtain ⟨P, hP⟩ : ∃ P : Int, P = (ys[k - 1]'hkp).id := ⟨_, rfl⟩
                have hPD : decide (Di ≤ P) = false := by
                  obtain ⟨h1, h2⟩ := HD.out
                  have := List.pairwise_iff_getElem.1 HG.out.up (k - 1) k hkp h1 (by omega)
                  refine decide_eq_false ?_
                  rw [hP, HDI.out, h2]
                  omega
                simp only [duR, List.getElem?_cons_zero, List.getElem?_cons_succ, Nat.add_zero, ← hP] at y0
                clear hP hcy hkp hs0
                injection ex2 with ex2
                injection ex2 with ex2 ex3
                subst ex2
                subst ex3
                refine Mix.region [0, 0, 0, 0, 0, 0, 0, 0, 0, 0, 0, 0, 0, 0, 0, 0, 0, 0, 0, 0, 0, 0, 0, 0, 0, 0, 0, 0, 0, 0, 0, 0, 0] (fun _ => True) (by kernel_rfl) (by kernel_rfl) trivial ?_
                simp only [List.zip_cons_cons, List.zip_nil_right]
                iterate 7 (refine Mix.step0 fun K hK => ?_; go_simp; (try (go_bits; try go_simp)); first | ((with_reducible refine hK _ _ ?_); clear hK K) | ((try (simp only [IntWalk.iteOmega]; try go_simp)); (try go_bits); (with_reducible refine hK _ _ ?_); clear hK K))
                iterate 16 (first | (refine Mix.stepS rfl fun K hK => ?_; go_simp; (with_reducible refine hK _ _ ?_); clear hK K) | (refine Mix.step0 fun K hK => ?_; go_simp; (try (go_bits; try go_simp)); first | ((with_reducible refine hK _ _ ?_); clear hK K) | ((try (simp only [IntWalk.iteOmega]; try go_simp)); (try go_bits); (with_reducible refine hK _ _ ?_); clear hK K)))
                iterate 2 (refine Mix.step0 fun K hK => ?_; go_simp; (try (go_bits; try go_simp)); first | ((with_reducible refine hK _ _ ?_); clear hK K) | ((try (simp only [IntWalk.iteOmega]; try go_simp)); (try go_bits); (with_reducible refine hK _ _ ?_); clear hK K))
                iterate 7 (first | (refine Mix.stepS rfl fun K hK => ?_; go_simp; (with_reducible refine hK _ _ ?_); clear hK K) | (refine Mix.step0 fun K hK => ?_; go_simp; (try (go_bits; try go_simp)); first | ((with_reducible refine hK _ _ ?_); clear hK K) | ((try (simp only [IntWalk.iteOmega]; try go_simp)); (try go_bits); (with_reducible refine hK _ _ ?_); clear hK K)))
                iterate 1 (refine Mix.step0 fun K hK => ?_; go_simp; (try (go_bits; try go_simp)); first | ((with_reducible refine hK _ _ ?_); clear hK K) | ((try (simp only [IntWalk.iteOmega]; try go_simp)); (try go_bits); (with_reducible refine hK _ _ ?_); clear hK K))
                refine Mix.done ?_
                go_wp2_with fail
                refine Meet.intro (by kernel_rfl) (hJC _ _ ?rel20)
                case' rel20 => (try dsimp only [nthV])
                exact ⟨rfl, HS0.out.drew⟩
              · have hk0I : decide ((0 : Int) < (k : Int)) = false := decide_eq_false (by omega)
                clear hs0
                refine Mix.region [0, 0, 0, 0, 0, 0, 0, 0, 0, 0, 0, 0, 0, 0, 0, 0, 0, 0, 0, 0, 0, 0, 0, 0, 0, 0, 0, 0, 0, 0, 0, 0, 0] (fun _ => True) (by kernel_rfl) (by kernel_rfl) trivial ?_
                simp only [List.zip_cons_cons, List.zip_nil_right]
                iterate 7 (refine Mix.step0 fun K hK => ?_; go_simp; (try (go_bits; try go_simp)); first | ((with_reducible refine hK _ _ ?_); clear hK K) | ((try (simp only [IntWalk.iteOmega]; try go_simp)); (try go_bits); (with_reducible refine hK _ _ ?_); clear hK K))
                iterate 16 (first | (refine Mix.stepS rfl fun K hK => ?_; go_simp; (with_reducible refine hK _ _ ?_); clear hK K) | (refine Mix.step0 fun K hK => ?_; go_simp; (try (go_bits; try go_simp)); first | ((with_reducible refine hK _ _ ?_); clear hK K) | ((try (simp only [IntWalk.iteOmega]; try go_simp)); (try go_bits); (with_reducible refine hK _ _ ?_); clear hK K)))
                iterate 2 (refine Mix.step0 fun K hK => ?_; go_simp; (try (go_bits; try go_simp)); first | ((with_reducible refine hK _ _ ?_); clear hK K) | ((try (simp only [IntWalk.iteOmega]; try go_simp)); (try go_bits); (with_reducible refine hK _ _ ?_); clear hK K))
                iterate 7 (first | (refine Mix.stepS rfl fun K hK => ?_; go_simp; (with_reducible refine hK _ _ ?_); clear hK K) | (refine Mix.step0 fun K hK => ?_; go_simp; (try (go_bits; try go_simp)); first | ((with_reducible refine hK _ _ ?_); clear hK K) | ((try (simp only [IntWalk.iteOmega]; try go_simp)); (try go_bits); (with_reducible refine hK _ _ ?_); clear hK K)))
                iterate 1 (refine Mix.step0 fun K hK => ?_; go_simp; (try (go_bits; try go_simp)); first | ((with_reducible refine hK _ _ ?_); clear hK K) | ((try (simp only [IntWalk.iteOmega]; try go_simp)); (try go_bits); (with_reducible refine hK _ _ ?_); clear hK K))
                refine Mix.done ?_
                go_wp2_with fail
                refine Meet.intro (by kernel_rfl) (hJC _ _ ?rel21)
                case' rel21 => (try dsimp only [nthV])
                exact ⟨rfl, HS0.out.drew⟩
            case rest19 =>
              clear hs0 HS0
              obtain ⟨rfl, hs0⟩ := hrel
              go_wp2_with fail
              refine Round.intro ((N2 - (k + 1))) ?measure22 (by kernel_rfl) (hJ4 _ _ _ ?rel22)
              case' rel22 => (try dsimp only [nthV])
              case measure22 => omega
              case rel22 => exact ⟨k + 1, by go_num, by rw [HSA.out], by omega, rfl, hs0⟩
          · obtain rfl : N2 = k := by omega
            have hAS : A = S := by rw [HA.out, HS.out, HN2.out, List.take_length]
            subst hAS
            have HGR := Lib.hid (duesGross_any hs0 (i := 2) rfl (by have := HN2.out; omega))
            rw [HG.out.gx, ← HS.out] at HGR
            have hlI : decide ((64 : Int) < (N2 : Int)) = false := decide_eq_false (by omega)
            have hgI : decide ((4503599627370496 : Int) < A) = false := decide_eq_false (by omega)
            have NX := ne_self
            clear hs0
            go_wp2_with fail
            refine HGR.out.mono ?_
            rintro en w5 ⟨rfl, hs⟩
            have HT := Lib.hid (show Sep w w5 [duesT b ys nx2] from hs.tail.tail)
            clear hs HGR
            go_wp2_with fail
            refine Round.intro ((n - (j + 1))) ?measure23 (by kernel_rfl) (hJ1 _ _ _ ?rel23)
            case' rel23 => (try dsimp only [nthV])
            case measure23 => omega
            case rel23 => exact ⟨j + 1, ys, nx2, by go_num, by rw [HS.out], rfl, by omega, rfl, HG, HT.out⟩
    · obtain rfl : n = j := by omega
      have HB := Lib.hid hs
      clear hs
      go_wp2_with fail
      refine (works_any _).mono ?_
      rintro en w2 ⟨rfl, hb⟩
      have HB2 := Lib.hid (HB.out.belowStep hb).below
      clear hb HB
      go_wp2_with fail
      go_ret
      exact ⟨rfl, HB2.out⟩
end Go.Proofs.Ythcmkljdhhepgaa
