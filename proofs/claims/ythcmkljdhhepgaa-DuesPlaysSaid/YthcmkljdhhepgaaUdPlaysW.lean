/-
  DuesPlays, walked.
-/
import Derived.Test.YthcmkljdhhepgaaUrStep
set_option linter.unusedVariables false
set_option linter.unusedSimpArgs false
namespace Go.DuesP
open Go Go.BuildP Go.MoneyP
theorem dof_good {l : List Du} {nx : Int} (h : dofE l nx = 0) : GoodS l nx := by
  by_cases h64 : 64 < l.length
  · rw [dof_many h64] at h; cases h
  by_cases hn : nx < 1 ∨ 4611686018427387904 < nx
  · rw [dof_next h64 hn] at h; cases h
  by_cases ha : ∀ i, i < l.length → okId l nx i = true
  · rw [dof_ok h64 hn ha] at h
    have hk : ∀ i (hi : i < l.length), mayD (l[i]) = true ∧ aheadL l i < (l[i]).id ∧ (l[i]).id < nx := fun i hi => by
      have h1 := ha i hi
      unfold okId at h1
      rw [show l.getD i default = l[i] by rw [List.getD_eq_getElem?_getD, List.getElem?_eq_getElem hi]; rfl] at h1
      simp only [Bool.and_eq_true, decide_eq_true_eq] at h1
      exact ⟨h1.1.1, h1.1.2, h1.2⟩
    refine ⟨?_, fun d hd => ?_, by omega, by omega, by omega, ?_⟩
    · rw [List.pairwise_iff_getElem]
      intro i j hi hj hij
      obtain ⟨_, h2⟩ := ids_up (nx := nx) j (fun k hk2 => ha k (by omega)) (by omega)
      have h3 := h2 (l[i]) (by rw [List.mem_take_iff_getElem]; exact ⟨i, by omega, rfl⟩)
      have h4 := (hk j hj).2.1
      omega
    · obtain ⟨i, hi, rfl⟩ := List.getElem_of_mem hd
      obtain ⟨h1, _⟩ := ids_up (nx := nx) i (fun k hk2 => ha k (by omega)) (by omega)
      have := hk i hi
      exact ⟨this.1, by omega, this.2.2⟩
    · unfold sumE at h
      split at h
      · split at h
        · assumption
        · cases h
      · cases h
  · obtain ⟨i, hi⟩ := Classical.not_forall.1 ha
    obtain ⟨hi, hb⟩ := Classical.not_imp.1 hi
    rw [dof_bad h64 hi (by simpa using hb)] at h
    cases h
end Go.DuesP
namespace Go.Proofs.Ythcmkljdhhepgaa
open Go Go.RowKit Go.Mem Go.MoneyP Go.NetP Go.BuildP Go.DuesP Go.Maps Go.Shelf
attribute [local go_sem] Oper.semAt_some
theorem rGrossB_any {w : World} {b : Nat} {v : Value} {xs : List Du} (c0 : w.cell? ⟨b, 0, none⟩ = some v) (hr : RdG duR w v xs) (hl : xs.length ≤ 1000) :
    Calls Try.prog 25 #[.pointer (some ⟨b, 0, none⟩)] w fun en w' => en = .returned (.int .i64 (gross xs)) ∧ Below w.heap.size w w' := by
  have HC := Lib.hid (ramounts_any v xs w hr hl)
  clear hr
  go_enter Try.func25, Try.ntmps25
  go_wp2_with fail
  refine HC.out.mono ?_
  rintro en w1 ⟨u, rfl, h1⟩
  have HS1 := Lib.hid h1.below
  have hr := h1.rdInts 0 rfl
  clear h1 HC c0
  go_wp2_with fail
  refine (rsum_any u _ _ hr).mono ?_
  rintro en w2 ⟨rfl, rfl⟩
  clear hr
  go_wp2_with fail
  go_ret
  exact ⟨rfl, HS1.out⟩
set_option maxRecDepth 100000 in
set_option maxHeartbeats 16000000 in
theorem lawPlays_any (F : List Du) (next : Int) (l : List St) (vf vl : Value) (w : World) (hf : RdG duR w vf F) (hl : RdG stR w vl l) (hok : ∀ s ∈ l, s.Ok) (hn0 : 0 ≤ next) (hn1 : next ≤ 18446744073709551615) :
    Calls Try.prog 6 #[vf, .int .u64 next, vl] w fun en w' => en = .returned (.bool true) ∧ Below w.heap.size w w' := by
  obtain ⟨af, cf, rfl⟩ := hf.shape
  obtain ⟨al, cl, rfl⟩ := hl.shape
  have lf := hf.le'
  have ll := hl.le'
  obtain ⟨n, hn⟩ : ∃ n, n = l.length := ⟨_, rfl⟩
  obtain ⟨nf, hnf⟩ : ∃ n, n = F.length := ⟨_, rfl⟩
  have HN := Lib.hid hn
  have HNF := Lib.hid hnf
  have HF := Lib.hid hf
  have HL := Lib.hid hl
  have HOK := Lib.hid hok
  rw [← hn] at ll ⊢
  rw [← hnf] at lf ⊢
  clear hf hl hok hn hnf
  obtain ⟨i0, hi0, hz0, hz1, hz2⟩ := info_parts Try.infoDuz
  by_cases b1 : 150 < n
  · have e1 : decide ((150 : Int) < (n : Int)) = true := decide_eq_true (by omega)
    go_enter Try.func6, Try.ntmps6
    go_wp2_with fail
    refine (works_any _).mono ?_
    rintro en w1 ⟨rfl, hb⟩
    go_wp2_with fail
    go_ret
    exact ⟨rfl, hb⟩
  have e1 : decide ((150 : Int) < (n : Int)) = false := decide_eq_false (by omega)
  by_cases b2 : 100 < nf
  · have e2 : decide ((100 : Int) < (nf : Int)) = true := decide_eq_true (by omega)
    go_enter Try.func6, Try.ntmps6
    go_wp2_with fail
    refine (works_any _).mono ?_
    rintro en w1 ⟨rfl, hb⟩
    go_wp2_with fail
    go_ret
    exact ⟨rfl, hb⟩
  have e2 : decide ((100 : Int) < (nf : Int)) = false := decide_eq_false (by omega)
  go_enter Try.func6, Try.ntmps6
  go_wp2_with fail
  refine (duesNew_any (Sep.start w)).mono ?_
  rintro en w1 ⟨b, rfl, hs1⟩
  go_wp2_with fail
  refine (rNew_any hs1).mono ?_
  rintro en w2 ⟨c, rfl, hs⟩
  clear hs1
  go_upto_if 31 with fail
  refine wp_cutM [none, none, none, none, none, none, some 6, some 7, some 8, some 9, some 10, some 11, some 12, none, none, none, none, none, none, none, none, none, none, none, none, none, none, none, none, some 29, some 30, some 31, some 32, some 33, some 34, some 35, some 36, some 37, some 38, some 39, some 40, some 41, some 42, some 43, some 44, some 45, some 46, some 47, some 48, some 49, some 50, some 51, some 52, some 53, some 54, some 55, some 56, some 57, some 58, some 59, some 60, none, none, none, none, none, none, none, none, none, none, none, none, none, none, none, none, none, none, none, none, none, none, none, none, none, none, none, none, none, none, none, none, none, none, none, none, none, none, none, none, none, none, none, none, none, none, none, none, none, none, none, none, none, none, none, none, none, none, none, none, none, none, none, none, none, none, none, none, none] (fun (f : Nat → Value) (wq : World) => (fun (va vb : Value) => ∃ (b c : Nat) (xs : List Du) (nx : Int), va = .pointer (some ⟨b, 0, none⟩) ∧ vb = .pointer (some ⟨c, 0, none⟩) ∧ Hid (GoodS xs nx) ∧ Sep w wq [duesT b xs nx, refD c xs nx]) (f 7) (f 8)) ?first1 ?rest1
  case' first1 => intro JC KC hJC hKC
  case' rest1 =>
    intro f wr l hl hrel
    (try simp only [mask] at hl)
    generalize f 7 = u7 at hl hrel
    generalize f 8 = u8 at hl hrel
    subst hl
    (try dsimp only at hrel)
  case first1 =>
    by_cases hp : 0 < nf
    · have hpI : (0 : Int) < (nf : Int) := by omega
      obtain ⟨E, hE⟩ : ∃ E, E = dofE F next := ⟨_, rfl⟩
      have HE := Lib.hid hE
      clear hE hp
      have hs1 := hs.litRecs duR 36 [] (by simp [maxLen])
      simp only [List.length_nil, Rec.flat, List.flatMap_nil] at hs1
      have HR := Lib.hid (hs1.rdG HF.out)
      rw [← HNF.out] at HR
      clear hs
      go_wp2_with (at_builtin; refine wpList_appRdG duR rfl (.tmp 33) (.tmp 34) 41 rfl 36 i0 _ 56 Try.underlying41 hi0 hz0 hz1 hz2 rfl _ [] _ F hs1 0 rfl HR.out rfl rfl ?c3 ?c4 ?grow)
      case c3 => rw [← HNF.out]; (try simp only [List.length_nil]); unfold maxLen; omega
      case c4 => rw [← HNF.out]; (try simp only [List.length_nil]); omega
      case grow =>
        intro v' W5 h5
        have h5 : Sep w W5 [recT duR 36 v' F, refD c [] 1, duesT b [] 1] := h5
        clear hs1 HR
        obtain ⟨aw, cw, rfl⟩ := (h5.rdRecs 0 rfl).shape
        rw [← HNF.out] at h5 ⊢
        have HC := Lib.hid (dof_any F _ next hn0 W5 (h5.rdRecs 0 rfl))
        have H5 := Lib.hid h5
        clear h5
        go_wp2_with fail
        refine HC.out.mono ?_
        intro en w6 hP
        rcases hP with ⟨he, rfl, hb⟩ | ⟨he, bd, bm, rfl, k1⟩
        · rw [← HE.out] at he ⊢
          have HS := Lib.hid (H5.out.belowStep hb)
          have HRR := Lib.hid (rOf_any F _ next hn0 hn1 w6 (HS.out.rdG HF.out))
          rw [← HNF.out] at HRR
          have HEN := Lib.hid he
          clear hb HC he
          go_wp2_with fail
          refine HRR.out.mono ?_
          intro en w7 hP2
          rcases hP2 with ⟨he2, rfl, hb2⟩ | ⟨he2, _⟩
          · rw [← HE.out]
            have NX : (E != E) = false := by simp
            have HB := Lib.hid (HS.out.belowStep hb2).below
            clear hb2 he2 HRR
            go_wp2_with fail
            refine (works_any _).mono ?_
            rintro en w8 ⟨rfl, hb3⟩
            have HB2 := Lib.hid (HB.out.trans (hb3.mono HB.out.size))
            clear hb3
            go_wp2_with fail
            go_ret
            exact ⟨rfl, HB2.out⟩
          · exact absurd (HE.out.trans he2) HEN.out
        · have hs6 : Sep w w6 ([dueO bd bm next, dueT bm F] ++ [recT duR 36 (.slice aw nf cw) F, refD c [] 1, duesT b [] 1]) := H5.out.join k1
          have hs7 : Sep w w6 (duesT bd F next :: [recT duR 36 (.slice aw nf cw) F, refD c [] 1, duesT b [] 1]) := Sep.exIn (P := fun _ : Nat => True) (T := fun bm : Nat => packT [dueO bd bm next, dueT bm F]) (Sep.pack (M := [dueO bd bm next, dueT bm F]) hs6) trivial
          have HS := Lib.hid (show Sep w w6 [duesT bd F next] from hs7.takeN 1)
          have HRR := Lib.hid (rOf_any F _ next hn0 hn1 w6 (HS.out.rdG HF.out))
          rw [← HNF.out] at HRR
          have HG := Lib.hid (dof_good he)
          have HE0 := Lib.hid he
          clear k1 HC he hs6 hs7
          go_wp2_with fail
          refine HRR.out.mono ?_
          intro en w7 hP2
          rcases hP2 with ⟨he2, _⟩ | ⟨he2, bc, rfl, k2⟩
          · exact absurd HE0.out he2
          · have hs8 : Sep w w7 ([refD bc F next] ++ [duesT bd F next]) := HS.out.join k2
            have HS8 := Lib.hid (show Sep w w7 [duesT bd F next, refD bc F next] from hs8.perm (List.Perm.swap _ _ _))
            clear k2 hs8 HRR he2
            go_wp2_with fail
            refine Meet.intro (by kernel_rfl) (hJC _ _ ?rel2)
            case' rel2 => (try dsimp only [nthV])
            exact ⟨bd, bc, F, next, rfl, rfl, HG, HS8.out⟩
    · have hpI : ¬ (0 : Int) < (nf : Int) := by omega
      have HS := Lib.hid (hs.perm (List.Perm.swap _ _ _))
      clear hs
      go_wp2_with fail
      refine Meet.intro (by kernel_rfl) (hJC _ _ ?rel3)
      case' rel3 => (try dsimp only [nthV])
      exact ⟨b, c, [], 1, rfl, rfl, Lib.hid GoodS.nil, HS.out⟩
  case rest1 =>
    clear hs
    obtain ⟨b, c, xs0, nx0, rfl, rfl, HG0, hs⟩ := hrel
    go_wp2_with fail
    refine wp_loopM [none, none, none, none, none, none, some 6, none, none, none, none, none, none, some 13, some 14, some 15, some 16, some 17, none, none, none, none, none, none, none, none, none, none, none, none, none, none, none, none, none, none, none, none, none, none, none, none, none, none, none, none, none, none, none, none, none, none, none, none, none, none, none, none, none, none, none, some 61, some 62, some 63, some 64, some 65, some 66, some 67, some 68, some 69, some 70, some 71, some 72, some 73, some 74, some 75, some 76, some 77, some 78, some 79, some 80, some 81, some 82, some 83, some 84, some 85, some 86, some 87, some 88, some 89, some 90, some 91, some 92, some 93, some 94, some 95, some 96, some 97, some 98, some 99, some 100, some 101, some 102, some 103, some 104, some 105, some 106, some 107, some 108, some 109, some 110, some 111, some 112, some 113, some 114, some 115, some 116, some 117, some 118, some 119, some 120, some 121, some 122, some 123, some 124, some 125, some 126, some 127, some 128, none] (fun (r : Nat) (f : Nat → Value) (wr : World) => (fun (vi : Value) => ∃ (j : Nat) (xs : List Du) (nx : Int), vi = .int .i64 j ∧ j ≤ n ∧ r = n - j ∧ Hid (GoodS xs nx) ∧ Sep w wr [duesT b xs nx, refD c xs nx]) (f 13)) (n) (by kernel_rfl) ?atStart4 ?round4
    case' atStart4 => (try dsimp only [nthV])
    case' round4 =>
      intro gk f wr l hl hrel J1 K1 hJ1 hK1
      (try simp only [mask] at hl)
      generalize f 13 = u13 at hl hrel
      subst hl
      (try dsimp only at hrel)
    case atStart4 => exact ⟨0, xs0, nx0, rfl, Nat.zero_le _, rfl, HG0, hs⟩
    case round4 =>
      clear hs HG0
      obtain ⟨j, xs, nx, rfl, hjn, rfl, HG, hs⟩ := hrel
      by_cases hj : j < n
      · have hjI : (j : Int) < (n : Int) := by omega
        have hjl : j < l.length := by rw [← HN.out]; exact hj
        obtain ⟨bq, oq, eq, hbq, hcell⟩ := HL.out.at j hjl
        obtain ⟨s, hsl⟩ : ∃ s : St, s = l[j]'hjl := ⟨_, rfl⟩
        have hso : s.Ok := by rw [hsl]; exact HOK.out _ (List.getElem_mem hjl)
        have hcw := fun {M : List Thing} (W : World) (hW : Sep w W M) (k : Nat) (hk : k < 7) => (hW.cell hbq).trans (hcell k hk)
        simp only [stR, ← hsl] at hcw
        have HCW := Lib.hid (show ∀ (M : List Thing) (W : World), Sep w W M → ∀ k, k < 7 → W.cell? ⟨bq, oq + j * 7 + k, none⟩ = [Value.int .i64 s.q, .int .u64 s.id, .int .i64 s.a, .int .i64 s.b, .int .i64 s.x, .int .i64 s.w, .int .i64 s.u][k]? from fun M W hW k hk => hcw W hW k hk)
        have z0 := HCW.out _ _ hs 0 (by decide)
        have z1 := HCW.out _ _ hs 1 (by decide)
        have z2 := HCW.out _ _ hs 2 (by decide)
        have z3 := HCW.out _ _ hs 3 (by decide)
        have z4 := HCW.out _ _ hs 4 (by decide)
        have z5 := HCW.out _ _ hs 5 (by decide)
        have z6 := HCW.out _ _ hs 6 (by decide)
        simp only [List.getElem?_cons_zero, List.getElem?_cons_succ, Nat.add_zero] at z0 z1 z2 z3 z4 z5 z6
        have HST := Lib.hid (step_any hs HG.out s hso)
        have HI0 := Lib.hid hso
        clear hs hcell hsl hjl hbq hcw hso
        subst eq
        go_wp2_with fail
        refine HST.out.mono ?_
        rintro en w3 ⟨rfl, hs⟩
        clear HST z0 z1 z2 z3 z4 z5 z6
        obtain ⟨ys, hys⟩ : ∃ ys, ys = stepS xs nx s := ⟨_, rfl⟩
        obtain ⟨ny, hny⟩ : ∃ ny, ny = stepN xs nx s := ⟨_, rfl⟩
        have HY := Lib.hid (show GoodS ys ny by rw [hys, hny]; exact HG.out.step s)
        rw [← hys, ← hny] at hs
        clear hys hny HG xs nx
        have z1 := HCW.out _ _ hs 1 (by decide)
        simp only [List.getElem?_cons_zero, List.getElem?_cons_succ] at z1
        obtain ⟨id, hid⟩ : ∃ id, id = s.id := ⟨_, rfl⟩
        have hid0 : 0 ≤ id := by rw [hid]; exact HI0.out.i0
        have hid1 : id ≤ 18446744073709551615 := by rw [hid]; exact HI0.out.i1
        rw [← hid] at z1
        have HID := Lib.hid hid
        clear hid
        have HGT := Lib.hid (duesGet_any hs (i := 0) rfl id hid0 hid1)
        obtain ⟨D, hD⟩ : ∃ D : Du, D = getV ys id := ⟨_, rfl⟩
        obtain ⟨B, hB⟩ : ∃ B, B = getB ys id := ⟨_, rfl⟩
        have HD := Lib.hid hD
        have HBB := Lib.hid hB
        rw [← hD, ← hB] at HGT
        clear hs hD hB
        obtain ⟨di, df, dt, dx, dw, du, dh⟩ := D
        dsimp only [Du.val] at HGT
        go_wp2_with fail
        refine HGT.out.mono ?_
        rintro en w4 ⟨rfl, hs⟩
        clear HGT z1
        have hb1 := hs.newCells #[.int .u64 di, .int .i64 df, .int .i64 dt, .int .i64 dx, .int .i64 dw, .int .i64 du, .bool dh] 36
        obtain ⟨B1, hB1⟩ : ∃ B1, B1 = w4.heap.size := ⟨_, rfl⟩
        have HB1 := Lib.hid hB1
        have z1 := HCW.out _ _ hb1 1 (by decide)
        simp only [List.getElem?_cons_zero, List.getElem?_cons_succ, ← HID.out] at z1
        have HRG := Lib.hid (rGet_any hb1 (i := 2) rfl (by have := HY.out.len; omega) id)
        rw [← HD.out, ← HBB.out] at HRG
        dsimp only [Du.val] at HRG
        clear hs hb1 hB1
        go_wp2_with fail
        refine HRG.out.mono ?_
        rintro en w5 ⟨rfl, hs⟩
        rw [← HB1.out] at hs ⊢
        clear HRG z1
        have hb2 := hs.newCells #[.int .u64 di, .int .i64 df, .int .i64 dt, .int .i64 dx, .int .i64 dw, .int .i64 du, .bool dh] 36
        have h2 : Sep w _ (cellsT w5.heap.size #[.int .u64 di, .int .i64 df, .int .i64 dt, .int .i64 dx, .int .i64 dw, .int .i64 du, .bool dh] 36 :: cellsT B1 #[.int .u64 di, .int .i64 df, .int .i64 dt, .int .i64 dx, .int .i64 dw, .int .i64 du, .bool dh] 36 :: [duesT b ys ny, refD c ys ny]) := hb2
        obtain ⟨B2, hB2⟩ : ∃ B2, B2 = w5.heap.size := ⟨_, rfl⟩
        rw [← hB2] at h2
        clear hs hb2
        go_upto_region 21 with fail
        rw [← hB2]
        clear hB2 HB1
        generalize World.alloc w5 _ = wb at h2 ⊢
        have p0 := cell_of (h2.cells 0 rfl) 0
        have p1 := cell_of (h2.cells 0 rfl) 1
        have p2 := cell_of (h2.cells 0 rfl) 2
        have p3 := cell_of (h2.cells 0 rfl) 3
        have p4 := cell_of (h2.cells 0 rfl) 4
        have p5 := cell_of (h2.cells 0 rfl) 5
        have p6 := cell_of (h2.cells 0 rfl) 6
        have q0 := cell_of (h2.cells 1 rfl) 0
        have q1 := cell_of (h2.cells 1 rfl) 1
        have q2 := cell_of (h2.cells 1 rfl) 2
        have q3 := cell_of (h2.cells 1 rfl) 3
        have q4 := cell_of (h2.cells 1 rfl) 4
        have q5 := cell_of (h2.cells 1 rfl) 5
        have q6 := cell_of (h2.cells 1 rfl) 6
        simp only [List.getElem?_toArray, List.getElem?_cons_zero, List.getElem?_cons_succ] at p0 p1 p2 p3 p4 p5 p6 q0 q1 q2 q3 q4 q5 q6
        obtain ⟨v, h3⟩ := Sep.refOpen h2 (i := 3) rfl
        obtain ⟨av, cv, rfl⟩ := (h3.rdRecs 1 rfl).shape
        obtain ⟨ly, hly⟩ : ∃ k, k = ys.length := ⟨_, rfl⟩
        rw [← hly] at h3
        have HLY := Lib.hid hly
        have hly2 : ys.length ≤ 1000 := by have := HY.out.len; omega
        have HLE := Lib.hid hly2
        have c0 := cell_of (h3.cells 0 rfl) 0
        have c1 := cell_of (h3.cells 0 rfl) 1
        simp only [List.getElem?_toArray, List.getElem?_cons_zero, List.getElem?_cons_succ] at c0 c1
        have hCW : (fun W : World => W.cell? ⟨c, 0, none⟩ = some (.slice av ly cv) ∧ W.cell? ⟨c, 1, none⟩ = some (.int .u64 ny)) wb.drew := ⟨c0, c1⟩
        have HC := Lib.hid (duesList_any h3.drew (i := 4) rfl HY.out)
        have N1 := ne_self_i
        have N2 := ne_self_b
        have N3 : ∀ x : Int, (x != x) = false := fun x => by simp
        clear h2 h3 hly hly2 c0 c1
        refine Mix.region [0, 0, 0, 0, 0, 0, 0, 0, 0, 0, 2, 1, 1, 1, 1, 2, 0, 0, 0, 0, 2, 1, 1, 1, 1, 0, 0, 0, 0, 2, 1, 2, 0, 0] (fun W : World => W.cell? ⟨c, 0, none⟩ = some (.slice av ly cv) ∧ W.cell? ⟨c, 1, none⟩ = some (.int .u64 ny)) (by kernel_rfl) (by kernel_rfl) hCW ?_
        simp only [List.zip_cons_cons, List.zip_nil_right]
        iterate 4 (refine Mix.step0 fun K hK => ?_; go_simp; (try (go_bits; try go_simp)); first | ((with_reducible refine hK _ _ ?_); clear hK K) | ((try (simp only [IntWalk.iteOmega]; try go_simp)); (try go_bits); (with_reducible refine hK _ _ ?_); clear hK K))
        iterate 3 (first | (refine Mix.stepS rfl fun K hK => ?_; go_simp; (with_reducible refine hK _ _ ?_); clear hK K) | (refine Mix.step0 fun K hK => ?_; go_simp; (try (go_bits; try go_simp)); first | ((with_reducible refine hK _ _ ?_); clear hK K) | ((try (simp only [IntWalk.iteOmega]; try go_simp)); (try go_bits); (with_reducible refine hK _ _ ?_); clear hK K)))
        iterate 2 (refine Mix.step0 fun K hK => ?_; go_simp; (try (go_bits; try go_simp)); first | ((with_reducible refine hK _ _ ?_); clear hK K) | ((try (simp only [IntWalk.iteOmega]; try go_simp)); (try go_bits); (with_reducible refine hK _ _ ?_); clear hK K))
        iterate 1 (first | (refine Mix.stepS rfl fun K hK => ?_; go_simp; (with_reducible refine hK _ _ ?_); clear hK K) | (refine Mix.step0 fun K hK => ?_; go_simp; (try (go_bits; try go_simp)); first | ((with_reducible refine hK _ _ ?_); clear hK K) | ((try (simp only [IntWalk.iteOmega]; try go_simp)); (try go_bits); (with_reducible refine hK _ _ ?_); clear hK K)))
        refine Mix.step2n (by first | rfl | simp [Region.wanted, yielded]) fun K hK => ?_
        go_wp2_with fail
        refine HC.out.mono ?_
        rintro en w6 ⟨v1, rfl, h6⟩
        clear HC hCW p0 p1 p2 p3 p4 p5 p6 q0 q1 q2 q3 q4 q5 q6
        have c0 := cell_of (h6.cells 1 rfl) 0
        have c1 := cell_of (h6.cells 1 rfl) 1
        simp only [List.getElem?_toArray, List.getElem?_cons_zero, List.getElem?_cons_succ] at c0 c1
        have hCW : (fun W : World => W.cell? ⟨c, 0, none⟩ = some (.slice av ly cv) ∧ W.cell? ⟨c, 1, none⟩ = some (.int .u64 ny)) w6 := ⟨c0, c1⟩
        have HC := Lib.hid (same_any ys v1 _ w6 (h6.rdRecs 0 rfl) (h6.rdRecs 2 rfl))
        have H6 := Lib.hid h6
        clear h6 c0 c1
        go_wp2_with fail
        refine Mix.post_mk (C := (fun W : World => W.cell? ⟨c, 0, none⟩ = some (.slice av ly cv) ∧ W.cell? ⟨c, 1, none⟩ = some (.int .u64 ny))) (by first | exact hCW | exact HCW.out _) (hK _ _ ?_)
        clear hK K
        (first | (refine Mix.stepS rfl fun K hK => ?_; go_simp; (with_reducible refine hK _ _ ?_); clear hK K) | (refine Mix.step1 fun K hK => ?_; go_simp; (try (go_bits; try go_simp)); first | ((with_reducible refine hK _ _ ?_); clear hK K) | ((try (simp only [IntWalk.iteOmega]; try go_simp)); (try go_bits); (with_reducible refine hK _ _ ?_); clear hK K)))
        (first | (refine Mix.stepS rfl fun K hK => ?_; go_simp; (with_reducible refine hK _ _ ?_); clear hK K) | (refine Mix.step1 fun K hK => ?_; go_simp; (try (go_bits; try go_simp)); first | ((with_reducible refine hK _ _ ?_); clear hK K) | ((try (simp only [IntWalk.iteOmega]; try go_simp)); (try go_bits); (with_reducible refine hK _ _ ?_); clear hK K)))
        (first | (refine Mix.stepS rfl fun K hK => ?_; go_simp; (with_reducible refine hK _ _ ?_); clear hK K) | (refine Mix.step1 fun K hK => ?_; go_simp; (try (go_bits; try go_simp)); first | ((with_reducible refine hK _ _ ?_); clear hK K) | ((try (simp only [IntWalk.iteOmega]; try go_simp)); (try go_bits); (with_reducible refine hK _ _ ?_); clear hK K)))
        (first | (refine Mix.stepS rfl fun K hK => ?_; go_simp; (with_reducible refine hK _ _ ?_); clear hK K) | (refine Mix.step1 fun K hK => ?_; go_simp; refine ⟨fun W => ?_, hK _ _ ?_⟩; (intro hW1; (try intro hW2); (try intro hW3); (try intro hW4); (try intro hW5); (try intro hW6); (try intro hW7); (try intro hW8); go_simp); clear hK K))
        refine Mix.step2n (by first | rfl | simp [Region.wanted, yielded]) fun K hK => ?_
        go_wp2_with fail
        refine HC.out.mono ?_
        rintro en w7 ⟨rfl, hbl⟩
        have h7 := H6.out.belowStep hbl
        clear HC hCW H6 hbl
        have c0 := cell_of (h7.cells 1 rfl) 0
        have c1 := cell_of (h7.cells 1 rfl) 1
        simp only [List.getElem?_toArray, List.getElem?_cons_zero, List.getElem?_cons_succ] at c0 c1
        have hCW : (fun W : World => W.cell? ⟨c, 0, none⟩ = some (.slice av ly cv) ∧ W.cell? ⟨c, 1, none⟩ = some (.int .u64 ny)) w7 := ⟨c0, c1⟩
        have HC := Lib.hid (duesNext_any h7 (i := 5) rfl)
        have H7 := Lib.hid h7
        clear h7 c0 c1
        go_wp2_with fail
        refine Mix.post_mk (C := (fun W : World => W.cell? ⟨c, 0, none⟩ = some (.slice av ly cv) ∧ W.cell? ⟨c, 1, none⟩ = some (.int .u64 ny))) (by first | exact hCW | exact HCW.out _) (hK _ _ ?_)
        clear hK K
        iterate 1 (first | (refine Mix.stepS rfl fun K hK => ?_; go_simp; (with_reducible refine hK _ _ ?_); clear hK K) | (refine Mix.step0 fun K hK => ?_; go_simp; (try (go_bits; try go_simp)); first | ((with_reducible refine hK _ _ ?_); clear hK K) | ((try (simp only [IntWalk.iteOmega]; try go_simp)); (try go_bits); (with_reducible refine hK _ _ ?_); clear hK K)))
        iterate 2 (refine Mix.step0 fun K hK => ?_; go_simp; (try (go_bits; try go_simp)); first | ((with_reducible refine hK _ _ ?_); clear hK K) | ((try (simp only [IntWalk.iteOmega]; try go_simp)); (try go_bits); (with_reducible refine hK _ _ ?_); clear hK K))
        iterate 1 (first | (refine Mix.stepS rfl fun K hK => ?_; go_simp; (with_reducible refine hK _ _ ?_); clear hK K) | (refine Mix.step0 fun K hK => ?_; go_simp; (try (go_bits; try go_simp)); first | ((with_reducible refine hK _ _ ?_); clear hK K) | ((try (simp only [IntWalk.iteOmega]; try go_simp)); (try go_bits); (with_reducible refine hK _ _ ?_); clear hK K)))
        refine Mix.step2n (by first | rfl | simp [Region.wanted, yielded]) fun K hK => ?_
        go_wp2_with fail
        refine HC.out.mono ?_
        rintro en w8 ⟨rfl, rfl⟩
        clear HC
        have HC := Lib.hid (duesGross_any H7.out (i := 5) rfl HLE.out)
        go_wp2_with fail
        refine Mix.post_mk (C := (fun W : World => W.cell? ⟨c, 0, none⟩ = some (.slice av ly cv) ∧ W.cell? ⟨c, 1, none⟩ = some (.int .u64 ny))) (by first | exact hCW | exact HCW.out _) (hK _ _ ?_)
        clear hK K
        (first | (refine Mix.stepS rfl fun K hK => ?_; go_simp; (with_reducible refine hK _ _ ?_); clear hK K) | (refine Mix.step1 fun K hK => ?_; go_simp; (try (go_bits; try go_simp)); first | ((with_reducible refine hK _ _ ?_); clear hK K) | ((try (simp only [IntWalk.iteOmega]; try go_simp)); (try go_bits); (with_reducible refine hK _ _ ?_); clear hK K)))
        (first | (refine Mix.stepS rfl fun K hK => ?_; go_simp; (with_reducible refine hK _ _ ?_); clear hK K) | (refine Mix.step1 fun K hK => ?_; go_simp; (try (go_bits; try go_simp)); first | ((with_reducible refine hK _ _ ?_); clear hK K) | ((try (simp only [IntWalk.iteOmega]; try go_simp)); (try go_bits); (with_reducible refine hK _ _ ?_); clear hK K)))
        (first | (refine Mix.stepS rfl fun K hK => ?_; go_simp; (with_reducible refine hK _ _ ?_); clear hK K) | (refine Mix.step1 fun K hK => ?_; go_simp; (try (go_bits; try go_simp)); first | ((with_reducible refine hK _ _ ?_); clear hK K) | ((try (simp only [IntWalk.iteOmega]; try go_simp)); (try go_bits); (with_reducible refine hK _ _ ?_); clear hK K)))
        (first | (refine Mix.stepS rfl fun K hK => ?_; go_simp; (with_reducible refine hK _ _ ?_); clear hK K) | (refine Mix.step1 fun K hK => ?_; go_simp; refine ⟨fun W => ?_, hK _ _ ?_⟩; (intro hW1; (try intro hW2); (try intro hW3); (try intro hW4); (try intro hW5); (try intro hW6); (try intro hW7); (try intro hW8); go_simp); clear hK K))
        iterate 1 (first | (refine Mix.stepS rfl fun K hK => ?_; go_simp; (with_reducible refine hK _ _ ?_); clear hK K) | (refine Mix.step0 fun K hK => ?_; go_simp; (try (go_bits; try go_simp)); first | ((with_reducible refine hK _ _ ?_); clear hK K) | ((try (simp only [IntWalk.iteOmega]; try go_simp)); (try go_bits); (with_reducible refine hK _ _ ?_); clear hK K)))
        iterate 2 (refine Mix.step0 fun K hK => ?_; go_simp; (try (go_bits; try go_simp)); first | ((with_reducible refine hK _ _ ?_); clear hK K) | ((try (simp only [IntWalk.iteOmega]; try go_simp)); (try go_bits); (with_reducible refine hK _ _ ?_); clear hK K))
        iterate 1 (first | (refine Mix.stepS rfl fun K hK => ?_; go_simp; (with_reducible refine hK _ _ ?_); clear hK K) | (refine Mix.step0 fun K hK => ?_; go_simp; (try (go_bits; try go_simp)); first | ((with_reducible refine hK _ _ ?_); clear hK K) | ((try (simp only [IntWalk.iteOmega]; try go_simp)); (try go_bits); (with_reducible refine hK _ _ ?_); clear hK K)))
        refine Mix.step2n (by first | rfl | simp [Region.wanted, yielded]) fun K hK => ?_
        go_wp2_with fail
        refine HC.out.mono ?_
        rintro en w9 ⟨rfl, h9⟩
        clear HC hCW H7
        have c0 := cell_of (h9.cells 1 rfl) 0
        have c1 := cell_of (h9.cells 1 rfl) 1
        simp only [List.getElem?_toArray, List.getElem?_cons_zero, List.getElem?_cons_succ] at c0 c1
        have hCW : (fun W : World => W.cell? ⟨c, 0, none⟩ = some (.slice av ly cv) ∧ W.cell? ⟨c, 1, none⟩ = some (.int .u64 ny)) w9 := ⟨c0, c1⟩
        have HC := Lib.hid (rGrossB_any c0 (h9.rdRecs 2 rfl) HLE.out)
        have H9 := Lib.hid h9
        clear h9 c0 c1
        go_wp2_with fail
        refine Mix.post_mk (C := (fun W : World => W.cell? ⟨c, 0, none⟩ = some (.slice av ly cv) ∧ W.cell? ⟨c, 1, none⟩ = some (.int .u64 ny))) (by first | exact hCW | exact HCW.out _) (hK _ _ ?_)
        clear hK K
        (first | (refine Mix.stepS rfl fun K hK => ?_; go_simp; (with_reducible refine hK _ _ ?_); clear hK K) | (refine Mix.step1 fun K hK => ?_; go_simp; (try (go_bits; try go_simp)); first | ((with_reducible refine hK _ _ ?_); clear hK K) | ((try (simp only [IntWalk.iteOmega]; try go_simp)); (try go_bits); (with_reducible refine hK _ _ ?_); clear hK K)))
        refine Mix.step2n (by first | rfl | simp [Region.wanted, yielded]) fun K hK => ?_
        go_wp2_with fail
        refine HC.out.mono ?_
        rintro en w10 ⟨rfl, hbl⟩
        have h10 := H9.out.belowStep hbl
        clear HC hCW H9 hbl
        have c0 := cell_of (h10.cells 1 rfl) 0
        have c1 := cell_of (h10.cells 1 rfl) 1
        simp only [List.getElem?_toArray, List.getElem?_cons_zero, List.getElem?_cons_succ] at c0 c1
        have hCW : (fun W : World => W.cell? ⟨c, 0, none⟩ = some (.slice av ly cv) ∧ W.cell? ⟨c, 1, none⟩ = some (.int .u64 ny)) w10 := ⟨c0, c1⟩
        have hT := Sep.refClose (L := [_, _, duesT b ys ny, refD c ys ny]) (i := 3) rfl h10.tail
        have HT := Lib.hid (show Sep w w10 [duesT b ys ny, refD c ys ny] from hT.tail.tail)
        clear h10 hT c0 c1
        go_wp2_with fail
        refine Mix.post_mk (C := (fun W : World => W.cell? ⟨c, 0, none⟩ = some (.slice av ly cv) ∧ W.cell? ⟨c, 1, none⟩ = some (.int .u64 ny))) (by first | exact hCW | exact HCW.out _) (hK _ _ ?_)
        clear hK K
        iterate 1 (first | (refine Mix.stepS rfl fun K hK => ?_; go_simp; (with_reducible refine hK _ _ ?_); clear hK K) | (refine Mix.step0 fun K hK => ?_; go_simp; (try (go_bits; try go_simp)); first | ((with_reducible refine hK _ _ ?_); clear hK K) | ((try (simp only [IntWalk.iteOmega]; try go_simp)); (try go_bits); (with_reducible refine hK _ _ ?_); clear hK K)))
        iterate 1 (refine Mix.step0 fun K hK => ?_; go_simp; (try (go_bits; try go_simp)); first | ((with_reducible refine hK _ _ ?_); clear hK K) | ((try (simp only [IntWalk.iteOmega]; try go_simp)); (try go_bits); (with_reducible refine hK _ _ ?_); clear hK K))
        refine Mix.done ?_
        go_wp2_with fail
        refine Round.intro ((n - (j + 1))) ?measure5 (by kernel_rfl) (hJ1 _ _ _ ?rel5)
        case' rel5 => (try dsimp only [nthV])
        case measure5 => omega
        case rel5 => exact ⟨j + 1, ys, ny, by go_num, by omega, rfl, HY, HT.out⟩
      · obtain rfl : n = j := by omega
        have HB := Lib.hid hs.below
        clear hs
        go_wp2_with fail
        refine (works_any _).mono ?_
        rintro en w3 ⟨rfl, hb⟩
        have HB2 := Lib.hid (HB.out.trans (hb.mono HB.out.size))
        clear hb
        go_wp2_with fail
        go_ret
        exact ⟨rfl, HB2.out⟩
end Go.Proofs.Ythcmkljdhhepgaa
