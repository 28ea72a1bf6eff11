/-
  Package paths: ends, Ways, walked.
-/
import Derived.Test.YtjijhpflkkicaaaPB
import Derived.Test.YtjijhpflkkicaaaLC
import Derived.Test.YtjijhpflkkicaaaLB
set_option linter.unusedVariables false
set_option linter.unusedSimpArgs false
namespace Go.PathP
open Go Go.Mem
/-- The last arcs, behind some arcs. -/
structure EN (n : Nat) (Lp : List Ar) (D H B : List Int) : Prop where
  len : B.length = n
  by_ : ∀ v, v < n → IsBy Lp D H v (g B v)
theorem EN.skip {n : Nat} {Lp : List Ar} {D H B : List Int} (h : EN n Lp D H B) {a : Ar} (ha : byC D H a.v a = false ∨ (g B a.v ≠ -1 ∧ ¬ (a.k : Int) < g B a.v)) : EN n (Lp ++ [a]) D H B := by
  refine ⟨h.len, fun v hv => ?_⟩
  have := (h.by_ v hv).more a
  rw [if_neg] at this
  · exact this
  · by_cases e : a.v = v
    · subst e
      rcases ha with q | ⟨q1, q2⟩
      · simp [q]
      · simp [q1, q2]
    · have : byC D H v a = false := by rw [Bool.eq_false_iff]; intro q; exact e (byC_iff.1 q).1
      simp [this]
theorem EN.put {n : Nat} {Lp : List Ar} {D H B : List Int} (h : EN n Lp D H B) {a : Ar} (hav : a.v < n) (ha : byC D H a.v a = true) (hb : g B a.v = -1 ∨ (a.k : Int) < g B a.v) : EN n (Lp ++ [a]) D H (B.set a.v a.k) := by
  refine ⟨by rw [List.length_set]; exact h.len, fun v hv => ?_⟩
  have hm := (h.by_ v hv).more a
  rw [g_set (by rw [h.len]; exact hav)]
  by_cases e : a.v = v
  · subst e
    rw [upd_same]
    rw [if_pos (by rw [ha]; simp; exact hb)] at hm
    exact hm
  · rw [upd_ne _ _ e]
    have hf : byC D H v a = false := by rw [Bool.eq_false_iff]; intro q; exact e (byC_iff.1 q).1
    rw [if_neg (by simp [hf])] at hm
    exact hm
theorem byC_no {D H : List Int} {a : Ar} (h : ¬ 0 ≤ g D a.u ∨ g H a.v = 0 ∨ g D a.u + a.len ≠ g D a.v ∨ g H a.u + 1 ≠ g H a.v) : byC D H a.v a = false := by
  rw [Bool.eq_false_iff]; intro q
  have := byC_iff.1 q
  omega
theorem byC_yes {D H : List Int} {a : Ar} (h1 : 0 ≤ g D a.u) (h2 : g H a.v ≠ 0) (h3 : g D a.u + a.len = g D a.v) (h4 : g H a.u + 1 = g H a.v) : byC D H a.v a = true := byC_iff.2 ⟨rfl, h1, h2, h3, h4⟩
/-- The arcs of the first nodes. -/
def flatR {α : Type} (rows : List (α × List Ar)) (k : Nat) : List Ar := (rows.take k).flatMap (·.2)
theorem flatR_succ {α : Type} {rows : List (α × List Ar)} {k : Nat} (hk : k < rows.length) : flatR rows (k + 1) = flatR rows k ++ rows[k].2 := by
  unfold flatR
  rw [List.take_succ_eq_append_getElem hk, List.flatMap_append]
  simp
/-- What the arcs that leave a node are like. -/
def RowOk (n u : Nat) (O : List Ar) : Prop := ∀ a ∈ O, a.u = u ∧ a.v < n ∧ 0 ≤ a.len ∧ a.len ≤ maxL ∧ a.k ≤ 100000
/-- Labels as they may be. -/
structure LabOk (n : Nat) (D H : List Int) : Prop where
  lD : D.length = n
  lH : H.length = n
  d : ∀ v, v < n → g D v = -1 ∨ (0 ≤ g D v ∧ g D v ≤ 87960942262080)
  h : ∀ v, v < n → 0 ≤ g H v ∧ g H v ≤ 39
end Go.PathP
namespace Go.Proofs.Ytjijhpflkkicaaa
open Go Go.RowKit Go.Mem Go.NetP Go.RestP Go.CertP Go.PathP
set_option maxRecDepth 100000 in
set_option maxHeartbeats 6000000 in
theorem fends_any (F : Fi) (T0 : Thing) (D H B : List Int) (w0 w : World) (hn : F.n ≤ 40) (hl : F.rows.length = F.n) (hrow : ∀ (u : Nat) (hu : u < F.rows.length), RowOk F.n u F.rows[u].2) (hlab : LabOk F.n D H)
    (hB : EN F.n [] D H B) (hs : Sep w0 w (T0 :: fiL F D H B)) :
    Calls Try.prog 83 #[.pointer (some ⟨F.bf, 0, none⟩)] w fun e w' => (∃ v, e = .returned v) ∧ ∃ B', EN F.n (flatR F.rows F.rows.length) D H B' ∧ Sep w0 w' (T0 :: fiL F D H B') := by
  unfold fiL at hs
  have f0 := cell_of (hs.cells 1 rfl) 0
  simp only [Fi.cells, List.getElem?_toArray, List.getElem?_cons_zero, List.getElem?_cons_succ] at f0
  have HROW := Lib.hid hrow
  have HLD := Lib.hid hlab.lD
  have HLH := Lib.hid hlab.lH
  have HLab := Lib.hid hlab
  have HB := Lib.hid hB
  have HL := Lib.hid hl
  clear hrow hlab hB hl
  go_enter Try.func83, Try.ntmps83
  go_wp2_with fail
  clear f0
  refine wp_loopM [none, none, some 2, some 3, none, some 5, some 6, none, none, none, none, none, some 12, some 13, some 14, some 15, some 16, some 17, some 18, some 19, some 20, some 21, some 22, some 23, some 24, some 25, some 26, some 27, some 28, some 29, some 30, some 31, some 32, some 33, some 34, some 35, some 36, some 37, some 38, some 39, some 40, some 41, some 42, some 43, some 44, some 45, some 46, some 47, some 48, some 49, some 50, some 51, some 52, some 53, some 54, some 55, some 56, some 57, some 58, some 59, some 60, some 61, some 62, some 63, some 64, some 65, some 66, some 67, some 68, some 69, some 70, some 71, some 72, some 73, some 74, some 75, some 76, some 77, some 78, some 79, some 80, some 81, some 82, some 83, some 84, some 85, some 86, some 87, some 88, some 89, some 90, some 91, some 92, some 93, some 94, some 95, some 96, some 97, some 98, some 99, some 100, some 101, some 102, some 103, some 104, some 105, some 106, some 107, some 108] (fun (r : Nat) (f : Nat → Value) (wr : World) => (fun (v : Value) => ∃ (u : Nat) (B : List Int), v = .int .i64 u ∧ u ≤ F.n ∧ r = F.n - u ∧ EN F.n (flatR F.rows u) D H B ∧ Sep w0 wr (T0 :: fiL F D H B)) (f 12)) (F.n) (by kernel_rfl) ?atStart1 ?round1
  case' atStart1 => (try dsimp only [nthV])
  case' round1 =>
    intro gk f wr l hl hrel J1 K1 hJ1 hK1
    (try simp only [mask] at hl)
    generalize f 12 = u12 at hl hrel
    subst hl
    (try dsimp only at hrel)
  case atStart1 => exact ⟨0, B, rfl, Nat.zero_le _, rfl, HB.out, hs⟩
  case round1 =>
    clear hs
    obtain ⟨u, B, rfl, hu, rfl, hen, hs⟩ := hrel
    have HEN := Lib.hid hen
    clear hen
    by_cases hun : u < F.n
    · have hur : u < F.rows.length := by rw [HL.out]; exact hun
      have hRO := HROW.out u hur
      obtain ⟨O, hOd⟩ : ∃ O, O = F.rows[u].2 := ⟨_, rfl⟩
      have HR := Lib.hid (fun (A1 A2 A3 A4 A5 A6 : Thing) => (show (A1 :: A2 :: A3 :: A4 :: A5 :: A6 :: (rowsL F.rows ++ F.ex))[6 + u]? = some (recT arR 132 F.rows[u].1 O) from by rw [hOd]; exact rows_at hur A1 A2 A3 A4 A5 A6))
      have HFS := Lib.hid (flatR_succ hur)
      rw [← hOd] at hRO HFS
      have HRO := Lib.hid hRO
      unfold fiL at hs
      obtain ⟨av, cv, hrv⟩ := (hs.rdRecs (6 + u) (HR.out _ _ _ _ _ _)).shape
      have hg5 := cell_of (hs.cells 5 rfl) u
      have hg1 : (F.rows.map (·.1)).toArray[u]? = some (.slice av O.length cv) := by
        rw [List.getElem?_toArray, List.getElem?_map, List.getElem?_eq_getElem hur]
        simp [hrv]
      rw [hg1] at hg5
      rw [hrv] at HR
      have hle := (hs.rdRecs (6 + u) (HR.out _ _ _ _ _ _)).le'
      clear hg1 hOd hRO hrv
      go_wp2_with fail
      clear hg5
      refine wp_loopM [none, none, none, none, none, some 5, some 6, none, none, none, none, none, none, none, none, none, none, none, none, some 19, some 20, some 21, some 22, some 23, some 24, some 25, some 26, some 27, some 28, some 29, some 30, some 31, some 32, some 33, some 34, some 35, some 36, some 37, some 38, some 39, some 40, some 41, some 42, some 43, some 44, some 45, some 46, some 47, some 48, some 49, some 50, some 51, some 52, some 53, some 54, some 55, some 56, some 57, some 58, some 59, some 60, some 61, some 62, some 63, some 64, some 65, some 66, some 67, some 68, some 69, some 70, some 71, some 72, some 73, some 74, some 75, some 76, some 77, some 78, some 79, some 80, some 81, some 82, some 83, some 84, some 85, some 86, some 87, some 88, some 89, some 90, some 91, some 92, some 93, some 94, some 95, some 96, some 97, some 98, some 99, some 100, some 101, some 102, some 103, some 104, some 105, some 106, some 107, none] (fun (r2 : Nat) (f : Nat → Value) (wq : World) => (fun (v : Value) => ∃ (i : Nat) (B : List Int), v = .int .i64 i ∧ i ≤ O.length ∧ r2 = O.length - i ∧ EN F.n (flatR F.rows u ++ O.take i) D H B ∧ Sep w0 wq (T0 :: fiL F D H B)) (f 19)) (O.length) (by kernel_rfl) ?atStart2 ?round2
      case' atStart2 => (try dsimp only [nthV])
      case' round2 =>
        intro gk f wr l hl hrel J2 K2 hJ2 hK2
        (try simp only [mask] at hl)
        generalize f 19 = u19 at hl hrel
        subst hl
        (try dsimp only at hrel)
      case atStart2 => exact ⟨0, B, rfl, Nat.zero_le _, rfl, by rw [List.take_zero, List.append_nil]; exact HEN.out, hs⟩
      case round2 =>
        clear hs
        obtain ⟨i, B, rfl, hi, rfl, hen, hs⟩ := hrel
        have HE2 := Lib.hid hen
        clear hen
        by_cases hlt : i < O.length
        · unfold fiL at hs
          obtain ⟨b1, o1, e1, hb1, hc⟩ := (hs.rdRecs (6 + u) (HR.out _ _ _ _ _ _)).at i hlt
          subst e1
          have hok := HRO.out _ (List.getElem_mem hlt)
          have HTK := Lib.hid (show O.take (i + 1) = O.take i ++ [O[i]'hlt] from List.take_succ_eq_append_getElem hlt)
          have HSK := Lib.hid (fun q => HE2.out.skip (a := O[i]'hlt) q)
          have HPU := Lib.hid (fun q1 q2 q3 => HE2.out.put (a := O[i]'hlt) q1 q2 q3)
          obtain ⟨a, ha⟩ : ∃ a, a = O[i] := ⟨_, rfl⟩
          rw [← ha] at hc hok HTK HSK HPU
          clear ha
          obtain ⟨ak, au, av', al⟩ := a
          dsimp only at hok
          obtain ⟨hau, hnv, hl0, hl1, hk1⟩ := hok
          subst hau
          have x0 := hc 0 (by decide)
          have x1 := hc 1 (by decide)
          have x2 := hc 2 (by decide)
          have x3 := hc 3 (by decide)
          simp only [arR, Nat.add_zero, List.getElem?_cons_zero, List.getElem?_cons_succ] at x0 x1 x2 x3
          clear hc
          unfold maxL at hl1
          have hs1 := hs.alloc (.cells #[.int .i64 ak, .int .i64 au, .int .i64 av', .int .i64 al] 132)
          have hnb := heap_alloc_new wr (.cells #[.int .i64 ak, .int .i64 au, .int .i64 av', .int .i64 al] 132)
          have qd := HLab.out.d au hun
          have qh := HLab.out.h au hun
          have qd2 := HLab.out.d av' hnv
          have qh2 := HLab.out.h av' hnv
          obtain ⟨BX, hBX⟩ : ∃ BX, BX = wr.heap.size := ⟨_, rfl⟩
          have hgbL : F.gb < BX := by rw [hBX]; exact (hs.ints 4 rfl).low F.gb rfl
          go_wp2_with fail
          rw [← hBX] at hnb ⊢
          clear hs hBX x0 x1 x2 x3
          have hs := hs1
          generalize World.alloc wr _ = W1 at hs hnb ⊢
          clear hs1
          have HNB := Lib.hid (show BX < W1.heap.size ∧ F.gb < BX from ⟨lt_of hnb, hgbL⟩)
          have bx0 := cell_of hnb 0
          have bx2 := cell_of hnb 2
          have bx3 := cell_of hnb 3
          have f1 := cell_of (hs.cells 1 rfl) 1
          have f2 := cell_of (hs.cells 1 rfl) 2
          have f3 := cell_of (hs.cells 1 rfl) 3
          simp only [Fi.cells, List.getElem?_toArray, List.getElem?_cons_zero, List.getElem?_cons_succ] at f1 f2 f3 bx0 bx2 bx3
          obtain ⟨g', cg', eg, _, hcR, xf⟩ := (hs.ints 2 rfl).get au (by rw [HLD.out]; exact hun)
          injection eg with eg q1 q2
          injection eg with eg
          injection eg with eg
          subst eg
          have du := hcR au (by rw [HLD.out]; exact hun)
          clear q1 q2 hcR
          clear xf
          obtain ⟨g', cg', eg, _, hcR, xf⟩ := (hs.ints 3 rfl).get au (by rw [HLH.out]; exact hun)
          injection eg with eg q1 q2
          injection eg with eg
          injection eg with eg
          subst eg
          have hu' := hcR au (by rw [HLH.out]; exact hun)
          clear q1 q2 hcR
          clear xf
          clear hnb hgbL
          obtain ⟨X, hX⟩ : ∃ X, X = g D au := ⟨_, rfl⟩
          obtain ⟨V, hV⟩ : ∃ V, V = g H au := ⟨_, rfl⟩
          rw [show D.getD au 0 = X from hX.symm] at du
          rw [show H.getD au 0 = V from hV.symm] at hu'
          rw [← hX] at qd
          rw [← hV] at qh
          have HXV := Lib.hid (show X = g D au ∧ V = g H au from ⟨hX, hV⟩)
          clear hX hV
          by_cases hself : av' = au
          · subst hself
            clear qd2 qh2
            by_cases c1 : X = -1
            · have d1 : (X == -1) = true := by simpa using c1
              have hq : ¬ 0 ≤ g D av' := by rw [← HXV.out.1]; omega
              clear c1
              have HN := Lib.hid (HSK.out (.inl (byC_no (by dsimp only; (exact .inl hq)))))
              clear HSK HPU
              go_wp2_with fail
              refine Mix.region [0, 0, 0, 0, 0, 0, 0, 0, 0, 0, 0, 0, 0, 0, 0, 0, 0, 0, 0, 0, 0, 0, 0, 0, 0, 0, 0, 0, 0, 0, 0, 0, 0, 0, 0, 0, 0, 0, 0, 0, 0, 0, 0, 0, 0, 0, 0, 0, 0, 0, 0, 0, 0, 0, 0, 0, 0, 0, 0] (fun _ => True) (by kernel_rfl) (by kernel_rfl) trivial ?_
              simp only [List.zip_cons_cons, List.zip_nil_right]
              iterate 9 (refine Mix.step0 fun K hK => ?_; go_simp; (try (go_bits; try go_simp)); first | ((with_reducible refine hK _ _ ?_); clear hK K) | ((try (simp only [IntWalk.iteOmega]; try go_simp)); (try go_bits); (with_reducible refine hK _ _ ?_); clear hK K))
              iterate 9 (first | (refine Mix.stepS rfl fun K hK => ?_; go_simp; (with_reducible refine hK _ _ ?_); clear hK K) | (refine Mix.step0 fun K hK => ?_; go_simp; (try (go_bits; try go_simp)); first | ((with_reducible refine hK _ _ ?_); clear hK K) | ((try (simp only [IntWalk.iteOmega]; try go_simp)); (try go_bits); (with_reducible refine hK _ _ ?_); clear hK K)))
              iterate 2 (refine Mix.step0 fun K hK => ?_; go_simp; (try (go_bits; try go_simp)); first | ((with_reducible refine hK _ _ ?_); clear hK K) | ((try (simp only [IntWalk.iteOmega]; try go_simp)); (try go_bits); (with_reducible refine hK _ _ ?_); clear hK K))
              iterate 19 (first | (refine Mix.stepS rfl fun K hK => ?_; go_simp; (with_reducible refine hK _ _ ?_); clear hK K) | (refine Mix.step0 fun K hK => ?_; go_simp; (try (go_bits; try go_simp)); first | ((with_reducible refine hK _ _ ?_); clear hK K) | ((try (simp only [IntWalk.iteOmega]; try go_simp)); (try go_bits); (with_reducible refine hK _ _ ?_); clear hK K)))
              iterate 2 (refine Mix.step0 fun K hK => ?_; go_simp; (try (go_bits; try go_simp)); first | ((with_reducible refine hK _ _ ?_); clear hK K) | ((try (simp only [IntWalk.iteOmega]; try go_simp)); (try go_bits); (with_reducible refine hK _ _ ?_); clear hK K))
              iterate 17 (first | (refine Mix.stepS rfl fun K hK => ?_; go_simp; (with_reducible refine hK _ _ ?_); clear hK K) | (refine Mix.step0 fun K hK => ?_; go_simp; (try (go_bits; try go_simp)); first | ((with_reducible refine hK _ _ ?_); clear hK K) | ((try (simp only [IntWalk.iteOmega]; try go_simp)); (try go_bits); (with_reducible refine hK _ _ ?_); clear hK K)))
              iterate 1 (refine Mix.step0 fun K hK => ?_; go_simp; (try (go_bits; try go_simp)); first | ((with_reducible refine hK _ _ ?_); clear hK K) | ((try (simp only [IntWalk.iteOmega]; try go_simp)); (try go_bits); (with_reducible refine hK _ _ ?_); clear hK K))
              refine Mix.done ?_
              go_wp2_with fail
              refine Round.intro (O.length - (i + 1)) ?measure3 (by kernel_rfl) (hJ2 _ _ _ ?rel3)
              case' rel3 => (try dsimp only [nthV])
              case measure3 => omega
              case rel3 => exact ⟨i + 1, _, by go_num, hlt, rfl, by rw [HTK.out, ← List.append_assoc]; exact HN.out, hs.drew⟩
            have d1 : (X == -1) = false := by simpa using c1
            by_cases c2 : V = 0
            · have d2 : (V == 0) = true := by simpa using c2
              have hq : g H av' = 0 := by rw [← HXV.out.2]; exact c2
              clear c1 c2
              have HN := Lib.hid (HSK.out (.inl (byC_no (by dsimp only; (exact .inr (.inl hq))))))
              clear HSK HPU
              go_wp2_with fail
              refine Mix.region [0, 0, 0, 0, 0, 0, 0, 0, 0, 0, 0, 0, 0, 0, 0, 0, 0, 0, 0, 0, 0, 0, 0, 0, 0, 0, 0, 0, 0, 0, 0, 0, 0, 0, 0, 0, 0, 0, 0, 0, 0, 0, 0, 0, 0, 0, 0, 0, 0, 0, 0, 0, 0, 0, 0, 0, 0, 0, 0] (fun _ => True) (by kernel_rfl) (by kernel_rfl) trivial ?_
              simp only [List.zip_cons_cons, List.zip_nil_right]
              iterate 9 (refine Mix.step0 fun K hK => ?_; go_simp; (try (go_bits; try go_simp)); first | ((with_reducible refine hK _ _ ?_); clear hK K) | ((try (simp only [IntWalk.iteOmega]; try go_simp)); (try go_bits); (with_reducible refine hK _ _ ?_); clear hK K))
              iterate 9 (first | (refine Mix.stepS rfl fun K hK => ?_; go_simp; (with_reducible refine hK _ _ ?_); clear hK K) | (refine Mix.step0 fun K hK => ?_; go_simp; (try (go_bits; try go_simp)); first | ((with_reducible refine hK _ _ ?_); clear hK K) | ((try (simp only [IntWalk.iteOmega]; try go_simp)); (try go_bits); (with_reducible refine hK _ _ ?_); clear hK K)))
              iterate 2 (refine Mix.step0 fun K hK => ?_; go_simp; (try (go_bits; try go_simp)); first | ((with_reducible refine hK _ _ ?_); clear hK K) | ((try (simp only [IntWalk.iteOmega]; try go_simp)); (try go_bits); (with_reducible refine hK _ _ ?_); clear hK K))
              iterate 19 (first | (refine Mix.stepS rfl fun K hK => ?_; go_simp; (with_reducible refine hK _ _ ?_); clear hK K) | (refine Mix.step0 fun K hK => ?_; go_simp; (try (go_bits; try go_simp)); first | ((with_reducible refine hK _ _ ?_); clear hK K) | ((try (simp only [IntWalk.iteOmega]; try go_simp)); (try go_bits); (with_reducible refine hK _ _ ?_); clear hK K)))
              iterate 2 (refine Mix.step0 fun K hK => ?_; go_simp; (try (go_bits; try go_simp)); first | ((with_reducible refine hK _ _ ?_); clear hK K) | ((try (simp only [IntWalk.iteOmega]; try go_simp)); (try go_bits); (with_reducible refine hK _ _ ?_); clear hK K))
              iterate 17 (first | (refine Mix.stepS rfl fun K hK => ?_; go_simp; (with_reducible refine hK _ _ ?_); clear hK K) | (refine Mix.step0 fun K hK => ?_; go_simp; (try (go_bits; try go_simp)); first | ((with_reducible refine hK _ _ ?_); clear hK K) | ((try (simp only [IntWalk.iteOmega]; try go_simp)); (try go_bits); (with_reducible refine hK _ _ ?_); clear hK K)))
              iterate 1 (refine Mix.step0 fun K hK => ?_; go_simp; (try (go_bits; try go_simp)); first | ((with_reducible refine hK _ _ ?_); clear hK K) | ((try (simp only [IntWalk.iteOmega]; try go_simp)); (try go_bits); (with_reducible refine hK _ _ ?_); clear hK K))
              refine Mix.done ?_
              go_wp2_with fail
              refine Round.intro (O.length - (i + 1)) ?measure4 (by kernel_rfl) (hJ2 _ _ _ ?rel4)
              case' rel4 => (try dsimp only [nthV])
              case measure4 => omega
              case rel4 => exact ⟨i + 1, _, by go_num, hlt, rfl, by rw [HTK.out, ← List.append_assoc]; exact HN.out, hs.drew⟩
            have d2 : (V == 0) = false := by simpa using c2
            have hq : g H av' + 1 ≠ g H av' := by omega
            by_cases c3 : al = 0
            · subst c3
              have d3 : (V + 1 != V) = true := by rw [bne_iff_ne]; omega
              clear c1 c2
              have HN := Lib.hid (HSK.out (.inl (byC_no (by dsimp only; (exact .inr (.inr (.inr hq)))))))
              clear HSK HPU
              go_wp2_with fail
              refine Mix.region [0, 0, 0, 0, 0, 0, 0, 0, 0, 0, 0, 0, 0, 0, 0, 0, 0, 0, 0, 0, 0, 0, 0, 0, 0, 0, 0, 0, 0, 0, 0, 0, 0, 0, 0, 0, 0, 0, 0, 0, 0, 0, 0, 0, 0, 0, 0, 0, 0, 0, 0, 0, 0, 0, 0, 0, 0, 0, 0] (fun _ => True) (by kernel_rfl) (by kernel_rfl) trivial ?_
              simp only [List.zip_cons_cons, List.zip_nil_right]
              iterate 9 (refine Mix.step0 fun K hK => ?_; go_simp; (try (go_bits; try go_simp)); first | ((with_reducible refine hK _ _ ?_); clear hK K) | ((try (simp only [IntWalk.iteOmega]; try go_simp)); (try go_bits); (with_reducible refine hK _ _ ?_); clear hK K))
              iterate 9 (first | (refine Mix.stepS rfl fun K hK => ?_; go_simp; (with_reducible refine hK _ _ ?_); clear hK K) | (refine Mix.step0 fun K hK => ?_; go_simp; (try (go_bits; try go_simp)); first | ((with_reducible refine hK _ _ ?_); clear hK K) | ((try (simp only [IntWalk.iteOmega]; try go_simp)); (try go_bits); (with_reducible refine hK _ _ ?_); clear hK K)))
              iterate 2 (refine Mix.step0 fun K hK => ?_; go_simp; (try (go_bits; try go_simp)); first | ((with_reducible refine hK _ _ ?_); clear hK K) | ((try (simp only [IntWalk.iteOmega]; try go_simp)); (try go_bits); (with_reducible refine hK _ _ ?_); clear hK K))
              iterate 19 (first | (refine Mix.stepS rfl fun K hK => ?_; go_simp; (with_reducible refine hK _ _ ?_); clear hK K) | (refine Mix.step0 fun K hK => ?_; go_simp; (try (go_bits; try go_simp)); first | ((with_reducible refine hK _ _ ?_); clear hK K) | ((try (simp only [IntWalk.iteOmega]; try go_simp)); (try go_bits); (with_reducible refine hK _ _ ?_); clear hK K)))
              iterate 2 (refine Mix.step0 fun K hK => ?_; go_simp; (try (go_bits; try go_simp)); first | ((with_reducible refine hK _ _ ?_); clear hK K) | ((try (simp only [IntWalk.iteOmega]; try go_simp)); (try go_bits); (with_reducible refine hK _ _ ?_); clear hK K))
              iterate 17 (first | (refine Mix.stepS rfl fun K hK => ?_; go_simp; (with_reducible refine hK _ _ ?_); clear hK K) | (refine Mix.step0 fun K hK => ?_; go_simp; (try (go_bits; try go_simp)); first | ((with_reducible refine hK _ _ ?_); clear hK K) | ((try (simp only [IntWalk.iteOmega]; try go_simp)); (try go_bits); (with_reducible refine hK _ _ ?_); clear hK K)))
              iterate 1 (refine Mix.step0 fun K hK => ?_; go_simp; (try (go_bits; try go_simp)); first | ((with_reducible refine hK _ _ ?_); clear hK K) | ((try (simp only [IntWalk.iteOmega]; try go_simp)); (try go_bits); (with_reducible refine hK _ _ ?_); clear hK K))
              refine Mix.done ?_
              go_wp2_with fail
              refine Round.intro (O.length - (i + 1)) ?measure5 (by kernel_rfl) (hJ2 _ _ _ ?rel5)
              case' rel5 => (try dsimp only [nthV])
              case measure5 => omega
              case rel5 => exact ⟨i + 1, _, by go_num, hlt, rfl, by rw [HTK.out, ← List.append_assoc]; exact HN.out, hs.drew⟩
            · have d3 : (X + al != X) = true := by rw [bne_iff_ne]; omega
              clear c1 c2 c3
              have HN := Lib.hid (HSK.out (.inl (byC_no (by dsimp only; (exact .inr (.inr (.inr hq)))))))
              clear HSK HPU
              go_wp2_with fail
              refine Mix.region [0, 0, 0, 0, 0, 0, 0, 0, 0, 0, 0, 0, 0, 0, 0, 0, 0, 0, 0, 0, 0, 0, 0, 0, 0, 0, 0, 0, 0, 0, 0, 0, 0, 0, 0, 0, 0, 0, 0, 0, 0, 0, 0, 0, 0, 0, 0, 0, 0, 0, 0, 0, 0, 0, 0, 0, 0, 0, 0] (fun _ => True) (by kernel_rfl) (by kernel_rfl) trivial ?_
              simp only [List.zip_cons_cons, List.zip_nil_right]
              iterate 9 (refine Mix.step0 fun K hK => ?_; go_simp; (try (go_bits; try go_simp)); first | ((with_reducible refine hK _ _ ?_); clear hK K) | ((try (simp only [IntWalk.iteOmega]; try go_simp)); (try go_bits); (with_reducible refine hK _ _ ?_); clear hK K))
              iterate 9 (first | (refine Mix.stepS rfl fun K hK => ?_; go_simp; (with_reducible refine hK _ _ ?_); clear hK K) | (refine Mix.step0 fun K hK => ?_; go_simp; (try (go_bits; try go_simp)); first | ((with_reducible refine hK _ _ ?_); clear hK K) | ((try (simp only [IntWalk.iteOmega]; try go_simp)); (try go_bits); (with_reducible refine hK _ _ ?_); clear hK K)))
              iterate 2 (refine Mix.step0 fun K hK => ?_; go_simp; (try (go_bits; try go_simp)); first | ((with_reducible refine hK _ _ ?_); clear hK K) | ((try (simp only [IntWalk.iteOmega]; try go_simp)); (try go_bits); (with_reducible refine hK _ _ ?_); clear hK K))
              iterate 19 (first | (refine Mix.stepS rfl fun K hK => ?_; go_simp; (with_reducible refine hK _ _ ?_); clear hK K) | (refine Mix.step0 fun K hK => ?_; go_simp; (try (go_bits; try go_simp)); first | ((with_reducible refine hK _ _ ?_); clear hK K) | ((try (simp only [IntWalk.iteOmega]; try go_simp)); (try go_bits); (with_reducible refine hK _ _ ?_); clear hK K)))
              iterate 2 (refine Mix.step0 fun K hK => ?_; go_simp; (try (go_bits; try go_simp)); first | ((with_reducible refine hK _ _ ?_); clear hK K) | ((try (simp only [IntWalk.iteOmega]; try go_simp)); (try go_bits); (with_reducible refine hK _ _ ?_); clear hK K))
              iterate 17 (first | (refine Mix.stepS rfl fun K hK => ?_; go_simp; (with_reducible refine hK _ _ ?_); clear hK K) | (refine Mix.step0 fun K hK => ?_; go_simp; (try (go_bits; try go_simp)); first | ((with_reducible refine hK _ _ ?_); clear hK K) | ((try (simp only [IntWalk.iteOmega]; try go_simp)); (try go_bits); (with_reducible refine hK _ _ ?_); clear hK K)))
              iterate 1 (refine Mix.step0 fun K hK => ?_; go_simp; (try (go_bits; try go_simp)); first | ((with_reducible refine hK _ _ ?_); clear hK K) | ((try (simp only [IntWalk.iteOmega]; try go_simp)); (try go_bits); (with_reducible refine hK _ _ ?_); clear hK K))
              refine Mix.done ?_
              go_wp2_with fail
              refine Round.intro (O.length - (i + 1)) ?measure6 (by kernel_rfl) (hJ2 _ _ _ ?rel6)
              case' rel6 => (try dsimp only [nthV])
              case measure6 => omega
              case rel6 => exact ⟨i + 1, _, by go_num, hlt, rfl, by rw [HTK.out, ← List.append_assoc]; exact HN.out, hs.drew⟩
          obtain ⟨g', cg', eg, _, hcR, xf⟩ := (hs.ints 2 rfl).get av' (by rw [HLD.out]; exact hnv)
          injection eg with eg q1 q2
          injection eg with eg
          injection eg with eg
          subst eg
          have dv := hcR av' (by rw [HLD.out]; exact hnv)
          clear q1 q2 hcR
          clear xf
          obtain ⟨g', cg', eg, _, hcR, xf⟩ := (hs.ints 3 rfl).get av' (by rw [HLH.out]; exact hnv)
          injection eg with eg q1 q2
          injection eg with eg
          injection eg with eg
          subst eg
          have hv' := hcR av' (by rw [HLH.out]; exact hnv)
          clear q1 q2 hcR
          clear xf
          obtain ⟨P, hP⟩ : ∃ P, P = g D av' := ⟨_, rfl⟩
          obtain ⟨Y, hY⟩ : ∃ Y, Y = g H av' := ⟨_, rfl⟩
          rw [show D.getD av' 0 = P from hP.symm] at dv
          rw [show H.getD av' 0 = Y from hY.symm] at hv'
          rw [← hP] at qd2
          rw [← hY] at qh2
          have HPY := Lib.hid (show P = g D av' ∧ Y = g H av' from ⟨hP, hY⟩)
          clear hP hY hself
          by_cases c1 : X = -1
          · have d1 : (X == -1) = true := by simpa using c1
            have hq : ¬ 0 ≤ g D au := by rw [← HXV.out.1]; omega
            clear c1
            have HN := Lib.hid (HSK.out (.inl (byC_no (by dsimp only; (exact .inl hq)))))
            clear HSK HPU
            go_wp2_with fail
            refine Mix.region [0, 0, 0, 0, 0, 0, 0, 0, 0, 0, 0, 0, 0, 0, 0, 0, 0, 0, 0, 0, 0, 0, 0, 0, 0, 0, 0, 0, 0, 0, 0, 0, 0, 0, 0, 0, 0, 0, 0, 0, 0, 0, 0, 0, 0, 0, 0, 0, 0, 0, 0, 0, 0, 0, 0, 0, 0, 0, 0] (fun _ => True) (by kernel_rfl) (by kernel_rfl) trivial ?_
            simp only [List.zip_cons_cons, List.zip_nil_right]
            iterate 9 (refine Mix.step0 fun K hK => ?_; go_simp; (try (go_bits; try go_simp)); first | ((with_reducible refine hK _ _ ?_); clear hK K) | ((try (simp only [IntWalk.iteOmega]; try go_simp)); (try go_bits); (with_reducible refine hK _ _ ?_); clear hK K))
            iterate 9 (first | (refine Mix.stepS rfl fun K hK => ?_; go_simp; (with_reducible refine hK _ _ ?_); clear hK K) | (refine Mix.step0 fun K hK => ?_; go_simp; (try (go_bits; try go_simp)); first | ((with_reducible refine hK _ _ ?_); clear hK K) | ((try (simp only [IntWalk.iteOmega]; try go_simp)); (try go_bits); (with_reducible refine hK _ _ ?_); clear hK K)))
            iterate 2 (refine Mix.step0 fun K hK => ?_; go_simp; (try (go_bits; try go_simp)); first | ((with_reducible refine hK _ _ ?_); clear hK K) | ((try (simp only [IntWalk.iteOmega]; try go_simp)); (try go_bits); (with_reducible refine hK _ _ ?_); clear hK K))
            iterate 19 (first | (refine Mix.stepS rfl fun K hK => ?_; go_simp; (with_reducible refine hK _ _ ?_); clear hK K) | (refine Mix.step0 fun K hK => ?_; go_simp; (try (go_bits; try go_simp)); first | ((with_reducible refine hK _ _ ?_); clear hK K) | ((try (simp only [IntWalk.iteOmega]; try go_simp)); (try go_bits); (with_reducible refine hK _ _ ?_); clear hK K)))
            iterate 2 (refine Mix.step0 fun K hK => ?_; go_simp; (try (go_bits; try go_simp)); first | ((with_reducible refine hK _ _ ?_); clear hK K) | ((try (simp only [IntWalk.iteOmega]; try go_simp)); (try go_bits); (with_reducible refine hK _ _ ?_); clear hK K))
            iterate 17 (first | (refine Mix.stepS rfl fun K hK => ?_; go_simp; (with_reducible refine hK _ _ ?_); clear hK K) | (refine Mix.step0 fun K hK => ?_; go_simp; (try (go_bits; try go_simp)); first | ((with_reducible refine hK _ _ ?_); clear hK K) | ((try (simp only [IntWalk.iteOmega]; try go_simp)); (try go_bits); (with_reducible refine hK _ _ ?_); clear hK K)))
            iterate 1 (refine Mix.step0 fun K hK => ?_; go_simp; (try (go_bits; try go_simp)); first | ((with_reducible refine hK _ _ ?_); clear hK K) | ((try (simp only [IntWalk.iteOmega]; try go_simp)); (try go_bits); (with_reducible refine hK _ _ ?_); clear hK K))
            refine Mix.done ?_
            go_wp2_with fail
            refine Round.intro (O.length - (i + 1)) ?measure7 (by kernel_rfl) (hJ2 _ _ _ ?rel7)
            case' rel7 => (try dsimp only [nthV])
            case measure7 => omega
            case rel7 => exact ⟨i + 1, _, by go_num, hlt, rfl, by rw [HTK.out, ← List.append_assoc]; exact HN.out, hs.drew⟩
          have d1 : (X == -1) = false := by simpa using c1
          by_cases c2 : Y = 0
          · have d2 : (Y == 0) = true := by simpa using c2
            have hq : g H av' = 0 := by rw [← HPY.out.2]; exact c2
            clear c1 c2
            have HN := Lib.hid (HSK.out (.inl (byC_no (by dsimp only; (exact .inr (.inl hq))))))
            clear HSK HPU
            go_wp2_with fail
            refine Mix.region [0, 0, 0, 0, 0, 0, 0, 0, 0, 0, 0, 0, 0, 0, 0, 0, 0, 0, 0, 0, 0, 0, 0, 0, 0, 0, 0, 0, 0, 0, 0, 0, 0, 0, 0, 0, 0, 0, 0, 0, 0, 0, 0, 0, 0, 0, 0, 0, 0, 0, 0, 0, 0, 0, 0, 0, 0, 0, 0] (fun _ => True) (by kernel_rfl) (by kernel_rfl) trivial ?_
            simp only [List.zip_cons_cons, List.zip_nil_right]
            iterate 9 (refine Mix.step0 fun K hK => ?_; go_simp; (try (go_bits; try go_simp)); first | ((with_reducible refine hK _ _ ?_); clear hK K) | ((try (simp only [IntWalk.iteOmega]; try go_simp)); (try go_bits); (with_reducible refine hK _ _ ?_); clear hK K))
            iterate 9 (first | (refine Mix.stepS rfl fun K hK => ?_; go_simp; (with_reducible refine hK _ _ ?_); clear hK K) | (refine Mix.step0 fun K hK => ?_; go_simp; (try (go_bits; try go_simp)); first | ((with_reducible refine hK _ _ ?_); clear hK K) | ((try (simp only [IntWalk.iteOmega]; try go_simp)); (try go_bits); (with_reducible refine hK _ _ ?_); clear hK K)))
            iterate 2 (refine Mix.step0 fun K hK => ?_; go_simp; (try (go_bits; try go_simp)); first | ((with_reducible refine hK _ _ ?_); clear hK K) | ((try (simp only [IntWalk.iteOmega]; try go_simp)); (try go_bits); (with_reducible refine hK _ _ ?_); clear hK K))
            iterate 19 (first | (refine Mix.stepS rfl fun K hK => ?_; go_simp; (with_reducible refine hK _ _ ?_); clear hK K) | (refine Mix.step0 fun K hK => ?_; go_simp; (try (go_bits; try go_simp)); first | ((with_reducible refine hK _ _ ?_); clear hK K) | ((try (simp only [IntWalk.iteOmega]; try go_simp)); (try go_bits); (with_reducible refine hK _ _ ?_); clear hK K)))
            iterate 2 (refine Mix.step0 fun K hK => ?_; go_simp; (try (go_bits; try go_simp)); first | ((with_reducible refine hK _ _ ?_); clear hK K) | ((try (simp only [IntWalk.iteOmega]; try go_simp)); (try go_bits); (with_reducible refine hK _ _ ?_); clear hK K))
            iterate 17 (first | (refine Mix.stepS rfl fun K hK => ?_; go_simp; (with_reducible refine hK _ _ ?_); clear hK K) | (refine Mix.step0 fun K hK => ?_; go_simp; (try (go_bits; try go_simp)); first | ((with_reducible refine hK _ _ ?_); clear hK K) | ((try (simp only [IntWalk.iteOmega]; try go_simp)); (try go_bits); (with_reducible refine hK _ _ ?_); clear hK K)))
            iterate 1 (refine Mix.step0 fun K hK => ?_; go_simp; (try (go_bits; try go_simp)); first | ((with_reducible refine hK _ _ ?_); clear hK K) | ((try (simp only [IntWalk.iteOmega]; try go_simp)); (try go_bits); (with_reducible refine hK _ _ ?_); clear hK K))
            refine Mix.done ?_
            go_wp2_with fail
            refine Round.intro (O.length - (i + 1)) ?measure8 (by kernel_rfl) (hJ2 _ _ _ ?rel8)
            case' rel8 => (try dsimp only [nthV])
            case measure8 => omega
            case rel8 => exact ⟨i + 1, _, by go_num, hlt, rfl, by rw [HTK.out, ← List.append_assoc]; exact HN.out, hs.drew⟩
          have d2 : (Y == 0) = false := by simpa using c2
          by_cases c3 : X + al = P
          rotate_left
          · have d3 : (X + al != P) = true := by rw [bne_iff_ne]; exact c3
            have hq : g D au + al ≠ g D av' := by rw [← HXV.out.1, ← HPY.out.1]; exact c3
            clear c1 c2 c3
            have HN := Lib.hid (HSK.out (.inl (byC_no (by dsimp only; (exact .inr (.inr (.inl hq)))))))
            clear HSK HPU
            go_wp2_with fail
            refine Mix.region [0, 0, 0, 0, 0, 0, 0, 0, 0, 0, 0, 0, 0, 0, 0, 0, 0, 0, 0, 0, 0, 0, 0, 0, 0, 0, 0, 0, 0, 0, 0, 0, 0, 0, 0, 0, 0, 0, 0, 0, 0, 0, 0, 0, 0, 0, 0, 0, 0, 0, 0, 0, 0, 0, 0, 0, 0, 0, 0] (fun _ => True) (by kernel_rfl) (by kernel_rfl) trivial ?_
            simp only [List.zip_cons_cons, List.zip_nil_right]
            iterate 9 (refine Mix.step0 fun K hK => ?_; go_simp; (try (go_bits; try go_simp)); first | ((with_reducible refine hK _ _ ?_); clear hK K) | ((try (simp only [IntWalk.iteOmega]; try go_simp)); (try go_bits); (with_reducible refine hK _ _ ?_); clear hK K))
            iterate 9 (first | (refine Mix.stepS rfl fun K hK => ?_; go_simp; (with_reducible refine hK _ _ ?_); clear hK K) | (refine Mix.step0 fun K hK => ?_; go_simp; (try (go_bits; try go_simp)); first | ((with_reducible refine hK _ _ ?_); clear hK K) | ((try (simp only [IntWalk.iteOmega]; try go_simp)); (try go_bits); (with_reducible refine hK _ _ ?_); clear hK K)))
            iterate 2 (refine Mix.step0 fun K hK => ?_; go_simp; (try (go_bits; try go_simp)); first | ((with_reducible refine hK _ _ ?_); clear hK K) | ((try (simp only [IntWalk.iteOmega]; try go_simp)); (try go_bits); (with_reducible refine hK _ _ ?_); clear hK K))
            iterate 19 (first | (refine Mix.stepS rfl fun K hK => ?_; go_simp; (with_reducible refine hK _ _ ?_); clear hK K) | (refine Mix.step0 fun K hK => ?_; go_simp; (try (go_bits; try go_simp)); first | ((with_reducible refine hK _ _ ?_); clear hK K) | ((try (simp only [IntWalk.iteOmega]; try go_simp)); (try go_bits); (with_reducible refine hK _ _ ?_); clear hK K)))
            iterate 2 (refine Mix.step0 fun K hK => ?_; go_simp; (try (go_bits; try go_simp)); first | ((with_reducible refine hK _ _ ?_); clear hK K) | ((try (simp only [IntWalk.iteOmega]; try go_simp)); (try go_bits); (with_reducible refine hK _ _ ?_); clear hK K))
            iterate 17 (first | (refine Mix.stepS rfl fun K hK => ?_; go_simp; (with_reducible refine hK _ _ ?_); clear hK K) | (refine Mix.step0 fun K hK => ?_; go_simp; (try (go_bits; try go_simp)); first | ((with_reducible refine hK _ _ ?_); clear hK K) | ((try (simp only [IntWalk.iteOmega]; try go_simp)); (try go_bits); (with_reducible refine hK _ _ ?_); clear hK K)))
            iterate 1 (refine Mix.step0 fun K hK => ?_; go_simp; (try (go_bits; try go_simp)); first | ((with_reducible refine hK _ _ ?_); clear hK K) | ((try (simp only [IntWalk.iteOmega]; try go_simp)); (try go_bits); (with_reducible refine hK _ _ ?_); clear hK K))
            refine Mix.done ?_
            go_wp2_with fail
            refine Round.intro (O.length - (i + 1)) ?measure9 (by kernel_rfl) (hJ2 _ _ _ ?rel9)
            case' rel9 => (try dsimp only [nthV])
            case measure9 => omega
            case rel9 => exact ⟨i + 1, _, by go_num, hlt, rfl, by rw [HTK.out, ← List.append_assoc]; exact HN.out, hs.drew⟩
          have d3 : (X + al != P) = false := by rw [bne_eq_false_iff_eq]; exact c3
          by_cases c4 : V + 1 = Y
          rotate_left
          · have d4 : (V + 1 != Y) = true := by rw [bne_iff_ne]; exact c4
            have hq : g H au + 1 ≠ g H av' := by rw [← HXV.out.2, ← HPY.out.2]; exact c4
            clear c1 c2 c3 c4
            have HN := Lib.hid (HSK.out (.inl (byC_no (by dsimp only; (exact .inr (.inr (.inr hq)))))))
            clear HSK HPU
            go_wp2_with fail
            refine Mix.region [0, 0, 0, 0, 0, 0, 0, 0, 0, 0, 0, 0, 0, 0, 0, 0, 0, 0, 0, 0, 0, 0, 0, 0, 0, 0, 0, 0, 0, 0, 0, 0, 0, 0, 0, 0, 0, 0, 0, 0, 0, 0, 0, 0, 0, 0, 0, 0, 0, 0, 0, 0, 0, 0, 0, 0, 0, 0, 0] (fun _ => True) (by kernel_rfl) (by kernel_rfl) trivial ?_
            simp only [List.zip_cons_cons, List.zip_nil_right]
            iterate 9 (refine Mix.step0 fun K hK => ?_; go_simp; (try (go_bits; try go_simp)); first | ((with_reducible refine hK _ _ ?_); clear hK K) | ((try (simp only [IntWalk.iteOmega]; try go_simp)); (try go_bits); (with_reducible refine hK _ _ ?_); clear hK K))
            iterate 9 (first | (refine Mix.stepS rfl fun K hK => ?_; go_simp; (with_reducible refine hK _ _ ?_); clear hK K) | (refine Mix.step0 fun K hK => ?_; go_simp; (try (go_bits; try go_simp)); first | ((with_reducible refine hK _ _ ?_); clear hK K) | ((try (simp only [IntWalk.iteOmega]; try go_simp)); (try go_bits); (with_reducible refine hK _ _ ?_); clear hK K)))
            iterate 2 (refine Mix.step0 fun K hK => ?_; go_simp; (try (go_bits; try go_simp)); first | ((with_reducible refine hK _ _ ?_); clear hK K) | ((try (simp only [IntWalk.iteOmega]; try go_simp)); (try go_bits); (with_reducible refine hK _ _ ?_); clear hK K))
            iterate 19 (first | (refine Mix.stepS rfl fun K hK => ?_; go_simp; (with_reducible refine hK _ _ ?_); clear hK K) | (refine Mix.step0 fun K hK => ?_; go_simp; (try (go_bits; try go_simp)); first | ((with_reducible refine hK _ _ ?_); clear hK K) | ((try (simp only [IntWalk.iteOmega]; try go_simp)); (try go_bits); (with_reducible refine hK _ _ ?_); clear hK K)))
            iterate 2 (refine Mix.step0 fun K hK => ?_; go_simp; (try (go_bits; try go_simp)); first | ((with_reducible refine hK _ _ ?_); clear hK K) | ((try (simp only [IntWalk.iteOmega]; try go_simp)); (try go_bits); (with_reducible refine hK _ _ ?_); clear hK K))
            iterate 17 (first | (refine Mix.stepS rfl fun K hK => ?_; go_simp; (with_reducible refine hK _ _ ?_); clear hK K) | (refine Mix.step0 fun K hK => ?_; go_simp; (try (go_bits; try go_simp)); first | ((with_reducible refine hK _ _ ?_); clear hK K) | ((try (simp only [IntWalk.iteOmega]; try go_simp)); (try go_bits); (with_reducible refine hK _ _ ?_); clear hK K)))
            iterate 1 (refine Mix.step0 fun K hK => ?_; go_simp; (try (go_bits; try go_simp)); first | ((with_reducible refine hK _ _ ?_); clear hK K) | ((try (simp only [IntWalk.iteOmega]; try go_simp)); (try go_bits); (with_reducible refine hK _ _ ?_); clear hK K))
            refine Mix.done ?_
            go_wp2_with fail
            refine Round.intro (O.length - (i + 1)) ?measure10 (by kernel_rfl) (hJ2 _ _ _ ?rel10)
            case' rel10 => (try dsimp only [nthV])
            case measure10 => omega
            case rel10 => exact ⟨i + 1, _, by go_num, hlt, rfl, by rw [HTK.out, ← List.append_assoc]; exact HN.out, hs.drew⟩
          have d4 : (V + 1 != Y) = false := by rw [bne_eq_false_iff_eq]; exact c4
          have HBY := Lib.hid (show byC D H av' ⟨ak, au, av', al⟩ = true from byC_yes (a := ⟨ak, au, av', al⟩) (by dsimp only; rw [← HXV.out.1]; omega) (by dsimp only; rw [← HPY.out.2]; exact c2) (by dsimp only; rw [← HXV.out.1, ← HPY.out.1]; exact c3) (by dsimp only; rw [← HXV.out.2, ← HPY.out.2]; exact c4))
          clear c1 c2 c3 c4
          have hlb := HE2.out.len
          obtain ⟨g', cg', eg, _, hcR, bf⟩ := (hs.ints 4 rfl).get av' (by rw [hlb]; exact hnv)
          injection eg with eg q1 q2
          injection eg with eg
          injection eg with eg
          subst eg
          have bv := hcR av' (by rw [hlb]; exact hnv)
          clear q1 q2 hcR
          obtain ⟨R, hR⟩ : ∃ R, R = g B av' := ⟨_, rfl⟩
          rw [show B.getD av' 0 = R from hR.symm] at bv
          have HRB := Lib.hid hR
          clear hR hlb
          go_wp2_with fail
          refine Mix.region [0, 0, 0, 0, 0, 0, 0, 0, 0, 0, 0, 0, 0, 0, 0, 0, 0, 0, 0, 0, 0, 0, 0, 0, 0, 0, 0, 0, 0, 0, 0, 0, 0, 0, 0, 0, 0, 0, 0, 0, 0, 0, 0, 0, 0, 0, 0, 0, 0, 0, 0, 0, 0, 0, 0, 0, 0, 0, 0] (fun _ => True) (by kernel_rfl) (by kernel_rfl) trivial ?_
          simp only [List.zip_cons_cons, List.zip_nil_right]
          iterate 9 (refine Mix.step0 fun K hK => ?_; go_simp; (try (go_bits; try go_simp)); first | ((with_reducible refine hK _ _ ?_); clear hK K) | ((try (simp only [IntWalk.iteOmega]; try go_simp)); (try go_bits); (with_reducible refine hK _ _ ?_); clear hK K))
          iterate 9 (first | (refine Mix.stepS rfl fun K hK => ?_; go_simp; (with_reducible refine hK _ _ ?_); clear hK K) | (refine Mix.step0 fun K hK => ?_; go_simp; (try (go_bits; try go_simp)); first | ((with_reducible refine hK _ _ ?_); clear hK K) | ((try (simp only [IntWalk.iteOmega]; try go_simp)); (try go_bits); (with_reducible refine hK _ _ ?_); clear hK K)))
          iterate 2 (refine Mix.step0 fun K hK => ?_; go_simp; (try (go_bits; try go_simp)); first | ((with_reducible refine hK _ _ ?_); clear hK K) | ((try (simp only [IntWalk.iteOmega]; try go_simp)); (try go_bits); (with_reducible refine hK _ _ ?_); clear hK K))
          iterate 19 (first | (refine Mix.stepS rfl fun K hK => ?_; go_simp; (with_reducible refine hK _ _ ?_); clear hK K) | (refine Mix.step0 fun K hK => ?_; go_simp; (try (go_bits; try go_simp)); first | ((with_reducible refine hK _ _ ?_); clear hK K) | ((try (simp only [IntWalk.iteOmega]; try go_simp)); (try go_bits); (with_reducible refine hK _ _ ?_); clear hK K)))
          iterate 2 (refine Mix.step0 fun K hK => ?_; go_simp; (try (go_bits; try go_simp)); first | ((with_reducible refine hK _ _ ?_); clear hK K) | ((try (simp only [IntWalk.iteOmega]; try go_simp)); (try go_bits); (with_reducible refine hK _ _ ?_); clear hK K))
          iterate 17 (first | (refine Mix.stepS rfl fun K hK => ?_; go_simp; (with_reducible refine hK _ _ ?_); clear hK K) | (refine Mix.step0 fun K hK => ?_; go_simp; (try (go_bits; try go_simp)); first | ((with_reducible refine hK _ _ ?_); clear hK K) | ((try (simp only [IntWalk.iteOmega]; try go_simp)); (try go_bits); (with_reducible refine hK _ _ ?_); clear hK K)))
          iterate 1 (refine Mix.step0 fun K hK => ?_; go_simp; (try (go_bits; try go_simp)); first | ((with_reducible refine hK _ _ ?_); clear hK K) | ((try (simp only [IntWalk.iteOmega]; try go_simp)); (try go_bits); (with_reducible refine hK _ _ ?_); clear hK K))
          refine Mix.done ?_
          go_wp2_with fail
          refine Mix.region [0, 0, 0, 0, 0, 0, 0, 0, 0] (fun _ => True) (by kernel_rfl) (by kernel_rfl) trivial ?_
          simp only [List.zip_cons_cons, List.zip_nil_right]
          iterate 9 (refine Mix.step0 fun K hK => ?_; go_simp; (try (go_bits; try go_simp)); first | ((with_reducible refine hK _ _ ?_); clear hK K) | ((try (simp only [IntWalk.iteOmega]; try go_simp)); (try go_bits); (with_reducible refine hK _ _ ?_); clear hK K))
          refine Mix.done ?_
          by_cases r1 : R = -1
          · have e1 : (R == -1) = true := by simpa using r1
            have hq : g B av' = -1 := by rw [← HRB.out]; exact r1
            clear r1
            have HN := Lib.hid (HPU.out hnv HBY.out (.inl hq))
            clear HSK HPU
            go_wp2_with fail
            refine Mix.region [0, 0, 0, 0, 0, 0, 0, 0, 0, 2] (fun _ => True) (by kernel_rfl) (by kernel_rfl) trivial ?_
            simp only [List.zip_cons_cons, List.zip_nil_right]
            iterate 9 (refine Mix.step0 fun K hK => ?_; go_simp; (try (go_bits; try go_simp)); first | ((with_reducible refine hK _ _ ?_); clear hK K) | ((try (simp only [IntWalk.iteOmega]; try go_simp)); (try go_bits); (with_reducible refine hK _ _ ?_); clear hK K))
            refine Mix.step2n (by first | rfl | simp [Region.wanted, yielded]) fun K hK => ?_
            go_wp2_with fail
            refine Mix.post_mk (C := (fun _ => True)) trivial (hK _ _ ?_)
            clear hK K
            refine Mix.done ?_
            have hs2 := (hs.setInts (j := av') 4 rfl ak).drew.drew.drew
            simp only [List.set_cons_zero, List.set_cons_succ] at hs2
            go_wp2_with fail
            refine Round.intro (O.length - (i + 1)) ?measure11 (by kernel_rfl) (hJ2 _ _ _ ?rel11)
            case' rel11 => (try dsimp only [nthV])
            case measure11 => omega
            case rel11 => exact ⟨i + 1, _, by go_num, hlt, rfl, by rw [HTK.out, ← List.append_assoc]; exact HN.out, hs2⟩
          have e1 : (R == -1) = false := by simpa using r1
          by_cases r2 : (ak : Int) < R
          · have e2 : decide ((ak : Int) < R) = true := decide_eq_true r2
            have hq : (ak : Int) < g B av' := by rw [← HRB.out]; exact r2
            clear r1 r2
            have HN := Lib.hid (HPU.out hnv HBY.out (.inr hq))
            clear HSK HPU
            go_wp2_with fail
            refine Mix.region [0, 0, 0, 0, 0, 0, 0, 0, 0, 2] (fun _ => True) (by kernel_rfl) (by kernel_rfl) trivial ?_
            simp only [List.zip_cons_cons, List.zip_nil_right]
            iterate 9 (refine Mix.step0 fun K hK => ?_; go_simp; (try (go_bits; try go_simp)); first | ((with_reducible refine hK _ _ ?_); clear hK K) | ((try (simp only [IntWalk.iteOmega]; try go_simp)); (try go_bits); (with_reducible refine hK _ _ ?_); clear hK K))
            refine Mix.step2n (by first | rfl | simp [Region.wanted, yielded]) fun K hK => ?_
            go_wp2_with fail
            refine Mix.post_mk (C := (fun _ => True)) trivial (hK _ _ ?_)
            clear hK K
            refine Mix.done ?_
            have hs2 := (hs.setInts (j := av') 4 rfl ak).drew.drew.drew
            simp only [List.set_cons_zero, List.set_cons_succ] at hs2
            go_wp2_with fail
            refine Round.intro (O.length - (i + 1)) ?measure12 (by kernel_rfl) (hJ2 _ _ _ ?rel12)
            case' rel12 => (try dsimp only [nthV])
            case measure12 => omega
            case rel12 => exact ⟨i + 1, _, by go_num, hlt, rfl, by rw [HTK.out, ← List.append_assoc]; exact HN.out, hs2⟩
          · have e2 : decide ((ak : Int) < R) = false := decide_eq_false r2
            have HQ2 := Lib.hid (show g B av' ≠ -1 ∧ ¬ (ak : Int) < g B av' by rw [← HRB.out]; exact ⟨r1, r2⟩)
            have HN := Lib.hid (HSK.out (.inr ⟨HQ2.out.1, by have := HQ2.out.2; omega⟩))
            clear r1 r2 HSK HPU
            go_wp2_with fail
            refine Round.intro (O.length - (i + 1)) ?measure13 (by kernel_rfl) (hJ2 _ _ _ ?rel13)
            case' rel13 => (try dsimp only [nthV])
            case measure13 => omega
            case rel13 => exact ⟨i + 1, _, by go_num, hlt, rfl, by rw [HTK.out, ← List.append_assoc]; exact HN.out, hs.drew.drew⟩
        · obtain rfl : i = O.length := by omega
          rw [List.take_length, ← HFS.out] at HE2
          go_wp2_with fail
          refine Round.intro (F.n - (u + 1)) ?measure14 (by kernel_rfl) (hJ1 _ _ _ ?rel14)
          case' rel14 => (try dsimp only [nthV])
          case measure14 => omega
          case rel14 => exact ⟨u + 1, _, by go_num, hun, rfl, HE2.out, hs⟩
    · obtain rfl : u = F.n := by omega
      have HQ := Lib.hid (show EN F.n (flatR F.rows F.rows.length) D H B by rw [HL.out]; exact HEN.out)
      go_wp2_with fail
      exact bodyPost_end (results_none rfl _ _ _) rfl ⟨⟨_, rfl⟩, B, HQ.out, hs⟩
end Go.Proofs.Ytjijhpflkkicaaa
namespace Go.Proofs.Ytjijhpflkkicaaa
open Go Go.RowKit Go.Mem Go.NetP Go.RestP Go.CertP Go.PathP Go.Shelf
attribute [local go_sem] Oper.semAt_some
theorem Try.infoArcw : (Try.prog.info? 132).map (fun i => (i.zero, i.size, i.bytes)) = some (some (.agg #[.int .i64 0, .int .i64 0, .int .i64 0, .int .i64 0]), 4, 32) := by kernel_rfl
theorem Try.infoI64w : (Try.prog.info? 2).map (fun i => (i.zero, i.size, i.bytes)) = some (some (.int .i64 0), 1, 8) := by kernel_rfl
theorem Try.infoIntw : (Try.prog.info? 3).map (fun i => (i.zero, i.size, i.bytes)) = some (some (.int .i64 0), 1, 8) := by kernel_rfl
theorem Try.infoRow : (Try.prog.info? 133).map (fun i => (i.zero, i.size, i.bytes)) = some (some (.slice none 0 0), 1, 24) := by kernel_rfl
/-- What Ways answers. -/
def WaysP (nn : Int) (es : List Ed) (fl pot zs : List Int) (w : World) (en : Ending) (w' : World) : Prop :=
  ((fitsB nn es fl pot && fromB nn.toNat zs) = false ∧ en = .returned (.tuple #[.slice none 0 0, .slice none 0 0, .int .i64 1]) ∧ Below w.heap.size w w') ∨
  ((fitsB nn es fl pot && fromB nn.toNat zs) = true ∧ ∃ D B vd vb, WS (arcsL es fl pot) (· ∈ fromN zs) nn.toNat maxL D B ∧ en = .returned (.tuple #[vd, vb, .int .i64 0]) ∧ Sep w w' [intsT .i64 2 vd D, intsT .i64 3 vb B])
/-- Rows that are nil. -/
theorem nil_rows {w0 w : World} {L : List Thing} (h : Sep w0 w L) : ∀ n, Sep w0 w (rowsL (List.replicate n (.slice none 0 0, [])) ++ L)
  | 0 => h
  | n + 1 => by
    rw [List.replicate_succ]
    exact (nil_rows h n).nilRecs arR 132
theorem g_rep (n : Nat) (x : Int) {v : Nat} (h : v < n) : g (List.replicate n x) v = x := by
  show (List.replicate n x).getD v 0 = x
  rw [List.getD_eq_getElem?_getD, List.getElem?_replicate, if_pos h]; rfl
theorem mid_perm (A B C D E : Thing) (R X : List Thing) : (R ++ (E :: B :: C :: D :: A :: X)).Perm (A :: B :: C :: D :: E :: (R ++ X)) := by
  have h0 := (show ([4, 1, 2, 3, 0] : List Nat).Perm [0, 1, 2, 3, 4] by decide).map (fun i => [A, B, C, D, E].getD i A)
  have h1 : (E :: B :: C :: D :: A :: X).Perm (A :: B :: C :: D :: E :: X) := h0.append_right X
  refine (h1.append_left R).trans ?_
  have h2 : (R ++ ([A, B, C, D, E] ++ X)).Perm ([A, B, C, D, E] ++ (R ++ X)) := by
    rw [← List.append_assoc, ← List.append_assoc]
    exact List.perm_append_comm.append_right X
  exact h2
theorem fi_ex (F : Fi) (D H B : List Int) (j : Nat) : (fiL F D H B)[5 + F.rows.length + j]? = F.ex[j]? := by
  unfold fiL
  rw [show 5 + F.rows.length + j = (F.rows.length + j) + 1 + 1 + 1 + 1 + 1 by omega]
  simp only [List.getElem?_cons_succ]
  rw [List.getElem?_append_right (by simp [rowsL])]
  congr 1
  simp [rowsL]
theorem fi_row (F : Fi) (D H B : List Int) {u : Nat} (hu : u < F.rows.length) : (fiL F D H B)[5 + u]? = some (recT arR 132 F.rows[u].1 F.rows[u].2) := by
  unfold fiL
  rw [show 5 + u = u + 1 + 1 + 1 + 1 + 1 by omega]
  simp only [List.getElem?_cons_succ]
  unfold rowsL
  rw [List.getElem?_append_left (by simpa using hu), List.getElem?_map, List.getElem?_eq_getElem hu]
  rfl
/-- A row that has turned, and its header. -/
theorem fi_put (bf go gd gh gb n : Nat) (rows : List (Value × List Ar)) (ex : List Thing) (D H B : List Int) {u : Nat} (hu : u < rows.length) (v' : Value) (ys : List Ar) :
    ((fiL ⟨bf, go, gd, gh, gb, n, rows, ex⟩ D H B).set (5 + u) (recT arR 132 v' ys)).set 4 (cellsT go ((rows.map (·.1)).toArray.setIfInBounds u v') 133) = fiL ⟨bf, go, gd, gh, gb, n, rows.set u (v', ys), ex⟩ D H B := by
  unfold fiL Fi.cells
  dsimp only
  rw [show 5 + u = u + 1 + 1 + 1 + 1 + 1 by omega]
  simp only [List.set_cons_succ, List.set_cons_zero]
  rw [List.set_append_left _ _ (by simpa [rowsL] using hu)]
  unfold rowsL
  have e1 : (rows.set u (v', ys)).map (fun p => recT arR 132 p.1 p.2) = (rows.map (fun p => recT arR 132 p.1 p.2)).set u (recT arR 132 v' ys) := List.map_set ..
  have e2 : (rows.set u (v', ys)).map (fun p => p.1) = (rows.map (fun p => p.1)).set u v' := List.map_set ..
  rw [e1, e2, List.setIfInBounds_toArray]
theorem fi_cells (F : Fi) (D H B : List Int) (hx : ∀ A ∈ F.ex, A.Cells) : ∀ A ∈ fiL F D H B, A.Cells := by
  intro A hA
  unfold fiL at hA
  simp only [List.mem_cons, List.mem_append] at hA
  rcases hA with rfl | rfl | rfl | rfl | rfl | hA | hA
  · exact cellsT_cells _ _ _
  · exact intsT_cells _ _ _ _
  · exact intsT_cells _ _ _ _
  · exact intsT_cells _ _ _ _
  · exact cellsT_cells _ _ _
  · unfold rowsL at hA
    obtain ⟨p, _, rfl⟩ := List.mem_map.1 hA
    exact recT_cells _ _ _ _
  · exact hx A hA
theorem fi_last (bf go gd gh gb n : Nat) (rows : List (Value × List Ar)) (ex : List Thing) (D H B : List Int) (T : Thing) :
    (T :: fiL ⟨bf, go, gd, gh, gb, n, rows, ex⟩ D H B).Perm (fiL ⟨bf, go, gd, gh, gb, n, rows, ex ++ [T]⟩ D H B) := by
  refine (List.perm_append_singleton T _).symm.trans (List.Perm.of_eq ?_)
  unfold fiL Fi.cells
  simp
theorem fi_ex1 (F : Fi) (T : Thing) (D H B : List Int) (j : Nat) : (T :: fiL F D H B)[6 + F.rows.length + j]? = F.ex[j]? := by
  rw [show 6 + F.rows.length + j = (5 + F.rows.length + j) + 1 by omega, List.getElem?_cons_succ]
  exact fi_ex F D H B j
/-- The rows behind some arcs. -/
structure RI (N NL : Nat) (rows : List (Value × List Ar)) (pre : List Ar) : Prop where
  len : rows.length = N
  at_ : ∀ (u : Nat) (hu : u < rows.length), rows[u].2 = pre.filter fun a => a.u == u
  own : ∀ (u : Nat) (hu : u < rows.length), ∀ k, rows[u].1.ownBlock = some k → NL ≤ k
theorem RI.start (N NL : Nat) : RI N NL (List.replicate N (.slice none 0 0, [])) [] where
  len := by simp
  at_ u hu := by simp
  own u hu k hk := by simp [Value.ownBlock] at hk
theorem RI.step {N NL : Nat} {rows : List (Value × List Ar)} {pre : List Ar} (h : RI N NL rows pre) {a : Ar} (ha : a.u < rows.length) {v' : Value} (hv : ∀ k, v'.ownBlock = some k → NL ≤ k) : RI N NL (rows.set a.u (v', rows[a.u].2 ++ [a])) (pre ++ [a]) where
  len := by rw [List.length_set]; exact h.len
  at_ u hu := by
    rw [List.length_set] at hu
    rw [List.filter_append, List.getElem_set]
    by_cases e : a.u = u
    · subst e
      simp [h.at_ a.u ha]
    · rw [if_neg e, h.at_ u hu]
      simp [e]
  own u hu k hk := by
    rw [List.length_set] at hu
    rw [List.getElem_set] at hk
    by_cases e : a.u = u
    · rw [if_pos e] at hk; exact hv k hk
    · rw [if_neg e] at hk; exact h.own u hu k hk
/-- None of these rows lies in that block. -/
def Hdr (gs : Array Value) (Bx : Nat) : Prop := ∀ (u : Nat) (v : Value) (k : Nat), gs[u]? = some v → v.ownBlock = some k → k ≠ Bx
theorem hdr_new {w0 w : World} {F : Fi} {D H B : List Int} (hs : Sep w0 w (fiL F D H B)) : Hdr (F.rows.map (·.1)).toArray w.heap.size := by
  intro u v k hu hk
  rw [List.getElem?_toArray, List.getElem?_map] at hu
  cases hr : F.rows[u]? with
  | none => rw [hr] at hu; cases hu
  | some p =>
    rw [hr] at hu
    obtain ⟨hl, e⟩ := List.getElem?_eq_some_iff.1 hr
    cases hu
    have h := hs.recs (5 + u) (fi_row F D H B hl)
    rw [e] at h
    have := (World.ownsRow.lt h k hk).2
    omega
theorem from_lt {n : Nat} {zs : List Int} (h : fromB n zs = true) : ∀ s, s ∈ fromN zs → s < n := by
  intro s hs
  simp only [fromB, Bool.and_eq_true] at h
  obtain ⟨x, hx, rfl⟩ := List.mem_map.1 hs
  have := nodeI_iff.1 (List.all_eq_true.1 h.1 x hx)
  omega
def blkOf : Value → Nat
  | .slice (some a) _ _ => a.block
  | .pointer (some a) => a.block
  | _ => 0
def aggOf : Value → Array Value
  | .agg cs => cs
  | _ => #[]
/-- What the operations that make a finder make, and what they yield. -/
def WTh (N : Nat) : Nat → (Nat → Value) → List Thing
  | 2, v => [cellsT (blkOf (v 2)) (Array.replicate N (.slice none 0 0)) 133]
  | 5, v => [intsT .i64 2 (v 5) (List.replicate N 0)]
  | 8, v => [intsT .i64 3 (v 8) (List.replicate N 0)]
  | 11, v => [intsT .i64 3 (v 11) (List.replicate N 0)]
  | 13, v => [cellsT (blkOf (v 13)) (aggOf (v 12)) 127]
  | 14, v => [cellsT (blkOf (v 14)) #[.pointer none] 124]
  | _, _ => []
def slN (N : Nat) (x : Value) : Prop := ∃ g, x = .slice (some ⟨g, 0, none⟩) N N
def ptN (x : Value) : Prop := ∃ g, x = .pointer (some ⟨g, 0, none⟩)
def WF (B4 N : Nat) : Nat → (Nat → Value) → Prop
  | 0, v => v 0 = .pointer (some ⟨B4, 0, none⟩)
  | 1, v => v 1 = .int .i64 N
  | 2, v => slN N (v 2)
  | 3, v => v 3 = .pointer (some ⟨B4, 0, none⟩)
  | 4, v => v 4 = .int .i64 N
  | 5, v => slN N (v 5)
  | 6, v => v 6 = .pointer (some ⟨B4, 0, none⟩)
  | 7, v => v 7 = .int .i64 N
  | 8, v => slN N (v 8)
  | 9, v => v 9 = .pointer (some ⟨B4, 0, none⟩)
  | 10, v => v 10 = .int .i64 N
  | 11, v => slN N (v 11)
  | 12, v => ∃ g2 g5 g8 g11 : Nat, v 2 = .slice (some ⟨g2, 0, none⟩) N N ∧ v 5 = .slice (some ⟨g5, 0, none⟩) N N ∧ v 8 = .slice (some ⟨g8, 0, none⟩) N N ∧ v 11 = .slice (some ⟨g11, 0, none⟩) N N ∧ v 12 = .agg #[.slice (some ⟨g2, 0, none⟩) N N, .slice (some ⟨g5, 0, none⟩) N N, .slice (some ⟨g8, 0, none⟩) N N, .slice (some ⟨g11, 0, none⟩) N N]
  | 13, v => ptN (v 13)
  | 14, v => ptN (v 14)
  | _, _ => True
def locW : List (List Nat) := [[0], [1], [2], [3], [4], [5], [6], [7], [8], [9], [10], [11], [2, 5, 8, 11, 12], [12, 13], [14]]
theorem locW_ok (B4 N : Nat) : ∀ k, k < 15 → ∀ v v' : Nat → Value, (∀ j ∈ locW.getD k [], v j = v' j) → (WF B4 N k v → WF B4 N k v') ∧ WTh N k v = WTh N k v' := by
  intro k hk v v' h
  rcases k with _ | _ | _ | _ | _ | _ | _ | _ | _ | _ | _ | _ | _ | _ | _ | k
  all_goals first
    | omega
    | (simp only [locW, List.getD_cons_zero, List.getD_cons_succ, List.mem_cons, List.not_mem_nil, or_false, forall_eq_or_imp, forall_eq] at h
       first
         | (obtain ⟨h1, h2, h3, h4, h5⟩ := h; simp only [WF, WTh, h1, h2, h3, h4, h5]; (first | exact ⟨id, rfl⟩ | exact ⟨id, trivial⟩))
         | (obtain ⟨h1, h2⟩ := h; simp only [WF, WTh, h1, h2]; (first | exact ⟨id, rfl⟩ | exact ⟨id, trivial⟩))
         | (simp only [WF, WTh, h]; (first | exact ⟨id, rfl⟩ | exact ⟨id, trivial⟩)))
theorem labOk_of {A : List Ar} {src : Nat → Prop} {n : Nat} {D H : List Int} (hr : Real A src n (g D) (g H)) (hn : Net A src n maxL) (h40 : n ≤ 40) (lD : D.length = n) (lH : H.length = n) : LabOk n D H := by
  refine ⟨lD, lH, fun v hv => ?_, fun v hv => ?_⟩
  · rcases hr.pos hn hv with p | ⟨p1, p2, p3, p4⟩
    · exact .inl p.1
    · have : g H v * maxL ≤ 40 * maxL := Int.mul_le_mul_of_nonneg_right (by omega) (by unfold maxL; omega)
      unfold maxL at *
      omega
  · rcases hr.pos hn hv with p | ⟨p1, p2, p3, p4⟩
    · omega
    · omega
theorem rows_ok {N NL : Nat} {rows : List (Value × List Ar)} {es : List Ed} {fl pot : List Int} {src : Nat → Prop} (hri : RI N NL rows (arcsL es fl pot)) (hn : Net (arcsL es fl pot) src N maxL) (he : es.length ≤ 1000) (u : Nat) (hu : u < rows.length) : RowOk N u rows[u].2 := by
  intro a ha
  rw [hri.at_ u hu, List.mem_filter] at ha
  obtain ⟨ha, hau⟩ := ha
  have h1 := hn.v _ ha
  have h2 := hn.l0 _ ha
  have h3 := hn.l1 _ ha
  have h4 : a.k ≤ 100000 := by
    obtain ⟨k, hk, _, rfl⟩ := arcs_mem.1 ha
    show k ≤ 100000
    omega
  exact ⟨by simpa using hau, h1, h2, h3, h4⟩
theorem rows_all {N NL : Nat} {rows : List (Value × List Ar)} {L : List Ar} (hri : RI N NL rows L) (hL : ∀ a ∈ L, a.u < N) (a : Ar) : a ∈ flatR rows rows.length ↔ a ∈ L := by
  unfold flatR
  rw [List.take_length, List.mem_flatMap]
  constructor
  · rintro ⟨p, hp, ha⟩
    obtain ⟨u, hu, rfl⟩ := List.mem_iff_getElem.1 hp
    rw [hri.at_ u hu] at ha
    exact (List.mem_filter.1 ha).1
  · intro ha
    have hu : a.u < rows.length := by rw [hri.len]; exact hL a ha
    exact ⟨rows[a.u], List.getElem_mem hu, by rw [hri.at_ a.u hu]; exact List.mem_filter.2 ⟨ha, by simp⟩⟩
theorem en_start (n : Nat) (D H : List Int) : EN n [] D H (List.replicate n (-1)) := ⟨by simp, fun v hv => by rw [g_rep n (-1) hv]; exact IsBy.nil _ _ _⟩
/-- What is left of a finder, at the end. -/
theorem fi_end {w0 w : World} {F : Fi} {T T' : Thing} {D H B : List Int} (j : Nat) (h : Sep w0 w ((T :: fiL F D H B).set (6 + F.rows.length + j) T')) :
    Sep w0 w [intsT .i64 2 (.slice (some ⟨F.gd, 0, none⟩) F.n F.n) D, intsT .i64 3 (.slice (some ⟨F.gb, 0, none⟩) F.n F.n) B] := by
  unfold fiL at h
  rw [show 6 + F.rows.length + j = (F.rows.length + j) + 1 + 1 + 1 + 1 + 1 + 1 by omega] at h
  simp only [List.set_cons_succ] at h
  have h1 := (h.tail.tail.omit 1).takeN 2
  simpa [List.eraseIdx, List.take] using h1
theorem ws_end {rows : List (Value × List Ar)} {N NL : Nat} {L : List Ar} {src : Nat → Prop} {D H B : List Int} (hn : Net L src N maxL) (hri : RI N NL rows L) (hl : Least L src N (g D) (g H)) (hr : Real L src N (g D) (g H)) (lD : D.length = N) (lH : H.length = N) (he : EN N (flatR rows rows.length) D H B) : WS L src N maxL D B :=
  ⟨hn, lD, he.len, H, lH, hr, hl, fun v hv => (he.by_ v hv).same (rows_all hri hn.u)⟩
set_option maxRecDepth 100000 in
set_option maxHeartbeats 6000000 in
theorem ways_any (nn : Int) (a : Option Addr) (c : Nat) (es : List Ed) (vf vp vs : Value) (fl pot zs : List Int) (w : World) (h : RdG edR w (.slice a es.length c) es) (hf : Rd .i64 w vf fl) (hp : Rd .i64 w vp pot) (hz : Rd .i64 w vs zs) (hsm : zs.length ≤ 1000) :
    Calls Try.prog 62 #[.agg #[.int .i64 nn, .slice a es.length c], vf, vp, vs] w fun en w' => WaysP nn es fl pot zs w en w' := by
  obtain ⟨af, cf, rfl⟩ := hf.shape
  obtain ⟨ap, cp, rfl⟩ := hp.shape
  obtain ⟨az, cz, rfl⟩ := hz.shape
  obtain ⟨i0, hi0, hi1, hi2, hi3⟩ := info_parts Try.infoI64w
  obtain ⟨j0, hj0, hj1, hj2, hj3⟩ := info_parts Try.infoIntw
  obtain ⟨k0, hk0, hk1, hk2, hk3⟩ := info_parts Try.infoRow
  obtain ⟨r0, hr0, hr1, hr2, hr3⟩ := info_parts Try.infoArcw
  have hs0 := (Sep.start w).newCells #[.int .i64 nn, .slice a es.length c] 48
  have HW := Lib.hid (pfits_any nn a c es _ _ fl pot _ (hs0.rdG h) (hs0.rd hf) (hs0.rd hp))
  have n0 := cell_of (hs0.cells 0 rfl) 0
  have n1 := cell_of (hs0.cells 0 rfl) 1
  simp only [List.getElem?_toArray, List.getElem?_cons_zero, List.getElem?_cons_succ] at n0 n1
  refine (callsIn_wide (n := 6)).1 ?_
  refine callsIn_of_wp_marks Try.func62 rfl trivial ?_ rfl
  simp only [Try.ntmps62, List.size_toArray, List.length_cons, List.length_nil, Nat.reduceAdd, Nat.reduceSub, Array.replicate_succ, Array.replicate_zero, List.push_toArray, List.append_toArray, List.nil_append, List.cons_append]
  refine wpIn_wide.2 ?_
  go_wp2_with fail
  refine HW.out.mono ?_
  rintro en w2 ⟨rfl, hb⟩
  have hs := hs0.belowStep hb
  clear hs0 hb HW n0 n1
  obtain ⟨B4, hB⟩ : ∃ B4, B4 = w.heap.size := ⟨_, rfl⟩
  rw [← hB] at hs ⊢
  have HB4 := Lib.hid (show w.heap.size ≤ B4 by omega)
  clear hB
  cases hfit : fitsB nn es fl pot
  · have HF := Lib.hid (show (fitsB nn es fl pot && fromB nn.toNat zs) = false by rw [hfit]; rfl)
    clear hfit
    go_wp2_with fail
    exact ⟨.tuple #[.slice none 0 0, .slice none 0 0, .int .i64 1], by simp [results, Try.results62, go_sem], .inl ⟨HF.out, rfl, hs.below⟩⟩
  obtain ⟨hw, hr, hp', _⟩ := fits_parts hfit
  have HFIT := Lib.hid hfit
  obtain ⟨hn1, hn40, hes, _, _⟩ := right_cap hr
  obtain ⟨N, rfl⟩ : ∃ N : Nat, nn = N := ⟨nn.toNat, by omega⟩
  have hN : N ≤ 40 := by omega
  have HWI := Lib.hid hw
  have HPB := Lib.hid hp'
  clear hw hr hp' hfit
  go_upto_region 3 with fail
  refine Mix3.region_r (m := 15) (Th := WTh N) (F := WF B4 N) (w0 := w) (L0 := [cellsT B4 #[.int .i64 N, .slice a es.length c] 48]) [0, 0, 0, 0, 0, 0, 0, 0, 0, 0, 0, 0, 0, 0, 0, 2] locW (by kernel_rfl) (by kernel_rfl) hs.drew (locW_ok B4 N) ?hstep ?hfin
  case hstep =>
    intro i o ho him dn v W ρ hdn hdeps hsp hfc hev hbase hcst
    rcases i with _ | _ | _ | _ | _ | _ | _ | _ | _ | _ | _ | _ | _ | _ | _ | i
    all_goals first | omega | skip
    · obtain rfl := Option.some.inj ho
      have e4 := hbase 4 (by kernel_rfl) (by show (4 : Nat) < 116; decide)
      refine ⟨.pointer (some ⟨B4, 0, none⟩), W, ?_, hsp, rfl⟩
      unfold execOp
      simp only [e4]
      go_simp
    · obtain rfl := Option.some.inj ho
      have d0 : dn 0 = true := hdeps { on := 0, ground := .data } (by simp) (by rfl)
      have e0 := (hev 23 0 (by kernel_rfl) d0 (by show (23 : Nat) < 116; decide)).trans (hfc 0 (by omega) d0)
      have n0 := cell_of (hsp.cells _ (Mix3.app_last _ _)) 0
      refine ⟨.int .i64 N, W, ?_, hsp, rfl⟩
      unfold execOp
      simp only [e0]
      go_simp
    · skip
      have eo : o.op = Op.makeSlice 125 (.tmp 24) (.tmp 24) := by rw [← Option.some.inj ho]
      have d0 : dn 1 = true := hdeps { on := 1, ground := .data } (by rw [← Option.some.inj ho]; simp) (by rfl)
      have e0 := (hev 24 1 (by kernel_rfl) d0 (by show (24 : Nat) < 116; decide)).trans (hfc 1 (by omega) d0)
      obtain ⟨g, W', hr, hsp'⟩ := exec_make1 (P := Try.prog) (ρ := ρ) (w := W) o 125 (.tmp 24) (.tmp 24) eo 133 k0 (.slice none 0 0) 24 Try.underlying125 hk0 hk1 rfl hk2 hk3 N .i64 .i64 e0 e0 hsp (by unfold maxLen; omega) (by omega)
      exact ⟨_, W', hr, hsp', ⟨g, rfl⟩⟩
    · obtain rfl := Option.some.inj ho
      have e4 := hbase 4 (by kernel_rfl) (by show (4 : Nat) < 116; decide)
      refine ⟨.pointer (some ⟨B4, 0, none⟩), W, ?_, hsp, rfl⟩
      unfold execOp
      simp only [e4]
      go_simp
    · obtain rfl := Option.some.inj ho
      have d0 : dn 3 = true := hdeps { on := 3, ground := .data } (by simp) (by rfl)
      have e0 := (hev 26 3 (by kernel_rfl) d0 (by show (26 : Nat) < 116; decide)).trans (hfc 3 (by omega) d0)
      have n0 := cell_of (hsp.cells _ (Mix3.app_last _ _)) 0
      refine ⟨.int .i64 N, W, ?_, hsp, rfl⟩
      unfold execOp
      simp only [e0]
      go_simp
    · skip
      have eo : o.op = Op.makeSlice 23 (.tmp 27) (.tmp 27) := by rw [← Option.some.inj ho]
      have d0 : dn 4 = true := hdeps { on := 4, ground := .data } (by rw [← Option.some.inj ho]; simp) (by rfl)
      have e0 := (hev 27 4 (by kernel_rfl) d0 (by show (27 : Nat) < 116; decide)).trans (hfc 4 (by omega) d0)
      obtain ⟨g, W', hr, hsp'⟩ := exec_makeInts (P := Try.prog) (ρ := ρ) (w := W) o 23 (.tmp 27) (.tmp 27) eo 2 i0 .i64 8 Try.underlying23 hi0 hi1 hi2 hi3 N .i64 .i64 e0 e0 hsp (by unfold maxLen; omega) (by omega)
      exact ⟨_, W', hr, hsp', ⟨g, rfl⟩⟩
    · obtain rfl := Option.some.inj ho
      have e4 := hbase 4 (by kernel_rfl) (by show (4 : Nat) < 116; decide)
      refine ⟨.pointer (some ⟨B4, 0, none⟩), W, ?_, hsp, rfl⟩
      unfold execOp
      simp only [e4]
      go_simp
    · obtain rfl := Option.some.inj ho
      have d0 : dn 6 = true := hdeps { on := 6, ground := .data } (by simp) (by rfl)
      have e0 := (hev 29 6 (by kernel_rfl) d0 (by show (29 : Nat) < 116; decide)).trans (hfc 6 (by omega) d0)
      have n0 := cell_of (hsp.cells _ (Mix3.app_last _ _)) 0
      refine ⟨.int .i64 N, W, ?_, hsp, rfl⟩
      unfold execOp
      simp only [e0]
      go_simp
    · skip
      have eo : o.op = Op.makeSlice 60 (.tmp 30) (.tmp 30) := by rw [← Option.some.inj ho]
      have d0 : dn 7 = true := hdeps { on := 7, ground := .data } (by rw [← Option.some.inj ho]; simp) (by rfl)
      have e0 := (hev 30 7 (by kernel_rfl) d0 (by show (30 : Nat) < 116; decide)).trans (hfc 7 (by omega) d0)
      obtain ⟨g, W', hr, hsp'⟩ := exec_makeInts (P := Try.prog) (ρ := ρ) (w := W) o 60 (.tmp 30) (.tmp 30) eo 3 j0 .i64 8 Try.underlying60 hj0 hj1 hj2 hj3 N .i64 .i64 e0 e0 hsp (by unfold maxLen; omega) (by omega)
      exact ⟨_, W', hr, hsp', ⟨g, rfl⟩⟩
    · obtain rfl := Option.some.inj ho
      have e4 := hbase 4 (by kernel_rfl) (by show (4 : Nat) < 116; decide)
      refine ⟨.pointer (some ⟨B4, 0, none⟩), W, ?_, hsp, rfl⟩
      unfold execOp
      simp only [e4]
      go_simp
    · obtain rfl := Option.some.inj ho
      have d0 : dn 9 = true := hdeps { on := 9, ground := .data } (by simp) (by rfl)
      have e0 := (hev 32 9 (by kernel_rfl) d0 (by show (32 : Nat) < 116; decide)).trans (hfc 9 (by omega) d0)
      have n0 := cell_of (hsp.cells _ (Mix3.app_last _ _)) 0
      refine ⟨.int .i64 N, W, ?_, hsp, rfl⟩
      unfold execOp
      simp only [e0]
      go_simp
    · skip
      have eo : o.op = Op.makeSlice 60 (.tmp 33) (.tmp 33) := by rw [← Option.some.inj ho]
      have d0 : dn 10 = true := hdeps { on := 10, ground := .data } (by rw [← Option.some.inj ho]; simp) (by rfl)
      have e0 := (hev 33 10 (by kernel_rfl) d0 (by show (33 : Nat) < 116; decide)).trans (hfc 10 (by omega) d0)
      obtain ⟨g, W', hr, hsp'⟩ := exec_makeInts (P := Try.prog) (ρ := ρ) (w := W) o 60 (.tmp 33) (.tmp 33) eo 3 j0 .i64 8 Try.underlying60 hj0 hj1 hj2 hj3 N .i64 .i64 e0 e0 hsp (by unfold maxLen; omega) (by omega)
      exact ⟨_, W', hr, hsp', ⟨g, rfl⟩⟩
    · obtain rfl := Option.some.inj ho
      have d2 : dn 2 = true := hdeps { on := 2, ground := .data } (by simp) (by rfl)
      have d5 : dn 5 = true := hdeps { on := 5, ground := .data } (by simp) (by rfl)
      have d8 : dn 8 = true := hdeps { on := 8, ground := .data } (by simp) (by rfl)
      have d11 : dn 11 = true := hdeps { on := 11, ground := .data } (by simp) (by rfl)
      obtain ⟨g2, h2⟩ := hfc 2 (by omega) d2
      obtain ⟨g5, h5⟩ := hfc 5 (by omega) d5
      obtain ⟨g8, h8⟩ := hfc 8 (by omega) d8
      obtain ⟨g11, h11⟩ := hfc 11 (by omega) d11
      have q2 := (hev 25 2 (by kernel_rfl) d2 (by show (25 : Nat) < 116; decide)).trans h2
      have q5 := (hev 28 5 (by kernel_rfl) d5 (by show (28 : Nat) < 116; decide)).trans h5
      have q8 := (hev 31 8 (by kernel_rfl) d8 (by show (31 : Nat) < 116; decide)).trans h8
      have q11 := (hev 34 11 (by kernel_rfl) d11 (by show (34 : Nat) < 116; decide)).trans h11
      refine ⟨.agg #[.slice (some ⟨g2, 0, none⟩) N N, .slice (some ⟨g5, 0, none⟩) N N, .slice (some ⟨g8, 0, none⟩) N N, .slice (some ⟨g11, 0, none⟩) N N], W, ?_, hsp, ?_⟩
      · unfold execOp
        simp only [List.map_toArray, List.map_cons, List.map_nil, q2, q5, q8, q11]
        go_simp
      · exact ⟨g2, g5, g8, g11, h2, h5, h8, h11, rfl⟩
    · obtain rfl := Option.some.inj ho
      have d12 : dn 12 = true := hdeps { on := 12, ground := .data } (by simp) (by rfl)
      obtain ⟨g2, g5, g8, g11, _, _, _, _, h12⟩ := hfc 12 (by omega) d12
      have q12 := (hev 35 12 (by kernel_rfl) d12 (by show (35 : Nat) < 116; decide)).trans h12
      refine ⟨.pointer (some ⟨W.heap.size, 0, none⟩), W.alloc (.cells #[.slice (some ⟨g2, 0, none⟩) N N, .slice (some ⟨g5, 0, none⟩) N N, .slice (some ⟨g8, 0, none⟩) N N, .slice (some ⟨g11, 0, none⟩) N N] 127), ?_, ?_, ⟨_, rfl⟩⟩
      · unfold execOp
        simp only [q12]
        go_simp
      · show Sep w _ (cellsT W.heap.size (aggOf (v 12)) 127 :: _)
        rw [h12]
        exact hsp.newCells _ _
    · obtain rfl := Option.some.inj ho
      refine ⟨.pointer (some ⟨W.heap.size, 0, none⟩), W.alloc (.cells #[.pointer none] 124), ?_, hsp.newCells _ _, ⟨_, rfl⟩⟩
      unfold execOp
      go_simp
  case hfin =>
    intro dn v W hd1 hd2 hsp hfc
    obtain ⟨g2, g5, g8, g11, h2, h5, h8, h11, h12⟩ := hfc 12 (by omega)
    obtain ⟨bf, h13⟩ := hfc 13 (by omega)
    obtain ⟨bp, h14⟩ := hfc 14 (by omega)
    have h0 := hfc 0 (by omega)
    have h1 := hfc 1 (by omega)
    have h3 := hfc 3 (by omega)
    have h4 := hfc 4 (by omega)
    have h6 := hfc 6 (by omega)
    have h7 := hfc 7 (by omega)
    have h9 := hfc 9 (by omega)
    have h10 := hfc 10 (by omega)
    simp only [WF] at h0 h1 h3 h4 h6 h7 h9 h10
    rw [Mix3.dn_eq hd1 hd2]
    rw [Mix3.made_all hd1] at hsp
    replace hsp : Sep w W [cellsT (blkOf (v 2)) (Array.replicate N (.slice none 0 0)) 133, intsT .i64 2 (v 5) (List.replicate N 0), intsT .i64 3 (v 8) (List.replicate N 0), intsT .i64 3 (v 11) (List.replicate N 0), cellsT (blkOf (v 13)) (aggOf (v 12)) 127, cellsT (blkOf (v 14)) #[.pointer none] 124, cellsT B4 #[.int .i64 N, .slice a es.length c] 48] := hsp
    rw [h2, h5, h8, h11, h12, h13, h14] at hsp
    replace hsp : Sep w W [cellsT g2 (Array.replicate N (.slice none 0 0)) 133, intsT .i64 2 (.slice (some ⟨g5, 0, none⟩) N N) (List.replicate N 0), intsT .i64 3 (.slice (some ⟨g8, 0, none⟩) N N) (List.replicate N 0), intsT .i64 3 (.slice (some ⟨g11, 0, none⟩) N N) (List.replicate N 0), cellsT bf #[.slice (some ⟨g2, 0, none⟩) N N, .slice (some ⟨g5, 0, none⟩) N N, .slice (some ⟨g8, 0, none⟩) N N, .slice (some ⟨g11, 0, none⟩) N N] 127, cellsT bp #[.pointer none] 124, cellsT B4 #[.int .i64 N, .slice a es.length c] 48] := hsp
    simp only [Mix3.actD, Mix3.apD, h0, h1, h2, h3, h4, h5, h6, h7, h8, h9, h10, h11, h12, h13, h14, Nat.zero_add, Nat.reduceAdd, show ∀ a b, Nat.blt a b = decide (a < b) from fun a b => by rw [Bool.eq_iff_iff, Nat.blt_eq, decide_eq_true_eq], Nat.reduceLT, decide_true, decide_false, if_true, Bool.false_eq_true, if_false, List.setIfInBounds_toArray, List.set_cons_zero, List.set_cons_succ]
    clear h0 h1 h2 h3 h4 h5 h6 h7 h8 h9 h10 h11 h12 h13 h14 hfc hd1 hd2
    simp only [List.zip_cons_cons, List.zip_nil_right, List.drop_succ_cons, List.drop_zero]
    have z0 := cell_of (hsp.cells 5 rfl) 0
    simp only [List.getElem?_toArray, List.getElem?_cons_zero, List.getElem?_cons_succ] at z0
    have zf := fun j => frozen_of (hsp.cells 5 rfl) j
    refine Mix.step2n (by first | rfl | simp [Region.wanted, yielded]) fun K hK => ?_
    go_wp2_with fail
    have hs3 := hsp.setCells 5 rfl 0 (.pointer (some ⟨bf, 0, none⟩)) #[.pointer (some ⟨bf, 0, none⟩)] rfl
    simp only [List.set_cons_zero, List.set_cons_succ] at hs3
    clear hsp z0 zf
    refine Mix.post_mk (C := fun _ => True) trivial (hK _ _ ?_)
    clear hK K
    refine Mix.done ?_
    have hs4 := (nil_rows hs3 N).perm (mid_perm _ _ _ _ _ _ _)
    clear hs3 hs
    obtain ⟨EX, hEX⟩ : ∃ EX : List Thing, EX = [cellsT bp #[.pointer (some ⟨bf, 0, none⟩)] 124, cellsT B4 #[.int .i64 N, .slice a es.length c] 48] := ⟨_, rfl⟩
    replace hs4 : Sep w (W.setCell ⟨bp, 0, none⟩ (.pointer (some ⟨bf, 0, none⟩))) (fiL ⟨bf, g2, g5, g8, g11, N, (List.replicate N (.slice none 0 0, [])), EX⟩ (List.replicate N 0) (List.replicate N 0) (List.replicate N 0)) := by
      rw [hEX]
      unfold fiL Fi.cells
      dsimp only
      rw [List.map_replicate]
      rw [← List.toArray_replicate] at hs4
      exact hs4
    have HX0 := Lib.hid (show EX[0]? = some (cellsT bp #[.pointer (some ⟨bf, 0, none⟩)] 124) by rw [hEX]; rfl)
    have HX1 := Lib.hid (show EX[1]? = some (cellsT B4 #[.int .i64 N, .slice a es.length c] 48) by rw [hEX]; rfl)
    have HXL := Lib.hid (show EX.length = 2 by rw [hEX]; rfl)
    have HXC := Lib.hid (show ∀ A ∈ EX, A.Cells by
      rw [hEX]; intro A hA; simp at hA; rcases hA with rfl | rfl <;> exact cellsT_cells _ _ _)
    clear hEX
    generalize World.setCell W _ _ = W3 at hs4 ⊢
    have p0 := cell_of (hs4.cells _ ((fi_ex _ _ _ _ 1).trans HX1.out)) 0
    simp only [List.getElem?_toArray, List.getElem?_cons_zero, List.getElem?_cons_succ] at p0
    go_wp2_with fail
    clear p0
    refine wp_loopM [none, none, none, none, none, none, none, none, none, none, none, none, some 12, none, none, none, none, none, none, none, none, none, none, none, none, none, none, none, none, none, none, none, none, none, none, none, none, none, none, some 39, some 40, some 41, some 42, some 43, some 44, some 45, some 46, some 47, some 48, some 49, some 50, some 51, some 52, some 53, some 54, none, none, none, none, none, none, none, none, none, none, none, none, none, none, none, none, none, none, none, none, none, none, none, none, none, none, none, none, none, none, none, none, none, none, none, none, none, none, none, none, none, none, none, none, none, none, none, none, none, none, none, none, none, none, none, none, none, none, none, none, none] (fun (r : Nat) (f : Nat → Value) (wr : World) => (fun (v : Value) => ∃ (k : Nat) (D B : List Int), v = .int .i64 k ∧ k ≤ N ∧ r = N - k ∧ Hid (D.length = N ∧ B.length = N ∧ ∀ v, v < k → g D v = -1 ∧ g B v = -1) ∧ Sep w wr (fiL ⟨bf, g2, g5, g8, g11, N, (List.replicate N (.slice none 0 0, [])), EX⟩ D (List.replicate N 0) B)) (f 39)) (N) (by kernel_rfl) ?atStart15 ?round15
    case' atStart15 => (try dsimp only [nthV])
    case' round15 =>
      intro gk f wr l hl hrel J1 K1 hJ1 hK1
      (try simp only [mask] at hl)
      generalize f 39 = u39 at hl hrel
      subst hl
      (try dsimp only at hrel)
    case atStart15 => exact ⟨0, _, _, rfl, Nat.zero_le _, rfl, Lib.hid ⟨by simp, by simp, fun v hv => by omega⟩, hs4⟩
    case round15 =>
      clear hs4
      obtain ⟨k, D, B, rfl, hk, rfl, HDB, hs⟩ := hrel
      have p0 := cell_of (hs.cells _ ((fi_ex _ _ _ _ 0).trans HX0.out)) 0
      simp only [List.getElem?_toArray, List.getElem?_cons_zero, List.getElem?_cons_succ] at p0
      by_cases hlt : k < N
      · have f1 := cell_of (hs.cells 0 rfl) 1
        have f3 := cell_of (hs.cells 0 rfl) 3
        simp only [Fi.cells, List.getElem?_toArray, List.getElem?_cons_zero, List.getElem?_cons_succ] at f1 f3
        obtain ⟨g', cg', eg, _, hcR, df⟩ := (hs.ints 1 rfl).get k (by rw [HDB.out.1]; exact hlt)
        injection eg with eg q1 q2
        injection eg with eg
        injection eg with eg
        subst eg
        have d0 := hcR k (by rw [HDB.out.1]; exact hlt)
        clear q1 q2 hcR
        obtain ⟨g', cg', eg, _, hcR, bfr⟩ := (hs.ints 3 rfl).get k (by rw [HDB.out.2.1]; exact hlt)
        injection eg with eg q1 q2
        injection eg with eg
        injection eg with eg
        subst eg
        have b0 := hcR k (by rw [HDB.out.2.1]; exact hlt)
        clear q1 q2 hcR
        go_wp2_with fail
        refine Mix.region [0, 0, 0, 0, 0, 0, 0, 0, 0, 1, 0, 2, 0, 2] (fun _ => True) (by kernel_rfl) (by kernel_rfl) trivial ?_
        simp only [List.zip_cons_cons, List.zip_nil_right]
        iterate 9 (refine Mix.step0 fun K hK => ?_; go_simp; (try (go_bits; try go_simp)); first | ((with_reducible refine hK _ _ ?_); clear hK K) | ((try (simp only [IntWalk.iteOmega]; try go_simp)); (try go_bits); (with_reducible refine hK _ _ ?_); clear hK K))
        iterate 1 (refine Mix.step1 fun K hK => ?_; go_simp; (try (go_bits; try go_simp)); first | ((with_reducible refine hK _ _ ?_); clear hK K) | ((try (simp only [IntWalk.iteOmega]; try go_simp)); (try go_bits); (with_reducible refine hK _ _ ?_); clear hK K))
        iterate 1 (refine Mix.step0 fun K hK => ?_; go_simp; (try (go_bits; try go_simp)); first | ((with_reducible refine hK _ _ ?_); clear hK K) | ((try (simp only [IntWalk.iteOmega]; try go_simp)); (try go_bits); (with_reducible refine hK _ _ ?_); clear hK K))
        refine Mix.step2n (by first | rfl | simp [Region.wanted, yielded]) fun K hK => ?_
        go_wp2_with fail
        have hs2 := hs.setInts (j := k) 1 rfl (-1)
        simp only [List.set_cons_zero, List.set_cons_succ] at hs2
        clear b0 bfr df d0 f1 f3
        have hsK := hs
        clear hs
        have hs := hs2
        obtain ⟨g', cg', eg, _, hcR, bfr⟩ := (hs.ints 3 rfl).get k (by rw [HDB.out.2.1]; exact hlt)
        injection eg with eg q1 q2
        injection eg with eg
        injection eg with eg
        subst eg
        have b0 := hcR k (by rw [HDB.out.2.1]; exact hlt)
        clear q1 q2 hcR
        refine Mix.post_mk (C := (fun _ => True)) trivial (hK _ _ ?_)
        clear hK K
        iterate 1 (refine Mix.step0 fun K hK => ?_; go_simp; (try (go_bits; try go_simp)); first | ((with_reducible refine hK _ _ ?_); clear hK K) | ((try (simp only [IntWalk.iteOmega]; try go_simp)); (try go_bits); (with_reducible refine hK _ _ ?_); clear hK K))
        refine Mix.step2n (by first | rfl | simp [Region.wanted, yielded]) fun K hK => ?_
        go_wp2_with fail
        refine Mix.post_mk (C := (fun _ => True)) trivial (hK _ _ ?_)
        clear hK K
        refine Mix.done ?_
        have hs3 := (hs2.setInts (j := k) 3 rfl (-1)).drew
        simp only [List.set_cons_zero, List.set_cons_succ] at hs3
        clear hs hs2 b0 bfr p0 hsK
        have HDN := Lib.hid (show (D.set k (-1)).length = N ∧ (B.set k (-1)).length = N ∧ ∀ v, v < k + 1 → g (D.set k (-1)) v = -1 ∧ g (B.set k (-1)) v = -1 by
          obtain ⟨q1, q2, q3⟩ := HDB.out
          refine ⟨by rw [List.length_set]; exact q1, by rw [List.length_set]; exact q2, fun v hv => ?_⟩
          rw [g_set (by rw [q1]; exact hlt), g_set (by rw [q2]; exact hlt)]
          by_cases e : k = v
          · subst e; rw [upd_same, upd_same]; exact ⟨rfl, rfl⟩
          · rw [upd_ne _ _ e, upd_ne _ _ e]; exact q3 v (by omega))
        go_wp2_with fail
        refine Round.intro (N - (k + 1)) ?measure16 (by kernel_rfl) (hJ1 _ _ _ ?rel16)
        case' rel16 => (try dsimp only [nthV])
        case measure16 => omega
        case rel16 => exact ⟨k + 1, _, _, by go_num, hlt, rfl, HDN, hs3⟩
      · obtain rfl : N = k := by omega
        obtain ⟨q1, q2, q3⟩ := HDB.out
        have e1 : D = List.replicate N (-1) := ext_g (by rw [q1]; simp) fun v hv => by rw [(q3 v (by omega)).1, g_rep N (-1) (by omega)]
        have e2 : B = List.replicate N (-1) := ext_g (by rw [q2]; simp) fun v hv => by rw [(q3 v (by omega)).2, g_rep N (-1) (by omega)]
        subst e1; subst e2
        clear q1 q2 q3 HDB
        have m0 := cell_of (hs.cells _ ((fi_ex _ _ _ _ 1).trans HX1.out)) 0
        have m1 := cell_of (hs.cells _ ((fi_ex _ _ _ _ 1).trans HX1.out)) 1
        simp only [List.getElem?_toArray, List.getElem?_cons_zero, List.getElem?_cons_succ] at m0 m1
        go_wp2_with fail
        refine (arcs_calls _ _ _ _ _ _ _ _ _ _ _).mono ?_
        rintro en w5 ⟨rfl, rfl⟩
        clear m0 m1 p0
        have hs4 := ((hs.newCells #[.int .i64 N, .slice a es.length c] 48).newCells #[.slice af fl.length cf] 23).newCells #[.slice ap pot.length cp] 23
        simp only [World.size_alloc] at hs4
        go_wp2_with fail
        obtain ⟨W0, hW0⟩ : ∃ W0, W0 = ((wr.alloc (Obj.cells #[.int .i64 N, .slice a es.length c] 48)).alloc (Obj.cells #[.slice af fl.length cf] 23)).alloc (Obj.cells #[.slice ap pot.length cp] 23) := ⟨_, rfl⟩
        have hsz : W0.heap.size = wr.heap.size + 3 := by rw [hW0]; simp
        rw [← hW0] at hs4 ⊢
        clear hW0
        have hcp := cell_of (hs4.cells 0 rfl) 0
        have hcf := cell_of (hs4.cells 1 rfl) 0
        have hcn := cell_of (hs4.cells 2 rfl)
        have hgo : w.heap.size ≤ g2 ∧ g2 < wr.heap.size := by
          obtain ⟨S, hS, hk⟩ := hs.fresh 4 rfl
          exact ⟨hk g2 (by rw [hS.1]), lt_of (hs.cells 4 rfl)⟩
        have hi0s := hs4.tail.tail.tail
        have HLO := Lib.hid (show bp < wr.heap.size ∧ bf < wr.heap.size ∧ g2 < wr.heap.size from ⟨lt_of (hs.cells _ ((fi_ex _ _ _ _ 0).trans HX0.out)), lt_of (hs.cells 0 rfl), lt_of (hs.cells 4 rfl)⟩)
        have hge := hs4.size
        have hgw := hs.size
        refine (wpIn_wide (n := 6)).1 ?_
        refine nameRF (m := 6) fun a0 ha0 => ?_
        have HSZ := Lib.hid hsz
        refine wpIn_rangeFunc_ownH rfl (by decide) (gf := 91) (lb := #[.pointer (some ⟨wr.heap.size, 0, none⟩), .pointer (some ⟨wr.heap.size + 2, 0, none⟩), .pointer (some ⟨wr.heap.size + 1, 0, none⟩)]) (by rw [ha0]; rfl) trivial (enters_of Try.func91 (by kernel_rfl) rfl)
          (arcs_stops Fence.wide (6 - 1) trivial rfl rfl (by decide) (wr.heap.size + 3) (· = g2) wr.heap.size (wr.heap.size + 2) (wr.heap.size + 1) N a af ap c cf cp es fl pot HWI.out HPB.out (by omega) (by omega) (by omega) (by omega) (by omega) (by omega) W0 (by omega) hcn hcf hcp ?hce ?hcx ?hcq) KeepT.trans (keepT_b (by omega)) (Below.refl _ _) (fun _ => rfl)
          (fun pre W => ∃ rows, RI N (wr.heap.size + 3) rows (pre.map Subtype.val) ∧ Sep w W (fiL ⟨bf, g2, g5, g8, g11, N, rows, EX⟩ (List.replicate N (-1)) (List.replicate N 0) (List.replicate N (-1))) ∧ W0.heap.size ≤ W.heap.size)
          (fun _ _ _ => False)
          (ownFrom_ex fun rows => OwnFrom.and (ownFrom_pure _ _) (OwnFrom.and (sep_ownFrom (fun _ => fiL ⟨bf, g2, g5, g8, g11, N, rows, EX⟩ (List.replicate N (-1)) (List.replicate N 0) (List.replicate N (-1))) (by omega) (fun s A hA => fi_cells _ _ _ _ HXC.out A hA)) (fun _ _ _ _ h hg _ => Nat.le_trans h hg.size)))
          (fun _ _ _ _ _ hs _ _ => hs)
          ⟨_, RI.start N _, hi0s, Nat.le_refl _⟩
          (fun x a1 W => ∃ (Bx : Nat) (gs : Array Value), W.heap[Bx]? = some (.cells #[.int .i64 x.1.k, .int .i64 x.1.u, .int .i64 x.1.v, .int .i64 x.1.len] 132 (0, 0)) ∧ W.heap[g2]? = some (.cells gs 133 (0, 0)) ∧ Hdr gs Bx ∧ wr.heap.size + 3 ≤ Bx ∧
            a1 = { tmps := (a0.tmps.setIfInBounds 59 (.agg #[.int .i64 x.1.k, .int .i64 x.1.u, .int .i64 x.1.v, .int .i64 x.1.len])).setIfInBounds 13 (.pointer (some ⟨Bx, 0, none⟩)), defers := [] })
          (fun x a1 _ X Y row hs hg hr => by obtain ⟨Bx, gs, h2, h4, h3⟩ := hs; exact ⟨Bx, gs, cellsRow_own Bx _ (fun (_ : Unit) => _) () X Y row h2 hg (fun r e => (hr r e).2), cellsRow_own g2 _ (fun (_ : Unit) => _) () X Y row h4 hg (fun r e => (hr r e).2), h3⟩)
          ?assign ?body ?done ?stop
        case hce =>
          intro i hi
          obtain ⟨b, o, e, hb, hc⟩ := h.at i hi
          exact ⟨b, o, e, by omega, by omega, fun j hj => (hs4.cell hb).trans (hc j hj)⟩
        case hcx =>
          intro i hi
          obtain ⟨b, o, e, hb, hc⟩ := hf.at i hi
          exact ⟨b, o, e, by omega, by omega, (hs4.cell hb).trans hc⟩
        case hcq =>
          intro i hi
          obtain ⟨b, o, e, hb, hc⟩ := hp.at i hi
          exact ⟨b, o, e, by omega, by omega, (hs4.cell hb).trans hc⟩
        case assign =>
          rintro l pre ⟨⟨ak, au, av, al⟩, hx⟩ W K hI hK
          dsimp only [encA]
          clear hsz
          subst ha0
          obtain ⟨rows, hri, hs, hz⟩ := hI
          have HRI := Lib.hid hri
          clear hri
          have HHD := Lib.hid (show Hdr (rows.map (·.1)).toArray W.heap.size from hdr_new hs)
          have HG2 := Lib.hid (hs.cells 4 rfl)
          gi_wp2
          exact hK _ _ ((KeepsOthers.alloc _ _).from _) (KeepT.alloc (by have := HSZ.out; omega) _) ⟨rows, HRI.out, hs.alloc _, by simp; omega⟩ ⟨W.heap.size, _, heap_alloc_new W _, (Below.heap_alloc W _ g2 (lt_of HG2.out)).trans HG2.out, HHD.out, by have := HSZ.out; omega, rfl⟩
        case body =>
          rintro l pre ⟨⟨ak, au, av, al⟩, hx⟩ a1 W hl _ ⟨rows, hri, hs, hz⟩ ⟨Bx, gs, hbx, hgs, hhd, hBx, rfl⟩ hlt
          obtain rfl : gs = (rows.map (·.1)).toArray := by
            have := hs.cells 4 rfl
            rw [hgs] at this
            injection this with this
            injection this
          clear hgs
          clear hsz
          subst ha0
          have HRI := Lib.hid hri
          have hauN : au < N := (fits_net (n := N) HFIT.out (src := fun _ => False) (fun _ h => h.elim)).u _ hx
          have hur : au < rows.length := by rw [hri.len]; exact hauN
          have hxl : rows[au].2.length ≤ 400 := by
            rw [hri.at_ au hur]
            have := List.length_filter_le (fun a : Ar => a.u == au) (pre.map Subtype.val)
            rw [List.length_map] at this
            omega
          have hrow := fi_row ⟨bf, g2, g5, g8, g11, N, rows, EX⟩ (List.replicate N (-1)) (List.replicate N 0) (List.replicate N (-1)) hur
          dsimp only at hrow
          obtain ⟨arw, crw, hvs⟩ := (hs.recs (5 + au) hrow).shape
          have HOT := Lib.hid (hri.own au hur)
          have HNX := Lib.hid (fun k (hk : rows[au].1.ownBlock = some k) => hhd au rows[au].1 k (by rw [List.getElem?_toArray, List.getElem?_map, List.getElem?_eq_getElem hur]; rfl) hk)
          clear hhd
          have HPUT := Lib.hid (fi_put bf g2 g5 g8 g11 N rows EX (List.replicate N (-1)) (List.replicate N 0) (List.replicate N (-1)) hur)
          have gc := cell_of (hs.cells 4 rfl) au
          dsimp only at gc
          rw [List.getElem?_toArray, List.getElem?_map, List.getElem?_eq_getElem hur] at gc
          dsimp only [Option.map] at gc
          clear hri
          obtain ⟨XS, hXS⟩ : ∃ XS, XS = rows[au].2 := ⟨_, rfl⟩
          rw [← hXS] at hrow hvs hxl
          rw [hvs] at gc hrow HOT HNX
          have HST := Lib.hid (fun (v' : Value) (hv : ∀ k, v'.ownBlock = some k → wr.heap.size + 3 ≤ k) => (show RI N (wr.heap.size + 3) (rows.set au (v', XS ++ [⟨ak, au, av, al⟩])) (pre.map Subtype.val ++ [⟨ak, au, av, al⟩]) from by rw [hXS]; exact HRI.out.step (a := ⟨ak, au, av, al⟩) hur hv))
          have HRW := Lib.hid hrow
          clear hXS hvs hrow
          have p0 := cell_of (hs.cells _ ((fi_ex _ _ _ _ 0).trans HX0.out)) 0
          have f0 := cell_of (hs.cells 0 rfl) 0
          have x0 := cell_of hbx 0
          have x1 := cell_of hbx 1
          have x2 := cell_of hbx 2
          have x3 := cell_of hbx 3
          simp only [Fi.cells, List.getElem?_toArray, List.getElem?_cons_zero, List.getElem?_cons_succ] at p0 f0 x0 x1 x2 x3
          have hsa := (hs.alloc (.cells #[.int .i64 ak, .int .i64 au, .int .i64 av, .int .i64 al] 132)).drew
          have hnb := heap_alloc_new W (.cells #[.int .i64 ak, .int .i64 au, .int .i64 av, .int .i64 al] 132)
          have hdep : (Fence.inRound Fence.wide l).depth = none := rfl
          gi_wp2_with fail
          have hCW : (fun W : World => W.cell? ⟨bp, 0, none⟩ = some (.pointer (some ⟨bf, 0, none⟩)) ∧ W.cell? ⟨bf, 0, none⟩ = some (.slice (some ⟨g2, 0, none⟩) N N) ∧ W.cell? ⟨Bx, 1, none⟩ = some (.int .i64 au) ∧ W.cell? ⟨g2, au, none⟩ = some (.slice arw XS.length crw)) W.drew := ⟨p0, f0, x1, gc⟩
          refine MixI.region2 hdep 18 [1, 1, 1, 1, 1, 1, 1, 1, 1, 1, 1, 1, 1, 1, 0, 2, 2, 0, 2] (fun W : World => W.cell? ⟨bp, 0, none⟩ = some (.pointer (some ⟨bf, 0, none⟩)) ∧ W.cell? ⟨bf, 0, none⟩ = some (.slice (some ⟨g2, 0, none⟩) N N) ∧ W.cell? ⟨Bx, 1, none⟩ = some (.int .i64 au) ∧ W.cell? ⟨g2, au, none⟩ = some (.slice arw XS.length crw)) (by kernel_rfl) (by kernel_rfl) hCW ?_
          simp only [List.zip_cons_cons, List.zip_nil_right, List.take_succ_cons, List.take_zero, List.drop_succ_cons, List.drop_zero]
          (refine MixI.step1 fun K hK => ?_; go_simp; refine ⟨fun W => ?_, hK _ _ ?_⟩; (intro hW1; (try intro hW2); (try intro hW3); (try intro hW4); (try intro hW5); (try intro hW6); (try intro hW7); (try intro hW8); go_simp); clear hK K)
          (refine MixI.step1 fun K hK => ?_; go_simp; (try (go_bits; try go_simp)); first | ((with_reducible refine hK _ _ ?_); clear hK K) | ((try (simp only [IntWalk.iteOmega]; try go_simp)); (try go_bits); (with_reducible refine hK _ _ ?_); clear hK K))
          (refine MixI.step1 fun K hK => ?_; go_simp; (try (go_bits; try go_simp)); first | ((with_reducible refine hK _ _ ?_); clear hK K) | ((try (simp only [IntWalk.iteOmega]; try go_simp)); (try go_bits); (with_reducible refine hK _ _ ?_); clear hK K))
          (refine MixI.step1 fun K hK => ?_; go_simp; refine ⟨fun W => ?_, hK _ _ ?_⟩; (intro hW1; (try intro hW2); (try intro hW3); (try intro hW4); (try intro hW5); (try intro hW6); (try intro hW7); (try intro hW8); go_simp); clear hK K)
          (refine MixI.step1 fun K hK => ?_; go_simp; (try (go_bits; try go_simp)); first | ((with_reducible refine hK _ _ ?_); clear hK K) | ((try (simp only [IntWalk.iteOmega]; try go_simp)); (try go_bits); (with_reducible refine hK _ _ ?_); clear hK K))
          (refine MixI.step1 fun K hK => ?_; go_simp; refine ⟨fun W => ?_, hK _ _ ?_⟩; (intro hW1; (try intro hW2); (try intro hW3); (try intro hW4); (try intro hW5); (try intro hW6); (try intro hW7); (try intro hW8); go_simp); clear hK K)
          (refine MixI.step1 fun K hK => ?_; go_simp; refine ⟨fun W => ?_, hK _ _ ?_⟩; (intro hW1; (try intro hW2); (try intro hW3); (try intro hW4); (try intro hW5); (try intro hW6); (try intro hW7); (try intro hW8); go_simp); clear hK K)
          (refine MixI.step1 fun K hK => ?_; go_simp; (try (go_bits; try go_simp)); first | ((with_reducible refine hK _ _ ?_); clear hK K) | ((try (simp only [IntWalk.iteOmega]; try go_simp)); (try go_bits); (with_reducible refine hK _ _ ?_); clear hK K))
          (refine MixI.step1 fun K hK => ?_; go_simp; (try (go_bits; try go_simp)); first | ((with_reducible refine hK _ _ ?_); clear hK K) | ((try (simp only [IntWalk.iteOmega]; try go_simp)); (try go_bits); (with_reducible refine hK _ _ ?_); clear hK K))
          (refine MixI.step1 fun K hK => ?_; go_simp; refine ⟨fun W => ?_, hK _ _ ?_⟩; (intro hW1; (try intro hW2); (try intro hW3); (try intro hW4); (try intro hW5); (try intro hW6); (try intro hW7); (try intro hW8); go_simp); clear hK K)
          (refine MixI.step1 fun K hK => ?_; go_simp; (try (go_bits; try go_simp)); first | ((with_reducible refine hK _ _ ?_); clear hK K) | ((try (simp only [IntWalk.iteOmega]; try go_simp)); (try go_bits); (with_reducible refine hK _ _ ?_); clear hK K))
          (refine MixI.step1 fun K hK => ?_; go_simp; refine ⟨fun W => ?_, hK _ _ ?_⟩; (intro hW1; (try intro hW2); (try intro hW3); (try intro hW4); (try intro hW5); (try intro hW6); (try intro hW7); (try intro hW8); go_simp); clear hK K)
          (refine MixI.step1 fun K hK => ?_; go_simp; (try (go_bits; try go_simp)); first | ((with_reducible refine hK _ _ ?_); clear hK K) | ((try (simp only [IntWalk.iteOmega]; try go_simp)); (try go_bits); (with_reducible refine hK _ _ ?_); clear hK K))
          (refine MixI.step1 fun K hK => ?_; go_simp; refine ⟨fun W => ?_, hK _ _ ?_⟩; (intro hW1; (try intro hW2); (try intro hW3); (try intro hW4); (try intro hW5); (try intro hW6); (try intro hW7); (try intro hW8); go_simp); clear hK K)
          iterate 1 (refine MixI.step0 fun K hK => ?_; go_simp; (try (go_bits; try go_simp)); first | ((with_reducible refine hK _ _ ?_); clear hK K) | ((try (simp only [IntWalk.iteOmega]; try go_simp)); (try go_bits); (with_reducible refine hK _ _ ?_); clear hK K))
          refine MixI.step2n (by first | rfl | simp [Region.wanted, yielded]) fun K hK => ?_
          gi_wp2_with fail
          have hA : ∀ b o, b < W.heap.size → (W.alloc (.cells #[.int .i64 ak, .int .i64 au, .int .i64 av, .int .i64 al] 132)).drew.cell? ⟨b, o, none⟩ = W.cell? ⟨b, o, none⟩ := fun b o hb => World.cell?_of_block (w := W) (Below.heap_alloc W _ b hb)
          have hbpL := lt_of (hs.cells _ ((fi_ex _ _ _ _ 0).trans HX0.out))
          have hbfL := lt_of (hs.cells 0 rfl)
          have hg2L := lt_of (hs.cells 4 rfl)
          have HLT := Lib.hid (show bp < W.heap.size ∧ bf < W.heap.size ∧ g2 < W.heap.size ∧ Bx < W.heap.size from ⟨hbpL, hbfL, hg2L, lt_of hbx⟩)
          have hCW2 := hCW
          have hCW : (fun W : World => W.cell? ⟨bp, 0, none⟩ = some (.pointer (some ⟨bf, 0, none⟩)) ∧ W.cell? ⟨bf, 0, none⟩ = some (.slice (some ⟨g2, 0, none⟩) N N) ∧ W.cell? ⟨Bx, 1, none⟩ = some (.int .i64 au) ∧ W.cell? ⟨g2, au, none⟩ = some (.slice arw XS.length crw)) (W.alloc (.cells #[.int .i64 ak, .int .i64 au, .int .i64 av, .int .i64 al] 132)).drew := ⟨(hA _ _ hbpL).trans p0, (hA _ _ hbfL).trans f0, (hA _ _ (lt_of hbx)).trans x1, (hA _ _ hg2L).trans gc⟩
          have HAC := Lib.hid hCW
          clear hA hbpL hbfL hg2L
          refine MixI.post_mk (C := (fun W : World => W.cell? ⟨bp, 0, none⟩ = some (.pointer (some ⟨bf, 0, none⟩)) ∧ W.cell? ⟨bf, 0, none⟩ = some (.slice (some ⟨g2, 0, none⟩) N N) ∧ W.cell? ⟨Bx, 1, none⟩ = some (.int .i64 au) ∧ W.cell? ⟨g2, au, none⟩ = some (.slice arw XS.length crw))) (by first | exact hCW | exact HCW.out _) (hK _ _ ?_)
          clear hK K
          refine MixI.step2n (by first | rfl | simp [Region.wanted, yielded]) fun K hK => ?_
          refine wpListIn_appRecB arR rfl (.tmp 73) (.tmp 75) 133 rfl 132 r0 _ 32 Try.underlying133 hr0 hr1 hr2 hr3 rfl _ XS ⟨ak, au, av, al⟩ hsa (5 + au) HRW.out W.heap.size _ rfl hnb rfl rfl (by unfold maxLen; omega) (by omega) ?_
          intro v' w7 hs5 hsh hok
          have hFr := hok.out.fr
          have hno : ∀ b, b < wr.heap.size + 3 → ¬ (Value.slice arw XS.length crw).ownBlock = some b := fun b hb e => by have := HOT.out b e; omega
          have hLA : ∀ b, b < W.heap.size → b < (W.alloc (.cells #[.int .i64 ak, .int .i64 au, .int .i64 av, .int .i64 al] 132)).drew.heap.size := fun b hb => by show b < (W.alloc _).heap.size; rw [World.size_alloc]; omega
          obtain ⟨l1, l2, l3, l4⟩ := HLT.out
          obtain ⟨m1, m2, m3⟩ := HLO.out
          obtain ⟨c1, c2, c3, c4⟩ := HAC.out
          have hCW : (fun W : World => W.cell? ⟨bp, 0, none⟩ = some (.pointer (some ⟨bf, 0, none⟩)) ∧ W.cell? ⟨bf, 0, none⟩ = some (.slice (some ⟨g2, 0, none⟩) N N) ∧ W.cell? ⟨Bx, 1, none⟩ = some (.int .i64 au) ∧ W.cell? ⟨g2, au, none⟩ = some (.slice arw XS.length crw)) w7 := ⟨(hFr.cell (hLA _ l1) (hno _ (by omega))).trans c1, (hFr.cell (hLA _ l2) (hno _ (by omega))).trans c2, (hFr.cell (hLA _ l4) (fun e => HNX.out _ e rfl)).trans c3, (hFr.cell (hLA _ l3) (hno _ (by omega))).trans c4⟩
          have HN2 := Lib.hid (show ∀ k, v'.ownBlock = some k → wr.heap.size + 3 ≤ k from fun k hk => by
            rcases hok.out.block k hk with q | q
            · exact HOT.out k q
            · have := HSZ.out; rw [show (W.alloc (.cells #[.int .i64 ak, .int .i64 au, .int .i64 av, .int .i64 al] 132)).drew.heap.size = W.heap.size + 1 from World.size_alloc ..] at q; omega)
          have HKT := Lib.hid (show KeepT 77 (wr.heap.size + 3) (· = g2) W w7 from
            (KeepT.drew (KeepT.alloc (by have := HSZ.out; omega) _)).trans (KeepT.fr hFr (by have := HSZ.out; show _ ≤ (W.alloc _).heap.size; rw [World.size_alloc]; omega) (fun k hk hlt => absurd hk (hno k hlt)) (fun k hk => owns_type (hsa.recs (5 + au) HRW.out) (by decide) k hk)))
          have HKO := Lib.hid (show KeepsOthers W w7 from ((KeepsOthers.alloc W (.cells #[.int .i64 ak, .int .i64 au, .int .i64 av, .int .i64 al] 132)).trans (KeepsOthers.drew _)).trans hok.out.keep)
          have hs4c : ((fiL ⟨bf, g2, g5, g8, g11, N, rows, EX⟩ (List.replicate N (-1)) (List.replicate N 0) (List.replicate N (-1))).set (5 + au) (recT arR 132 v' (XS ++ [⟨ak, au, av, al⟩])))[4]? = some (cellsT g2 (rows.map (·.1)).toArray 133) := by rw [List.getElem?_set_ne (by omega)]; rfl
          have HS6 := Lib.hid (hs5.setCells 4 hs4c au v' _ rfl)
          rw [HPUT.out] at HS6
          have HCT := Lib.hid (cells_type (hs5.cells 4 hs4c) (E' := 77) (by decide))
          have HZ7 := Lib.hid (show W.heap.size ≤ w7.heap.size from HKO.out.size)
          have qf := frozen_of (hs5.cells 4 hs4c) au
          have gc7 := hCW.2.2.2
          obtain ⟨gq, cap, rfl⟩ := hsh.out
          clear hFr hno hLA l1 l2 l3 l4 m1 m2 m3 c1 c2 c3 c4 hok hsh hs5 hs4c hsa hnb p0 f0 x0 x1 x2 x3 gc
          gi_wp2_with fail
          refine MixI.post_mk (C := (fun W : World => W.cell? ⟨bp, 0, none⟩ = some (.pointer (some ⟨bf, 0, none⟩)) ∧ W.cell? ⟨bf, 0, none⟩ = some (.slice (some ⟨g2, 0, none⟩) N N) ∧ W.cell? ⟨Bx, 1, none⟩ = some (.int .i64 au) ∧ W.cell? ⟨g2, au, none⟩ = some (.slice arw XS.length crw))) (by first | exact hCW | exact HCW.out _) (hK _ _ ?_)
          clear hK K
          iterate 1 (refine MixI.step0 fun K hK => ?_; go_simp; (try (go_bits; try go_simp)); first | ((with_reducible refine hK _ _ ?_); clear hK K) | ((try (simp only [IntWalk.iteOmega]; try go_simp)); (try go_bits); (with_reducible refine hK _ _ ?_); clear hK K))
          refine MixI.done ?_
          refine MixI.step2n (by first | rfl | simp [Region.wanted, yielded]) fun K hK => ?_
          gi_wp2_with fail
          refine MixI.post_mk (C := (fun _ => True)) trivial (hK _ _ ?_)
          clear hK K
          refine MixI.done ?_
          gi_wp2
          exact ⟨(HKO.out.trans (KeepsOthers.setCell _ _ _)).from _, HKT.out.trans (KeepT.setCell _ ⟨g2, au, none⟩ _ rfl HCT.out), _, by rw [List.map_append]; exact HST.out _ HN2.out, HS6.out, by have := HZ7.out; simp only [World.setCell, Array.size_modify]; omega⟩
        case done =>
          rintro DD xs W hD hS ⟨rows, hri, hs, hzz⟩ hK
          rw [hS] at hri
          have HRI := Lib.hid hri
          clear hri hS hsz
          subst ha0
          have hsD := (hs.addObj (fi_cells _ _ _ _ HXC.out) hK rfl (by omega)).perm (fi_last _ _ _ _ _ _ _ _ _ _ _ _)
          have HX2 := Lib.hid (show (EX ++ [defT DD (.deferred (some []))])[2]? = some (defT DD (.deferred (some []))) by rw [List.getElem?_append_right (by rw [HXL.out]; exact Nat.le_refl _), HXL.out]; rfl)
          have HX0' := Lib.hid (show (EX ++ [defT DD (.deferred (some []))])[0]? = some (cellsT bp #[.pointer (some ⟨bf, 0, none⟩)] 124) by rw [List.getElem?_append_left (by rw [HXL.out]; omega)]; exact HX0.out)
          obtain ⟨EY, hEY⟩ : ∃ EY, EY = EX ++ [defT DD (.deferred (some []))] := ⟨_, rfl⟩
          rw [← hEY] at hsD HX2 HX0'
          clear hEY hK hs
          obtain ⟨HBk, hHB⟩ : ∃ b, b = W.heap.size := ⟨_, rfl⟩
          go_wp2_with fail
          refine (new_sep hsD).mono ?_
          rintro en w6 ⟨rfl, hs6⟩
          rw [← hHB] at hs6 ⊢
          clear hHB hsD
          have p0 := cell_of (hs6.cells _ ((fi_ex1 _ _ _ _ _ 0).trans HX0'.out)) 0
          simp only [List.getElem?_toArray, List.getElem?_cons_zero, List.getElem?_cons_succ] at p0
          go_wp2_with fail
          clear p0
          refine (begin_any ⟨bf, g2, g5, g8, g11, N, rows, EY⟩ HBk (List.replicate N 0) (List.replicate N (-1)) zs _ w w6 hs6 hz hsm (by show N ≤ 1000; omega)).mono ?_
          clear hs6
          rintro en w7 (⟨rfl, hfb, D, Q, hs7⟩ | ⟨rfl, hfb, D, Q, hbg, hs7⟩)
          · have HFB := Lib.hid (show fromB N zs = false from hfb)
            have HDD := Lib.hid (hs7.obj_ _ ((fi_ex1 _ _ _ _ _ 2).trans HX2.out))
            have HBL := Lib.hid (fun o' => (hs7.putD (o' := o') _ ((fi_ex1 _ _ _ _ _ 2).trans HX2.out)).below)
            clear hfb hs7
            go_wp2_with fail
            refine ⟨by simp, .inl ⟨_, _, rfl, run_takeDeferred HDD.out, ?_⟩⟩
            exact ⟨.tuple #[.slice none 0 0, .slice none 0 0, .int .i64 1], by simp [results, Try.results62, go_sem], .inl ⟨by rw [Int.toNat_natCast, HFB.out, Bool.and_false], rfl, HBL.out _⟩⟩
          have HFB := Lib.hid (show fromB N zs = true from hfb)
          have HSRC := Lib.hid (show ∀ s, s ∈ fromN zs → s < N from from_lt hfb)
          have HNET := Lib.hid (fits_net (n := N) HFIT.out (src := (· ∈ fromN zs)) HSRC.out)
          have hbg1 := hbg.bg
          rw [List.take_length] at hbg1
          have HDJ := Lib.hid (hbg1.dj HNET.out)
          have HQL := Lib.hid (show Q.length ≤ 1000 from Nat.le_trans hbg.len hsm)
          have HAL := Lib.hid (show (arcsL es fl pot).length ≤ 400 from Nat.le_trans (arcsN_le es fl pot _) (by omega))
          clear hfb hbg hbg1
          go_wp2_with fail
          refine wp_loopM [none, none, none, none, none, none, none, none, none, none, none, none, none, none, none, some 15, some 16, some 17, none, none, none, none, none, none, none, none, none, none, none, none, none, none, none, none, none, none, none, none, none, none, none, none, none, none, none, none, none, none, none, none, none, none, none, none, none, none, none, none, none, none, none, none, none, none, none, none, none, none, none, none, none, none, none, none, none, none, none, none, none, none, none, none, none, none, some 84, some 85, some 86, some 87, some 88, some 89, some 90, some 91, some 92, some 93, some 94, some 95, some 96, some 97, some 98, some 99, some 100, some 101, some 102, some 103, some 104, some 105, none, none, none, none, none, none, none, none, none, none] (fun (r : Nat) (f : Nat → Value) (wq : World) => ∃ (D H : List Int) (Q : List Th) (X : Nat → Nat) (c : Int), Hid (DJ (arcsL es fl pot) (· ∈ fromN zs) N maxL [] D H Q X c ∧ 0 ≤ c ∧ Q.length + mu (arcsL es fl pot) N X ≤ 17000) ∧ r = Q.length + mu (arcsL es fl pot) N X ∧ Sep w wq (heapT HBk Q :: fiL ⟨bf, g2, g5, g8, g11, N, rows, EY⟩ D H (List.replicate N (-1)))) ((Q.length + mu (arcsL es fl pot) N (fun _ => 0))) (by kernel_rfl) ?atStart17 ?round17
          case' atStart17 => (try dsimp only [nthV])
          case' round17 =>
            intro gk f wr l hl hrel J2 K2 hJ2 hK2
            (try simp only [mask] at hl)
            subst hl
            (try dsimp only at hrel)
          case atStart17 => exact ⟨D, _, Q, _, 0, Lib.hid ⟨HDJ.out, Int.le_refl _, by have := mu_le N (fun _ => 0) (arcsL es fl pot); have := HQL.out; have := HAL.out; have : (arcsL es fl pot).length * N ≤ 400 * 40 := Nat.mul_le_mul HAL.out hN; omega⟩, rfl, hs7⟩
          case round17 =>
            clear hs7 HDJ HQL
            obtain ⟨D, H, Q, X, c, HDJ, rfl, hs⟩ := hrel
            go_wp2_with fail
            refine (len_sep hs 0 rfl).mono ?_
            rintro en w8 ⟨rfl, rfl⟩
            have HIS := Lib.hid (sep_isH hs 0 rfl)
            match Q, HDJ, HIS, hs with
            | [], HDJ, HIS, hs =>
              obtain ⟨hdj, _, _⟩ := HDJ.out
              have HLS := Lib.hid hdj.least
              have HRE := Lib.hid hdj.real
              have HLN := Lib.hid (show D.length = N ∧ H.length = N from ⟨hdj.lD, hdj.lH⟩)
              have HLB := Lib.hid (labOk_of hdj.real hdj.net hN hdj.lD hdj.lH)
              clear hdj HDJ HIS
              have p0 := cell_of (hs.cells _ ((fi_ex1 _ _ _ _ _ 0).trans HX0'.out)) 0
              simp only [List.getElem?_toArray, List.getElem?_cons_zero, List.getElem?_cons_succ] at p0
              go_wp2_with fail
              clear p0
              refine (fends_any ⟨bf, g2, g5, g8, g11, N, rows, EY⟩ (heapT HBk []) D H (List.replicate N (-1)) w _ hN HRI.out.len (rows_ok HRI.out HNET.out (by omega)) HLB.out (en_start N D H) hs).mono ?_
              clear hs
              rintro en w9 ⟨⟨v, rfl⟩, B', hen, hs⟩
              have HEN := Lib.hid hen
              clear hen
              have p0 := cell_of (hs.cells _ ((fi_ex1 _ _ _ _ _ 0).trans HX0'.out)) 0
              have f1 := cell_of (hs.cells 1 rfl) 1
              have f3 := cell_of (hs.cells 1 rfl) 3
              simp only [Fi.cells, List.getElem?_toArray, List.getElem?_cons_zero, List.getElem?_cons_succ] at p0 f1 f3
              have HDD := Lib.hid (hs.obj_ _ ((fi_ex1 _ _ _ _ _ 2).trans HX2.out))
              have HBL := Lib.hid (fun o' => fi_end 2 (hs.drew.putD (o' := o') _ ((fi_ex1 _ _ _ _ _ 2).trans HX2.out)))
              clear hs
              go_wp2_with fail
              refine Mix.region [0, 0, 0, 0, 0, 0, 0, 0, 0, 0, 0] (fun _ => True) (by kernel_rfl) (by kernel_rfl) trivial ?_
              simp only [List.zip_cons_cons, List.zip_nil_right]
              iterate 11 (refine Mix.step0 fun K hK => ?_; go_simp; (try (go_bits; try go_simp)); first | ((with_reducible refine hK _ _ ?_); clear hK K) | ((try (simp only [IntWalk.iteOmega]; try go_simp)); (try go_bits); (with_reducible refine hK _ _ ?_); clear hK K))
              refine Mix.done ?_
              go_wp2_with fail
              refine ⟨by simp, .inl ⟨_, _, rfl, run_takeDeferred HDD.out, ?_⟩⟩
              exact ⟨.tuple #[.slice (some ⟨g5, 0, none⟩) N N, .slice (some ⟨g11, 0, none⟩) N N, .int .i64 0], by simp [results, Try.results62, go_sem], .inr ⟨by rw [Int.toNat_natCast, HFB.out, HFIT.out]; rfl, D, B', _, _, by rw [Int.toNat_natCast]; exact ws_end HNET.out HRI.out HLS.out HRE.out HLN.out.1 HLN.out.2 HEN.out, rfl, HBL.out _⟩⟩
            | (d, i) :: t, HDJ, HIS, hs =>
              obtain ⟨hdj, hc0, hmu⟩ := HDJ.out
              obtain ⟨u, hiu, hun, hu0, hud⟩ := hdj.ent _ List.mem_cons_self
              dsimp only at hiu hud
              subst hiu
              have hmin : ∀ q ∈ t, d ≤ q.1 := fun q hq => by
                have := HeapP.least_mem HIS.out q (List.mem_cons_of_mem _ hq)
                rw [show HeapP.nth ((d, (u : Int)) :: t) 0 = (d, (u : Int)) from rfl, HeapP.le_iff] at this
                dsimp only at this
                omega
              have hcd : c ≤ d := hdj.low _ List.mem_cons_self
              have HMU := Lib.hid hmu
              have HD0 := Lib.hid (show 0 ≤ d by omega)
              have HST := Lib.hid (fun q => hdj.stale hmin q)
              have HLV := Lib.hid (fun q => hdj.live hmin q)
              have HLD := Lib.hid hdj.lD
              have hgt : decide ((0 : Int) < (((d, (u : Int)) :: t).length : Int)) = true := by simp
              have HPL := Lib.hid (show ((d, (u : Int)) :: t).length ≤ 100000 from by omega)
              clear hdj hmin hmu hu0 hud hcd hc0 HDJ HIS
              go_wp2_with fail
              refine (pop_sep hs 0 rfl HPL.out).mono ?_
              rintro en w9 ⟨rfl, Q', hQ', hs9⟩
              have HQP := Lib.hid (show Q'.Perm t from hQ')
              simp only [List.set_cons_zero] at hs9
              rw [show peekV ((d, (u : Int)) :: t) = .tuple #[.int .i64 d, .int .i64 u, .int .i64 0] from rfl]
              clear hs hQ' hgt
              have hs := hs9
              clear hs9
              have p0 := cell_of (hs.cells _ ((fi_ex1 _ _ _ _ _ 0).trans HX0'.out)) 0
              have f1 := cell_of (hs.cells 1 rfl) 1
              simp only [Fi.cells, List.getElem?_toArray, List.getElem?_cons_zero, List.getElem?_cons_succ] at p0 f1
              obtain ⟨g', cg', eg, _, hcR, df⟩ := (hs.ints 2 rfl).get u (by rw [HLD.out]; exact hun)
              injection eg with eg q1 q2
              injection eg with eg
              injection eg with eg
              subst eg
              have du := hcR u (by rw [HLD.out]; exact hun)
              clear q1 q2 hcR
              obtain ⟨x, hx⟩ : ∃ x, x = g D u := ⟨_, rfl⟩
              rw [show D.getD u 0 = x from hx.symm] at du
              have HX := Lib.hid hx
              clear hx df
              have hunI : (u : Int) < N := by omega
              by_cases e : d = x
              · have hde : (d == x) = true := beq_iff_eq.2 e
                have HE := Lib.hid e
                clear e
                go_wp2_with fail
                have HROW := Lib.hid (HRI.out.at_ u (by rw [HRI.out.len]; exact hun))
                have hlv := HLV.out (by rw [HE.out, HX.out])
                refine (goes_any ⟨bf, g2, g5, g8, g11, N, rows, EY⟩ HBk u (arcsL es fl pot) (· ∈ fromN zs) D H (List.replicate N (-1)) Q' (bump X u) d (g H u) w _ hN HRI.out.len hun ?hO ⟨?hdj, ?hd, rfl, Nat.le_refl _⟩ HD0.out ?hsm hs).mono ?_
                case hO => intro a ha; dsimp only at ha; rw [HROW.out, List.mem_filter] at ha; exact ⟨ha.1, by simpa using ha.2⟩
                case hdj => dsimp only; rw [List.drop_zero, HROW.out]; exact hlv.1.perm HQP.out.symm
                case hd => rw [← HX.out, ← HE.out]
                case hsm => dsimp only; rw [HROW.out]; have h1 := List.length_filter_le (fun a : Ar => a.u == u) (arcsL es fl pot); have := HAL.out; have := HMU.out; have := HQP.out.length_eq; rw [List.length_cons] at *; omega
                have HMB := Lib.hid (mu_bump N X u hlv.2.1 (arcsL es fl pot))
                clear hlv hs p0 f1 du hde
                rintro en w10 ⟨⟨v, rfl⟩, D', H', Q2, hdj2, hlen2, hs10⟩
                dsimp only at hlen2
                rw [HROW.out] at hlen2
                have HD2 := Lib.hid hdj2
                have HML := Lib.hid (show Q2.length + mu (arcsL es fl pot) N (bump X u) < ((d, (u : Int)) :: t).length + mu (arcsL es fl pot) N X from by
                  have := HMB.out; have := HQP.out.length_eq; rw [List.length_cons]; omega)
                clear hdj2 hlen2
                go_wp2_with fail
                refine Round.intro (Q2.length + mu (arcsL es fl pot) N (bump X u)) ?measure18 (by kernel_rfl) (hJ2 _ _ _ ?rel18)
                case' rel18 => (try dsimp only [nthV])
                case measure18 => exact HML.out
                case rel18 => exact ⟨D', H', Q2, bump X u, d, Lib.hid ⟨HD2.out, HD0.out, by have := HML.out; have := HMU.out; omega⟩, rfl, hs10⟩
              · have hde : (d == x) = false := beq_eq_false_iff_ne.2 e
                have HE := Lib.hid e
                clear e
                have HML := Lib.hid (show Q'.length + mu (arcsL es fl pot) N X < ((d, (u : Int)) :: t).length + mu (arcsL es fl pot) N X from by
                  have := HQP.out.length_eq; rw [List.length_cons]; omega)
                go_wp2_with fail
                refine Round.intro (Q'.length + mu (arcsL es fl pot) N X) ?measure19 (by kernel_rfl) (hJ2 _ _ _ ?rel19)
                case' rel19 => (try dsimp only [nthV])
                case measure19 => exact HML.out
                case rel19 => exact ⟨D, H, Q', X, d, Lib.hid ⟨(HST.out (by rw [← HX.out]; exact HE.out)).perm HQP.out.symm, HD0.out, by have := HML.out; have := HMU.out; omega⟩, rfl, hs⟩
        case stop =>
          rintro D cd pre W _ _ h _
          exact h.elim
end Go.Proofs.Ytjijhpflkkicaaa
