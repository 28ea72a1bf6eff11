/-
  Package paths: ends, walked.
-/
import Derived.Test.YtfafecgnjjkagaaPW5
namespace Go.PathP
open Go Go.Mem
/-- The last arcs, behind some arcs. -/
structure EN (n : Nat) (Lp : List Ar) (D H B : List Int) : Prop where
  len : B.length = n
  by_ : ∀ v, v < n → IsBy Lp D H v (g B v)
theorem EN.skip {n : Nat} {Lp : List Ar} {D H B : List Int} (h : EN n Lp D H B) {a : Ar} (ha : byC D H a.v a = false ∨ (g B a.v ≠ -1 ∧ ¬ (a.k : Int) < g B a.v)) : EN n (Lp ++ [a]) D H B := by
  refine ⟨h.len, fun v hv => ?_⟩
  have := (h.by_ v hv).more a
  rw [if_neg] at this
  · exact this
  · by_cases e : a.v = v
    · subst e
      rcases ha with q | ⟨q1, q2⟩
      · simp [q]
      · simp [q1, q2]
    · have : byC D H v a = false := by rw [Bool.eq_false_iff]; intro q; exact e (byC_iff.1 q).1
      simp [this]
theorem EN.put {n : Nat} {Lp : List Ar} {D H B : List Int} (h : EN n Lp D H B) {a : Ar} (hav : a.v < n) (ha : byC D H a.v a = true) (hb : g B a.v = -1 ∨ (a.k : Int) < g B a.v) : EN n (Lp ++ [a]) D H (B.set a.v a.k) := by
  refine ⟨by rw [List.length_set]; exact h.len, fun v hv => ?_⟩
  have hm := (h.by_ v hv).more a
  rw [g_set (by rw [h.len]; exact hav)]
  by_cases e : a.v = v
  · subst e
    rw [upd_same]
    rw [if_pos (by rw [ha]; simp; exact hb)] at hm
    exact hm
  · rw [upd_ne _ _ e]
    have hf : byC D H v a = false := by rw [Bool.eq_false_iff]; intro q; exact e (byC_iff.1 q).1
    rw [if_neg (by simp [hf])] at hm
    exact hm
theorem byC_no {D H : List Int} {a : Ar} (h : ¬ 0 ≤ g D a.u ∨ g H a.v = 0 ∨ g D a.u + a.len ≠ g D a.v ∨ g H a.u + 1 ≠ g H a.v) : byC D H a.v a = false := by
  rw [Bool.eq_false_iff]; intro q
  have := byC_iff.1 q
  omega
theorem byC_yes {D H : List Int} {a : Ar} (h1 : 0 ≤ g D a.u) (h2 : g H a.v ≠ 0) (h3 : g D a.u + a.len = g D a.v) (h4 : g H a.u + 1 = g H a.v) : byC D H a.v a = true := byC_iff.2 ⟨rfl, h1, h2, h3, h4⟩
/-- The arcs of the first nodes. -/
def flatR {α : Type} (rows : List (α × List Ar)) (k : Nat) : List Ar := (rows.take k).flatMap (·.2)
theorem flatR_succ {α : Type} {rows : List (α × List Ar)} {k : Nat} (hk : k < rows.length) : flatR rows (k + 1) = flatR rows k ++ rows[k].2 := by
  unfold flatR
  rw [List.take_succ_eq_append_getElem hk, List.flatMap_append]
  simp
/-- What the arcs that leave a node are like. -/
def RowOk (n u : Nat) (O : List Ar) : Prop := ∀ a ∈ O, a.u = u ∧ a.v < n ∧ 0 ≤ a.len ∧ a.len ≤ maxL ∧ a.k ≤ 100000
/-- Labels as they may be. -/
structure LabOk (n : Nat) (D H : List Int) : Prop where
  lD : D.length = n
  lH : H.length = n
  d : ∀ v, v < n → g D v = -1 ∨ (0 ≤ g D v ∧ g D v ≤ 87960942262080)
  h : ∀ v, v < n → 0 ≤ g H v ∧ g H v ≤ 39
end Go.PathP
namespace Go.Proofs.Ytfafecgnjjkagaa
open Go Go.RowKit Go.Mem Go.NetP Go.RestP Go.CertP Go.PathP
set_option maxRecDepth 100000 in
set_option maxHeartbeats 6000000 in
theorem fends_any (F : Fi) (T0 : Thing) (D H B : List Int) (w0 w : World) (hn : F.n ≤ 40) (hl : F.rows.length = F.n) (hrow : ∀ (u : Nat) (hu : u < F.rows.length), RowOk F.n u F.rows[u].2) (hlab : LabOk F.n D H)
    (hB : EN F.n [] D H B) (hs : Sep w0 w (T0 :: fiL F D H B)) :
    Calls Try.prog 26 #[.pointer (some ⟨F.bf, 0, none⟩)] w fun e w' => (∃ v, e = .returned v) ∧ ∃ B', EN F.n (flatR F.rows F.rows.length) D H B' ∧ Sep w0 w' (T0 :: fiL F D H B') := by
  unfold fiL at hs
  have f0 := cell_of (hs.cells 1 rfl) 0
  simp only [Fi.cells, List.getElem?_toArray, List.getElem?_cons_zero, List.getElem?_cons_succ] at f0
  have HROW := Lib.hid hrow
  have HLD := Lib.hid hlab.lD
  have HLH := Lib.hid hlab.lH
  have HLab := Lib.hid hlab
  have HB := Lib.hid hB
  have HL := Lib.hid hl
  clear hrow hlab hB hl
  go_enter Try.func26, Try.ntmps26
  go_wp2_with fail
  clear f0
  refine wp_loopM [none, none, some 2, some 3, none, some 5, some 6, none, none, none, none, none, some 12, some 13, some 14, some 15, some 16, some 17, some 18, some 19, some 20, some 21, some 22, some 23, some 24, some 25, some 26, some 27, some 28, some 29, some 30, some 31, some 32, some 33, some 34, some 35, some 36, some 37, some 38, some 39, some 40, some 41, some 42, some 43, some 44, some 45, some 46, some 47, some 48, some 49, some 50, some 51, some 52, some 53, some 54, some 55, some 56, some 57, some 58, some 59, some 60, some 61, some 62, some 63, some 64, some 65, some 66, some 67, some 68, some 69, some 70, some 71, some 72, some 73, some 74, some 75, some 76, some 77, some 78, some 79, some 80, some 81, some 82, some 83, some 84, some 85, some 86, some 87, some 88, some 89, some 90, some 91, some 92, some 93, some 94, some 95, some 96, some 97, some 98, some 99, some 100, some 101, some 102, some 103, some 104, some 105, some 106, some 107, some 108] (fun (r : Nat) (f : Nat → Value) (wr : World) => (fun (v : Value) => ∃ (u : Nat) (B : List Int), v = .int .i64 u ∧ u ≤ F.n ∧ r = F.n - u ∧ EN F.n (flatR F.rows u) D H B ∧ Sep w0 wr (T0 :: fiL F D H B)) (f 12)) (F.n) (by kernel_rfl) ?atStart1 ?round1
  case' atStart1 => (try dsimp only [nthV])
  case' round1 =>
    intro gk f wr l hl hrel J1 K1 hJ1 hK1
    (try simp only [mask] at hl)
    generalize f 12 = u12 at hl hrel
    subst hl
    (try dsimp only at hrel)
  case atStart1 => exact ⟨0, B, rfl, Nat.zero_le _, rfl, HB.out, hs⟩
  case round1 =>
    clear hs
    obtain ⟨u, B, rfl, hu, rfl, hen, hs⟩ := hrel
    have HEN := Lib.hid hen
    clear hen
    by_cases hun : u < F.n
    · have hur : u < F.rows.length := by rw [HL.out]; exact hun
      have hRO := HROW.out u hur
      obtain ⟨O, hOd⟩ : ∃ O, O = F.rows[u].2 := ⟨_, rfl⟩
      have HR := Lib.hid (fun (A1 A2 A3 A4 A5 A6 : Thing) => (show (A1 :: A2 :: A3 :: A4 :: A5 :: A6 :: (rowsL F.rows ++ F.ex))[6 + u]? = some (recT arR 45 F.rows[u].1 O) from by rw [hOd]; exact rows_at hur A1 A2 A3 A4 A5 A6))
      have HFS := Lib.hid (flatR_succ hur)
      rw [← hOd] at hRO HFS
      have HRO := Lib.hid hRO
      unfold fiL at hs
      obtain ⟨av, cv, hrv⟩ := (hs.rdRecs (6 + u) (HR.out _ _ _ _ _ _)).shape
      have hg5 := cell_of (hs.cells 5 rfl) u
      have hg1 : (F.rows.map (·.1)).toArray[u]? = some (.slice av O.length cv) := by
        rw [List.getElem?_toArray, List.getElem?_map, List.getElem?_eq_getElem hur]
        simp [hrv]
      rw [hg1] at hg5
      rw [hrv] at HR
      have hle := (hs.rdRecs (6 + u) (HR.out _ _ _ _ _ _)).le'
      clear hg1 hOd hRO hrv
      go_wp2_with fail
      clear hg5
      refine wp_loopM [none, none, none, none, none, some 5, some 6, none, none, none, none, none, none, none, none, none, none, none, none, some 19, some 20, some 21, some 22, some 23, some 24, some 25, some 26, some 27, some 28, some 29, some 30, some 31, some 32, some 33, some 34, some 35, some 36, some 37, some 38, some 39, some 40, some 41, some 42, some 43, some 44, some 45, some 46, some 47, some 48, some 49, some 50, some 51, some 52, some 53, some 54, some 55, some 56, some 57, some 58, some 59, some 60, some 61, some 62, some 63, some 64, some 65, some 66, some 67, some 68, some 69, some 70, some 71, some 72, some 73, some 74, some 75, some 76, some 77, some 78, some 79, some 80, some 81, some 82, some 83, some 84, some 85, some 86, some 87, some 88, some 89, some 90, some 91, some 92, some 93, some 94, some 95, some 96, some 97, some 98, some 99, some 100, some 101, some 102, some 103, some 104, some 105, some 106, some 107, none] (fun (r2 : Nat) (f : Nat → Value) (wq : World) => (fun (v : Value) => ∃ (i : Nat) (B : List Int), v = .int .i64 i ∧ i ≤ O.length ∧ r2 = O.length - i ∧ EN F.n (flatR F.rows u ++ O.take i) D H B ∧ Sep w0 wq (T0 :: fiL F D H B)) (f 19)) (O.length) (by kernel_rfl) ?atStart2 ?round2
      case' atStart2 => (try dsimp only [nthV])
      case' round2 =>
        intro gk f wr l hl hrel J2 K2 hJ2 hK2
        (try simp only [mask] at hl)
        generalize f 19 = u19 at hl hrel
        subst hl
        (try dsimp only at hrel)
      case atStart2 => exact ⟨0, B, rfl, Nat.zero_le _, rfl, by rw [List.take_zero, List.append_nil]; exact HEN.out, hs⟩
      case round2 =>
        clear hs
        obtain ⟨i, B, rfl, hi, rfl, hen, hs⟩ := hrel
        have HE2 := Lib.hid hen
        clear hen
        by_cases hlt : i < O.length
        · unfold fiL at hs
          obtain ⟨b1, o1, e1, hb1, hc⟩ := (hs.rdRecs (6 + u) (HR.out _ _ _ _ _ _)).at i hlt
          subst e1
          have hok := HRO.out _ (List.getElem_mem hlt)
          have HTK := Lib.hid (show O.take (i + 1) = O.take i ++ [O[i]'hlt] from List.take_succ_eq_append_getElem hlt)
          have HSK := Lib.hid (fun q => HE2.out.skip (a := O[i]'hlt) q)
          have HPU := Lib.hid (fun q1 q2 q3 => HE2.out.put (a := O[i]'hlt) q1 q2 q3)
          obtain ⟨a, ha⟩ : ∃ a, a = O[i] := ⟨_, rfl⟩
          rw [← ha] at hc hok HTK HSK HPU
          clear ha
          obtain ⟨ak, au, av', al⟩ := a
          dsimp only at hok
          obtain ⟨hau, hnv, hl0, hl1, hk1⟩ := hok
          subst hau
          have x0 := hc 0 (by decide)
          have x1 := hc 1 (by decide)
          have x2 := hc 2 (by decide)
          have x3 := hc 3 (by decide)
          simp only [arR, Nat.add_zero, List.getElem?_cons_zero, List.getElem?_cons_succ] at x0 x1 x2 x3
          clear hc
          unfold maxL at hl1
          have hs1 := hs.alloc (.cells #[.int .i64 ak, .int .i64 au, .int .i64 av', .int .i64 al] 45)
          have hnb := heap_alloc_new wr (.cells #[.int .i64 ak, .int .i64 au, .int .i64 av', .int .i64 al] 45)
          have qd := HLab.out.d au hun
          have qh := HLab.out.h au hun
          have qd2 := HLab.out.d av' hnv
          have qh2 := HLab.out.h av' hnv
          obtain ⟨BX, hBX⟩ : ∃ BX, BX = wr.heap.size := ⟨_, rfl⟩
          have hgbL : F.gb < BX := by rw [hBX]; exact (hs.ints 4 rfl).low F.gb rfl
          go_wp2_with fail
          rw [← hBX] at hnb ⊢
          clear hs hBX x0 x1 x2 x3
          have hs := hs1
          generalize World.alloc wr _ = W1 at hs hnb ⊢
          clear hs1
          have HNB := Lib.hid (show BX < W1.heap.size ∧ F.gb < BX from ⟨lt_of hnb, hgbL⟩)
          have bx0 := cell_of hnb 0
          have bx2 := cell_of hnb 2
          have bx3 := cell_of hnb 3
          have f1 := cell_of (hs.cells 1 rfl) 1
          have f2 := cell_of (hs.cells 1 rfl) 2
          have f3 := cell_of (hs.cells 1 rfl) 3
          simp only [Fi.cells, List.getElem?_toArray, List.getElem?_cons_zero, List.getElem?_cons_succ] at f1 f2 f3 bx0 bx2 bx3
          obtain ⟨g', cg', eg, _, hcR, xf⟩ := (hs.ints 2 rfl).get au (by rw [HLD.out]; exact hun)
          injection eg with eg q1 q2
          injection eg with eg
          injection eg with eg
          subst eg
          have du := hcR au (by rw [HLD.out]; exact hun)
          clear q1 q2 hcR
          clear xf
          obtain ⟨g', cg', eg, _, hcR, xf⟩ := (hs.ints 3 rfl).get au (by rw [HLH.out]; exact hun)
          injection eg with eg q1 q2
          injection eg with eg
          injection eg with eg
          subst eg
          have hu' := hcR au (by rw [HLH.out]; exact hun)
          clear q1 q2 hcR
          clear xf
          clear hnb hgbL
          obtain ⟨X, hX⟩ : ∃ X, X = g D au := ⟨_, rfl⟩
          obtain ⟨V, hV⟩ : ∃ V, V = g H au := ⟨_, rfl⟩
          rw [show D.getD au 0 = X from hX.symm] at du
          rw [show H.getD au 0 = V from hV.symm] at hu'
          rw [← hX] at qd
          rw [← hV] at qh
          have HXV := Lib.hid (show X = g D au ∧ V = g H au from ⟨hX, hV⟩)
          clear hX hV
          by_cases hself : av' = au
          · subst hself
            clear qd2 qh2
            by_cases c1 : X = -1
            · have d1 : (X == -1) = true := by simpa using c1
              have hq : ¬ 0 ≤ g D av' := by rw [← HXV.out.1]; omega
              clear c1
              have HN := Lib.hid (HSK.out (.inl (byC_no (by dsimp only; (exact .inl hq)))))
              clear HSK HPU
              go_wp2_with fail
              refine Mix.region [0, 0, 0, 0, 0, 0, 0, 0, 0, 0, 0, 0, 0, 0, 0, 0, 0, 0, 0, 0, 0, 0, 0, 0, 0, 0, 0, 0, 0, 0, 0, 0, 0, 0, 0, 0, 0, 0, 0, 0, 0, 0, 0, 0, 0, 0, 0, 0, 0, 0, 0, 0, 0, 0, 0, 0, 0, 0, 0] (fun _ => True) (by kernel_rfl) (by kernel_rfl) trivial ?_
              simp only [List.zip_cons_cons, List.zip_nil_right]
              iterate 9 (refine Mix.step0 fun K hK => ?_; go_simp; (try (go_bits; try go_simp)); first | ((with_reducible refine hK _ _ ?_); clear hK K) | ((try (simp only [IntWalk.iteOmega]; try go_simp)); (try go_bits); (with_reducible refine hK _ _ ?_); clear hK K))
              iterate 9 (first | (refine Mix.stepS rfl fun K hK => ?_; go_simp; (with_reducible refine hK _ _ ?_); clear hK K) | (refine Mix.step0 fun K hK => ?_; go_simp; (try (go_bits; try go_simp)); first | ((with_reducible refine hK _ _ ?_); clear hK K) | ((try (simp only [IntWalk.iteOmega]; try go_simp)); (try go_bits); (with_reducible refine hK _ _ ?_); clear hK K)))
              iterate 2 (refine Mix.step0 fun K hK => ?_; go_simp; (try (go_bits; try go_simp)); first | ((with_reducible refine hK _ _ ?_); clear hK K) | ((try (simp only [IntWalk.iteOmega]; try go_simp)); (try go_bits); (with_reducible refine hK _ _ ?_); clear hK K))
              iterate 19 (first | (refine Mix.stepS rfl fun K hK => ?_; go_simp; (with_reducible refine hK _ _ ?_); clear hK K) | (refine Mix.step0 fun K hK => ?_; go_simp; (try (go_bits; try go_simp)); first | ((with_reducible refine hK _ _ ?_); clear hK K) | ((try (simp only [IntWalk.iteOmega]; try go_simp)); (try go_bits); (with_reducible refine hK _ _ ?_); clear hK K)))
              iterate 2 (refine Mix.step0 fun K hK => ?_; go_simp; (try (go_bits; try go_simp)); first | ((with_reducible refine hK _ _ ?_); clear hK K) | ((try (simp only [IntWalk.iteOmega]; try go_simp)); (try go_bits); (with_reducible refine hK _ _ ?_); clear hK K))
              iterate 17 (first | (refine Mix.stepS rfl fun K hK => ?_; go_simp; (with_reducible refine hK _ _ ?_); clear hK K) | (refine Mix.step0 fun K hK => ?_; go_simp; (try (go_bits; try go_simp)); first | ((with_reducible refine hK _ _ ?_); clear hK K) | ((try (simp only [IntWalk.iteOmega]; try go_simp)); (try go_bits); (with_reducible refine hK _ _ ?_); clear hK K)))
              iterate 1 (refine Mix.step0 fun K hK => ?_; go_simp; (try (go_bits; try go_simp)); first | ((with_reducible refine hK _ _ ?_); clear hK K) | ((try (simp only [IntWalk.iteOmega]; try go_simp)); (try go_bits); (with_reducible refine hK _ _ ?_); clear hK K))
              refine Mix.done ?_
              go_wp2_with fail
              refine Round.intro (O.length - (i + 1)) ?measure3 (by kernel_rfl) (hJ2 _ _ _ ?rel3)
              case' rel3 => (try dsimp only [nthV])
              case measure3 => omega
              case rel3 => exact ⟨i + 1, _, by go_num, hlt, rfl, by rw [HTK.out, ← List.append_assoc]; exact HN.out, hs.drew⟩
            have d1 : (X == -1) = false := by simpa using c1
            by_cases c2 : V = 0
            · have d2 : (V == 0) = true := by simpa using c2
              have hq : g H av' = 0 := by rw [← HXV.out.2]; exact c2
              clear c1 c2
              have HN := Lib.hid (HSK.out (.inl (byC_no (by dsimp only; (exact .inr (.inl hq))))))
              clear HSK HPU
              go_wp2_with fail
              refine Mix.region [0, 0, 0, 0, 0, 0, 0, 0, 0, 0, 0, 0, 0, 0, 0, 0, 0, 0, 0, 0, 0, 0, 0, 0, 0, 0, 0, 0, 0, 0, 0, 0, 0, 0, 0, 0, 0, 0, 0, 0, 0, 0, 0, 0, 0, 0, 0, 0, 0, 0, 0, 0, 0, 0, 0, 0, 0, 0, 0] (fun _ => True) (by kernel_rfl) (by kernel_rfl) trivial ?_
              simp only [List.zip_cons_cons, List.zip_nil_right]
              iterate 9 (refine Mix.step0 fun K hK => ?_; go_simp; (try (go_bits; try go_simp)); first | ((with_reducible refine hK _ _ ?_); clear hK K) | ((try (simp only [IntWalk.iteOmega]; try go_simp)); (try go_bits); (with_reducible refine hK _ _ ?_); clear hK K))
              iterate 9 (first | (refine Mix.stepS rfl fun K hK => ?_; go_simp; (with_reducible refine hK _ _ ?_); clear hK K) | (refine Mix.step0 fun K hK => ?_; go_simp; (try (go_bits; try go_simp)); first | ((with_reducible refine hK _ _ ?_); clear hK K) | ((try (simp only [IntWalk.iteOmega]; try go_simp)); (try go_bits); (with_reducible refine hK _ _ ?_); clear hK K)))
              iterate 2 (refine Mix.step0 fun K hK => ?_; go_simp; (try (go_bits; try go_simp)); first | ((with_reducible refine hK _ _ ?_); clear hK K) | ((try (simp only [IntWalk.iteOmega]; try go_simp)); (try go_bits); (with_reducible refine hK _ _ ?_); clear hK K))
              iterate 19 (first | (refine Mix.stepS rfl fun K hK => ?_; go_simp; (with_reducible refine hK _ _ ?_); clear hK K) | (refine Mix.step0 fun K hK => ?_; go_simp; (try (go_bits; try go_simp)); first | ((with_reducible refine hK _ _ ?_); clear hK K) | ((try (simp only [IntWalk.iteOmega]; try go_simp)); (try go_bits); (with_reducible refine hK _ _ ?_); clear hK K)))
              iterate 2 (refine Mix.step0 fun K hK => ?_; go_simp; (try (go_bits; try go_simp)); first | ((with_reducible refine hK _ _ ?_); clear hK K) | ((try (simp only [IntWalk.iteOmega]; try go_simp)); (try go_bits); (with_reducible refine hK _ _ ?_); clear hK K))
              iterate 17 (first | (refine Mix.stepS rfl fun K hK => ?_; go_simp; (with_reducible refine hK _ _ ?_); clear hK K) | (refine Mix.step0 fun K hK => ?_; go_simp; (try (go_bits; try go_simp)); first | ((with_reducible refine hK _ _ ?_); clear hK K) | ((try (simp only [IntWalk.iteOmega]; try go_simp)); (try go_bits); (with_reducible refine hK _ _ ?_); clear hK K)))
              iterate 1 (refine Mix.step0 fun K hK => ?_; go_simp; (try (go_bits; try go_simp)); first | ((with_reducible refine hK _ _ ?_); clear hK K) | ((try (simp only [IntWalk.iteOmega]; try go_simp)); (try go_bits); (with_reducible refine hK _ _ ?_); clear hK K))
              refine Mix.done ?_
              go_wp2_with fail
              refine Round.intro (O.length - (i + 1)) ?measure4 (by kernel_rfl) (hJ2 _ _ _ ?rel4)
              case' rel4 => (try dsimp only [nthV])
              case measure4 => omega
              case rel4 => exact ⟨i + 1, _, by go_num, hlt, rfl, by rw [HTK.out, ← List.append_assoc]; exact HN.out, hs.drew⟩
            have d2 : (V == 0) = false := by simpa using c2
            have hq : g H av' + 1 ≠ g H av' := by omega
            by_cases c3 : al = 0
            · subst c3
              have d3 : (V + 1 != V) = true := by rw [bne_iff_ne]; omega
              clear c1 c2
              have HN := Lib.hid (HSK.out (.inl (byC_no (by dsimp only; (exact .inr (.inr (.inr hq)))))))
              clear HSK HPU
              go_wp2_with fail
              refine Mix.region [0, 0, 0, 0, 0, 0, 0, 0, 0, 0, 0, 0, 0, 0, 0, 0, 0, 0, 0, 0, 0, 0, 0, 0, 0, 0, 0, 0, 0, 0, 0, 0, 0, 0, 0, 0, 0, 0, 0, 0, 0, 0, 0, 0, 0, 0, 0, 0, 0, 0, 0, 0, 0, 0, 0, 0, 0, 0, 0] (fun _ => True) (by kernel_rfl) (by kernel_rfl) trivial ?_
              simp only [List.zip_cons_cons, List.zip_nil_right]
              iterate 9 (refine Mix.step0 fun K hK => ?_; go_simp; (try (go_bits; try go_simp)); first | ((with_reducible refine hK _ _ ?_); clear hK K) | ((try (simp only [IntWalk.iteOmega]; try go_simp)); (try go_bits); (with_reducible refine hK _ _ ?_); clear hK K))
              iterate 9 (first | (refine Mix.stepS rfl fun K hK => ?_; go_simp; (with_reducible refine hK _ _ ?_); clear hK K) | (refine Mix.step0 fun K hK => ?_; go_simp; (try (go_bits; try go_simp)); first | ((with_reducible refine hK _ _ ?_); clear hK K) | ((try (simp only [IntWalk.iteOmega]; try go_simp)); (try go_bits); (with_reducible refine hK _ _ ?_); clear hK K)))
              iterate 2 (refine Mix.step0 fun K hK => ?_; go_simp; (try (go_bits; try go_simp)); first | ((with_reducible refine hK _ _ ?_); clear hK K) | ((try (simp only [IntWalk.iteOmega]; try go_simp)); (try go_bits); (with_reducible refine hK _ _ ?_); clear hK K))
              iterate 19 (first | (refine Mix.stepS rfl fun K hK => ?_; go_simp; (with_reducible refine hK _ _ ?_); clear hK K) | (refine Mix.step0 fun K hK => ?_; go_simp; (try (go_bits; try go_simp)); first | ((with_reducible refine hK _ _ ?_); clear hK K) | ((try (simp only [IntWalk.iteOmega]; try go_simp)); (try go_bits); (with_reducible refine hK _ _ ?_); clear hK K)))
              iterate 2 (refine Mix.step0 fun K hK => ?_; go_simp; (try (go_bits; try go_simp)); first | ((with_reducible refine hK _ _ ?_); clear hK K) | ((try (simp only [IntWalk.iteOmega]; try go_simp)); (try go_bits); (with_reducible refine hK _ _ ?_); clear hK K))
              iterate 17 (first | (refine Mix.stepS rfl fun K hK => ?_; go_simp; (with_reducible refine hK _ _ ?_); clear hK K) | (refine Mix.step0 fun K hK => ?_; go_simp; (try (go_bits; try go_simp)); first | ((with_reducible refine hK _ _ ?_); clear hK K) | ((try (simp only [IntWalk.iteOmega]; try go_simp)); (try go_bits); (with_reducible refine hK _ _ ?_); clear hK K)))
              iterate 1 (refine Mix.step0 fun K hK => ?_; go_simp; (try (go_bits; try go_simp)); first | ((with_reducible refine hK _ _ ?_); clear hK K) | ((try (simp only [IntWalk.iteOmega]; try go_simp)); (try go_bits); (with_reducible refine hK _ _ ?_); clear hK K))
              refine Mix.done ?_
              go_wp2_with fail
              refine Round.intro (O.length - (i + 1)) ?measure5 (by kernel_rfl) (hJ2 _ _ _ ?rel5)
              case' rel5 => (try dsimp only [nthV])
              case measure5 => omega
              case rel5 => exact ⟨i + 1, _, by go_num, hlt, rfl, by rw [HTK.out, ← List.append_assoc]; exact HN.out, hs.drew⟩
            · have d3 : (X + al != X) = true := by rw [bne_iff_ne]; omega
              clear c1 c2 c3
              have HN := Lib.hid (HSK.out (.inl (byC_no (by dsimp only; (exact .inr (.inr (.inr hq)))))))
              clear HSK HPU
              go_wp2_with fail
              refine Mix.region [0, 0, 0, 0, 0, 0, 0, 0, 0, 0, 0, 0, 0, 0, 0, 0, 0, 0, 0, 0, 0, 0, 0, 0, 0, 0, 0, 0, 0, 0, 0, 0, 0, 0, 0, 0, 0, 0, 0, 0, 0, 0, 0, 0, 0, 0, 0, 0, 0, 0, 0, 0, 0, 0, 0, 0, 0, 0, 0] (fun _ => True) (by kernel_rfl) (by kernel_rfl) trivial ?_
              simp only [List.zip_cons_cons, List.zip_nil_right]
              iterate 9 (refine Mix.step0 fun K hK => ?_; go_simp; (try (go_bits; try go_simp)); first | ((with_reducible refine hK _ _ ?_); clear hK K) | ((try (simp only [IntWalk.iteOmega]; try go_simp)); (try go_bits); (with_reducible refine hK _ _ ?_); clear hK K))
              iterate 9 (first | (refine Mix.stepS rfl fun K hK => ?_; go_simp; (with_reducible refine hK _ _ ?_); clear hK K) | (refine Mix.step0 fun K hK => ?_; go_simp; (try (go_bits; try go_simp)); first | ((with_reducible refine hK _ _ ?_); clear hK K) | ((try (simp only [IntWalk.iteOmega]; try go_simp)); (try go_bits); (with_reducible refine hK _ _ ?_); clear hK K)))
              iterate 2 (refine Mix.step0 fun K hK => ?_; go_simp; (try (go_bits; try go_simp)); first | ((with_reducible refine hK _ _ ?_); clear hK K) | ((try (simp only [IntWalk.iteOmega]; try go_simp)); (try go_bits); (with_reducible refine hK _ _ ?_); clear hK K))
              iterate 19 (first | (refine Mix.stepS rfl fun K hK => ?_; go_simp; (with_reducible refine hK _ _ ?_); clear hK K) | (refine Mix.step0 fun K hK => ?_; go_simp; (try (go_bits; try go_simp)); first | ((with_reducible refine hK _ _ ?_); clear hK K) | ((try (simp only [IntWalk.iteOmega]; try go_simp)); (try go_bits); (with_reducible refine hK _ _ ?_); clear hK K)))
              iterate 2 (refine Mix.step0 fun K hK => ?_; go_simp; (try (go_bits; try go_simp)); first | ((with_reducible refine hK _ _ ?_); clear hK K) | ((try (simp only [IntWalk.iteOmega]; try go_simp)); (try go_bits); (with_reducible refine hK _ _ ?_); clear hK K))
              iterate 17 (first | (refine Mix.stepS rfl fun K hK => ?_; go_simp; (with_reducible refine hK _ _ ?_); clear hK K) | (refine Mix.step0 fun K hK => ?_; go_simp; (try (go_bits; try go_simp)); first | ((with_reducible refine hK _ _ ?_); clear hK K) | ((try (simp only [IntWalk.iteOmega]; try go_simp)); (try go_bits); (with_reducible refine hK _ _ ?_); clear hK K)))
              iterate 1 (refine Mix.step0 fun K hK => ?_; go_simp; (try (go_bits; try go_simp)); first | ((with_reducible refine hK _ _ ?_); clear hK K) | ((try (simp only [IntWalk.iteOmega]; try go_simp)); (try go_bits); (with_reducible refine hK _ _ ?_); clear hK K))
              refine Mix.done ?_
              go_wp2_with fail
              refine Round.intro (O.length - (i + 1)) ?measure6 (by kernel_rfl) (hJ2 _ _ _ ?rel6)
              case' rel6 => (try dsimp only [nthV])
              case measure6 => omega
              case rel6 => exact ⟨i + 1, _, by go_num, hlt, rfl, by rw [HTK.out, ← List.append_assoc]; exact HN.out, hs.drew⟩
          obtain ⟨g', cg', eg, _, hcR, xf⟩ := (hs.ints 2 rfl).get av' (by rw [HLD.out]; exact hnv)
          injection eg with eg q1 q2
          injection eg with eg
          injection eg with eg
          subst eg
          have dv := hcR av' (by rw [HLD.out]; exact hnv)
          clear q1 q2 hcR
          clear xf
          obtain ⟨g', cg', eg, _, hcR, xf⟩ := (hs.ints 3 rfl).get av' (by rw [HLH.out]; exact hnv)
          injection eg with eg q1 q2
          injection eg with eg
          injection eg with eg
          subst eg
          have hv' := hcR av' (by rw [HLH.out]; exact hnv)
          clear q1 q2 hcR
          clear xf
          obtain ⟨P, hP⟩ : ∃ P, P = g D av' := ⟨_, rfl⟩
          obtain ⟨Y, hY⟩ : ∃ Y, Y = g H av' := ⟨_, rfl⟩
          rw [show D.getD av' 0 = P from hP.symm] at dv
          rw [show H.getD av' 0 = Y from hY.symm] at hv'
          rw [← hP] at qd2
          rw [← hY] at qh2
          have HPY := Lib.hid (show P = g D av' ∧ Y = g H av' from ⟨hP, hY⟩)
          clear hP hY hself
          by_cases c1 : X = -1
          · have d1 : (X == -1) = true := by simpa using c1
            have hq : ¬ 0 ≤ g D au := by rw [← HXV.out.1]; omega
            clear c1
            have HN := Lib.hid (HSK.out (.inl (byC_no (by dsimp only; (exact .inl hq)))))
            clear HSK HPU
            go_wp2_with fail
            refine Mix.region [0, 0, 0, 0, 0, 0, 0, 0, 0, 0, 0, 0, 0, 0, 0, 0, 0, 0, 0, 0, 0, 0, 0, 0, 0, 0, 0, 0, 0, 0, 0, 0, 0, 0, 0, 0, 0, 0, 0, 0, 0, 0, 0, 0, 0, 0, 0, 0, 0, 0, 0, 0, 0, 0, 0, 0, 0, 0, 0] (fun _ => True) (by kernel_rfl) (by kernel_rfl) trivial ?_
            simp only [List.zip_cons_cons, List.zip_nil_right]
            iterate 9 (refine Mix.step0 fun K hK => ?_; go_simp; (try (go_bits; try go_simp)); first | ((with_reducible refine hK _ _ ?_); clear hK K) | ((try (simp only [IntWalk.iteOmega]; try go_simp)); (try go_bits); (with_reducible refine hK _ _ ?_); clear hK K))
            iterate 9 (first | (refine Mix.stepS rfl fun K hK => ?_; go_simp; (with_reducible refine hK _ _ ?_); clear hK K) | (refine Mix.step0 fun K hK => ?_; go_simp; (try (go_bits; try go_simp)); first | ((with_reducible refine hK _ _ ?_); clear hK K) | ((try (simp only [IntWalk.iteOmega]; try go_simp)); (try go_bits); (with_reducible refine hK _ _ ?_); clear hK K)))
            iterate 2 (refine Mix.step0 fun K hK => ?_; go_simp; (try (go_bits; try go_simp)); first | ((with_reducible refine hK _ _ ?_); clear hK K) | ((try (simp only [IntWalk.iteOmega]; try go_simp)); (try go_bits); (with_reducible refine hK _ _ ?_); clear hK K))
            iterate 19 (first | (refine Mix.stepS rfl fun K hK => ?_; go_simp; (with_reducible refine hK _ _ ?_); clear hK K) | (refine Mix.step0 fun K hK => ?_; go_simp; (try (go_bits; try go_simp)); first | ((with_reducible refine hK _ _ ?_); clear hK K) | ((try (simp only [IntWalk.iteOmega]; try go_simp)); (try go_bits); (with_reducible refine hK _ _ ?_); clear hK K)))
            iterate 2 (refine Mix.step0 fun K hK => ?_; go_simp; (try (go_bits; try go_simp)); first | ((with_reducible refine hK _ _ ?_); clear hK K) | ((try (simp only [IntWalk.iteOmega]; try go_simp)); (try go_bits); (with_reducible refine hK _ _ ?_); clear hK K))
            iterate 17 (first | (refine Mix.stepS rfl fun K hK => ?_; go_simp; (with_reducible refine hK _ _ ?_); clear hK K) | (refine Mix.step0 fun K hK => ?_; go_simp; (try (go_bits; try go_simp)); first | ((with_reducible refine hK _ _ ?_); clear hK K) | ((try (simp only [IntWalk.iteOmega]; try go_simp)); (try go_bits); (with_reducible refine hK _ _ ?_); clear hK K)))
            iterate 1 (refine Mix.step0 fun K hK => ?_; go_simp; (try (go_bits; try go_simp)); first | ((with_reducible refine hK _ _ ?_); clear hK K) | ((try (simp only [IntWalk.iteOmega]; try go_simp)); (try go_bits); (with_reducible refine hK _ _ ?_); clear hK K))
            refine Mix.done ?_
            go_wp2_with fail
            refine Round.intro (O.length - (i + 1)) ?measure7 (by kernel_rfl) (hJ2 _ _ _ ?rel7)
            case' rel7 => (try dsimp only [nthV])
            case measure7 => omega
            case rel7 => exact ⟨i + 1, _, by go_num, hlt, rfl, by rw [HTK.out, ← List.append_assoc]; exact HN.out, hs.drew⟩
          have d1 : (X == -1) = false := by simpa using c1
          by_cases c2 : Y = 0
          · have d2 : (Y == 0) = true := by simpa using c2
            have hq : g H av' = 0 := by rw [← HPY.out.2]; exact c2
            clear c1 c2
            have HN := Lib.hid (HSK.out (.inl (byC_no (by dsimp only; (exact .inr (.inl hq))))))
            clear HSK HPU
            go_wp2_with fail
            refine Mix.region [0, 0, 0, 0, 0, 0, 0, 0, 0, 0, 0, 0, 0, 0, 0, 0, 0, 0, 0, 0, 0, 0, 0, 0, 0, 0, 0, 0, 0, 0, 0, 0, 0, 0, 0, 0, 0, 0, 0, 0, 0, 0, 0, 0, 0, 0, 0, 0, 0, 0, 0, 0, 0, 0, 0, 0, 0, 0, 0] (fun _ => True) (by kernel_rfl) (by kernel_rfl) trivial ?_
            simp only [List.zip_cons_cons, List.zip_nil_right]
            iterate 9 (refine Mix.step0 fun K hK => ?_; go_simp; (try (go_bits; try go_simp)); first | ((with_reducible refine hK _ _ ?_); clear hK K) | ((try (simp only [IntWalk.iteOmega]; try go_simp)); (try go_bits); (with_reducible refine hK _ _ ?_); clear hK K))
            iterate 9 (first | (refine Mix.stepS rfl fun K hK => ?_; go_simp; (with_reducible refine hK _ _ ?_); clear hK K) | (refine Mix.step0 fun K hK => ?_; go_simp; (try (go_bits; try go_simp)); first | ((with_reducible refine hK _ _ ?_); clear hK K) | ((try (simp only [IntWalk.iteOmega]; try go_simp)); (try go_bits); (with_reducible refine hK _ _ ?_); clear hK K)))
            iterate 2 (refine Mix.step0 fun K hK => ?_; go_simp; (try (go_bits; try go_simp)); first | ((with_reducible refine hK _ _ ?_); clear hK K) | ((try (simp only [IntWalk.iteOmega]; try go_simp)); (try go_bits); (with_reducible refine hK _ _ ?_); clear hK K))
            iterate 19 (first | (refine Mix.stepS rfl fun K hK => ?_; go_simp; (with_reducible refine hK _ _ ?_); clear hK K) | (refine Mix.step0 fun K hK => ?_; go_simp; (try (go_bits; try go_simp)); first | ((with_reducible refine hK _ _ ?_); clear hK K) | ((try (simp only [IntWalk.iteOmega]; try go_simp)); (try go_bits); (with_reducible refine hK _ _ ?_); clear hK K)))
            iterate 2 (refine Mix.step0 fun K hK => ?_; go_simp; (try (go_bits; try go_simp)); first | ((with_reducible refine hK _ _ ?_); clear hK K) | ((try (simp only [IntWalk.iteOmega]; try go_simp)); (try go_bits); (with_reducible refine hK _ _ ?_); clear hK K))
            iterate 17 (first | (refine Mix.stepS rfl fun K hK => ?_; go_simp; (with_reducible refine hK _ _ ?_); clear hK K) | (refine Mix.step0 fun K hK => ?_; go_simp; (try (go_bits; try go_simp)); first | ((with_reducible refine hK _ _ ?_); clear hK K) | ((try (simp only [IntWalk.iteOmega]; try go_simp)); (try go_bits); (with_reducible refine hK _ _ ?_); clear hK K)))
            iterate 1 (refine Mix.step0 fun K hK => ?_; go_simp; (try (go_bits; try go_simp)); first | ((with_reducible refine hK _ _ ?_); clear hK K) | ((try (simp only [IntWalk.iteOmega]; try go_simp)); (try go_bits); (with_reducible refine hK _ _ ?_); clear hK K))
            refine Mix.done ?_
            go_wp2_with fail
            refine Round.intro (O.length - (i + 1)) ?measure8 (by kernel_rfl) (hJ2 _ _ _ ?rel8)
            case' rel8 => (try dsimp only [nthV])
            case measure8 => omega
            case rel8 => exact ⟨i + 1, _, by go_num, hlt, rfl, by rw [HTK.out, ← List.append_assoc]; exact HN.out, hs.drew⟩
          have d2 : (Y == 0) = false := by simpa using c2
          by_cases c3 : X + al = P
          rotate_left
          · have d3 : (X + al != P) = true := by rw [bne_iff_ne]; exact c3
            have hq : g D au + al ≠ g D av' := by rw [← HXV.out.1, ← HPY.out.1]; exact c3
            clear c1 c2 c3
            have HN := Lib.hid (HSK.out (.inl (byC_no (by dsimp only; (exact .inr (.inr (.inl hq)))))))
            clear HSK HPU
            go_wp2_with fail
            refine Mix.region [0, 0, 0, 0, 0, 0, 0, 0, 0, 0, 0, 0, 0, 0, 0, 0, 0, 0, 0, 0, 0, 0, 0, 0, 0, 0, 0, 0, 0, 0, 0, 0, 0, 0, 0, 0, 0, 0, 0, 0, 0, 0, 0, 0, 0, 0, 0, 0, 0, 0, 0, 0, 0, 0, 0, 0, 0, 0, 0] (fun _ => True) (by kernel_rfl) (by kernel_rfl) trivial ?_
            simp only [List.zip_cons_cons, List.zip_nil_right]
            iterate 9 (refine Mix.step0 fun K hK => ?_; go_simp; (try (go_bits; try go_simp)); first | ((with_reducible refine hK _ _ ?_); clear hK K) | ((try (simp only [IntWalk.iteOmega]; try go_simp)); (try go_bits); (with_reducible refine hK _ _ ?_); clear hK K))
            iterate 9 (first | (refine Mix.stepS rfl fun K hK => ?_; go_simp; (with_reducible refine hK _ _ ?_); clear hK K) | (refine Mix.step0 fun K hK => ?_; go_simp; (try (go_bits; try go_simp)); first | ((with_reducible refine hK _ _ ?_); clear hK K) | ((try (simp only [IntWalk.iteOmega]; try go_simp)); (try go_bits); (with_reducible refine hK _ _ ?_); clear hK K)))
            iterate 2 (refine Mix.step0 fun K hK => ?_; go_simp; (try (go_bits; try go_simp)); first | ((with_reducible refine hK _ _ ?_); clear hK K) | ((try (simp only [IntWalk.iteOmega]; try go_simp)); (try go_bits); (with_reducible refine hK _ _ ?_); clear hK K))
            iterate 19 (first | (refine Mix.stepS rfl fun K hK => ?_; go_simp; (with_reducible refine hK _ _ ?_); clear hK K) | (refine Mix.step0 fun K hK => ?_; go_simp; (try (go_bits; try go_simp)); first | ((with_reducible refine hK _ _ ?_); clear hK K) | ((try (simp only [IntWalk.iteOmega]; try go_simp)); (try go_bits); (with_reducible refine hK _ _ ?_); clear hK K)))
            iterate 2 (refine Mix.step0 fun K hK => ?_; go_simp; (try (go_bits; try go_simp)); first | ((with_reducible refine hK _ _ ?_); clear hK K) | ((try (simp only [IntWalk.iteOmega]; try go_simp)); (try go_bits); (with_reducible refine hK _ _ ?_); clear hK K))
            iterate 17 (first | (refine Mix.stepS rfl fun K hK => ?_; go_simp; (with_reducible refine hK _ _ ?_); clear hK K) | (refine Mix.step0 fun K hK => ?_; go_simp; (try (go_bits; try go_simp)); first | ((with_reducible refine hK _ _ ?_); clear hK K) | ((try (simp only [IntWalk.iteOmega]; try go_simp)); (try go_bits); (with_reducible refine hK _ _ ?_); clear hK K)))
            iterate 1 (refine Mix.step0 fun K hK => ?_; go_simp; (try (go_bits; try go_simp)); first | ((with_reducible refine hK _ _ ?_); clear hK K) | ((try (simp only [IntWalk.iteOmega]; try go_simp)); (try go_bits); (with_reducible refine hK _ _ ?_); clear hK K))
            refine Mix.done ?_
            go_wp2_with fail
            refine Round.intro (O.length - (i + 1)) ?measure9 (by kernel_rfl) (hJ2 _ _ _ ?rel9)
            case' rel9 => (try dsimp only [nthV])
            case measure9 => omega
            case rel9 => exact ⟨i + 1, _, by go_num, hlt, rfl, by rw [HTK.out, ← List.append_assoc]; exact HN.out, hs.drew⟩
          have d3 : (X + al != P) = false := by rw [bne_eq_false_iff_eq]; exact c3
          by_cases c4 : V + 1 = Y
          rotate_left
          · have d4 : (V + 1 != Y) = true := by rw [bne_iff_ne]; exact c4
            have hq : g H au + 1 ≠ g H av' := by rw [← HXV.out.2, ← HPY.out.2]; exact c4
            clear c1 c2 c3 c4
            have HN := Lib.hid (HSK.out (.inl (byC_no (by dsimp only; (exact .inr (.inr (.inr hq)))))))
            clear HSK HPU
            go_wp2_with fail
            refine Mix.region [0, 0, 0, 0, 0, 0, 0, 0, 0, 0, 0, 0, 0, 0, 0, 0, 0, 0, 0, 0, 0, 0, 0, 0, 0, 0, 0, 0, 0, 0, 0, 0, 0, 0, 0, 0, 0, 0, 0, 0, 0, 0, 0, 0, 0, 0, 0, 0, 0, 0, 0, 0, 0, 0, 0, 0, 0, 0, 0] (fun _ => True) (by kernel_rfl) (by kernel_rfl) trivial ?_
            simp only [List.zip_cons_cons, List.zip_nil_right]
            iterate 9 (refine Mix.step0 fun K hK => ?_; go_simp; (try (go_bits; try go_simp)); first | ((with_reducible refine hK _ _ ?_); clear hK K) | ((try (simp only [IntWalk.iteOmega]; try go_simp)); (try go_bits); (with_reducible refine hK _ _ ?_); clear hK K))
            iterate 9 (first | (refine Mix.stepS rfl fun K hK => ?_; go_simp; (with_reducible refine hK _ _ ?_); clear hK K) | (refine Mix.step0 fun K hK => ?_; go_simp; (try (go_bits; try go_simp)); first | ((with_reducible refine hK _ _ ?_); clear hK K) | ((try (simp only [IntWalk.iteOmega]; try go_simp)); (try go_bits); (with_reducible refine hK _ _ ?_); clear hK K)))
            iterate 2 (refine Mix.step0 fun K hK => ?_; go_simp; (try (go_bits; try go_simp)); first | ((with_reducible refine hK _ _ ?_); clear hK K) | ((try (simp only [IntWalk.iteOmega]; try go_simp)); (try go_bits); (with_reducible refine hK _ _ ?_); clear hK K))
            iterate 19 (first | (refine Mix.stepS rfl fun K hK => ?_; go_simp; (with_reducible refine hK _ _ ?_); clear hK K) | (refine Mix.step0 fun K hK => ?_; go_simp; (try (go_bits; try go_simp)); first | ((with_reducible refine hK _ _ ?_); clear hK K) | ((try (simp only [IntWalk.iteOmega]; try go_simp)); (try go_bits); (with_reducible refine hK _ _ ?_); clear hK K)))
            iterate 2 (refine Mix.step0 fun K hK => ?_; go_simp; (try (go_bits; try go_simp)); first | ((with_reducible refine hK _ _ ?_); clear hK K) | ((try (simp only [IntWalk.iteOmega]; try go_simp)); (try go_bits); (with_reducible refine hK _ _ ?_); clear hK K))
            iterate 17 (first | (refine Mix.stepS rfl fun K hK => ?_; go_simp; (with_reducible refine hK _ _ ?_); clear hK K) | (refine Mix.step0 fun K hK => ?_; go_simp; (try (go_bits; try go_simp)); first | ((with_reducible refine hK _ _ ?_); clear hK K) | ((try (simp only [IntWalk.iteOmega]; try go_simp)); (try go_bits); (with_reducible refine hK _ _ ?_); clear hK K)))
            iterate 1 (refine Mix.step0 fun K hK => ?_; go_simp; (try (go_bits; try go_simp)); first | ((with_reducible refine hK _ _ ?_); clear hK K) | ((try (simp only [IntWalk.iteOmega]; try go_simp)); (try go_bits); (with_reducible refine hK _ _ ?_); clear hK K))
            refine Mix.done ?_
            go_wp2_with fail
            refine Round.intro (O.length - (i + 1)) ?measure10 (by kernel_rfl) (hJ2 _ _ _ ?rel10)
            case' rel10 => (try dsimp only [nthV])
            case measure10 => omega
            case rel10 => exact ⟨i + 1, _, by go_num, hlt, rfl, by rw [HTK.out, ← List.append_assoc]; exact HN.out, hs.drew⟩
          have d4 : (V + 1 != Y) = false := by rw [bne_eq_false_iff_eq]; exact c4
          have HBY := Lib.hid (show byC D H av' ⟨ak, au, av', al⟩ = true from byC_yes (a := ⟨ak, au, av', al⟩) (by dsimp only; rw [← HXV.out.1]; omega) (by dsimp only; rw [← HPY.out.2]; exact c2) (by dsimp only; rw [← HXV.out.1, ← HPY.out.1]; exact c3) (by dsimp only; rw [← HXV.out.2, ← HPY.out.2]; exact c4))
          clear c1 c2 c3 c4
          have hlb := HE2.out.len
          obtain ⟨g', cg', eg, _, hcR, bf⟩ := (hs.ints 4 rfl).get av' (by rw [hlb]; exact hnv)
          injection eg with eg q1 q2
          injection eg with eg
          injection eg with eg
          subst eg
          have bv := hcR av' (by rw [hlb]; exact hnv)
          clear q1 q2 hcR
          obtain ⟨R, hR⟩ : ∃ R, R = g B av' := ⟨_, rfl⟩
          rw [show B.getD av' 0 = R from hR.symm] at bv
          have HRB := Lib.hid hR
          clear hR hlb
          go_wp2_with fail
          refine Mix.region [0, 0, 0, 0, 0, 0, 0, 0, 0, 0, 0, 0, 0, 0, 0, 0, 0, 0, 0, 0, 0, 0, 0, 0, 0, 0, 0, 0, 0, 0, 0, 0, 0, 0, 0, 0, 0, 0, 0, 0, 0, 0, 0, 0, 0, 0, 0, 0, 0, 0, 0, 0, 0, 0, 0, 0, 0, 0, 0] (fun _ => True) (by kernel_rfl) (by kernel_rfl) trivial ?_
          simp only [List.zip_cons_cons, List.zip_nil_right]
          iterate 9 (refine Mix.step0 fun K hK => ?_; go_simp; (try (go_bits; try go_simp)); first | ((with_reducible refine hK _ _ ?_); clear hK K) | ((try (simp only [IntWalk.iteOmega]; try go_simp)); (try go_bits); (with_reducible refine hK _ _ ?_); clear hK K))
          iterate 9 (first | (refine Mix.stepS rfl fun K hK => ?_; go_simp; (with_reducible refine hK _ _ ?_); clear hK K) | (refine Mix.step0 fun K hK => ?_; go_simp; (try (go_bits; try go_simp)); first | ((with_reducible refine hK _ _ ?_); clear hK K) | ((try (simp only [IntWalk.iteOmega]; try go_simp)); (try go_bits); (with_reducible refine hK _ _ ?_); clear hK K)))
          iterate 2 (refine Mix.step0 fun K hK => ?_; go_simp; (try (go_bits; try go_simp)); first | ((with_reducible refine hK _ _ ?_); clear hK K) | ((try (simp only [IntWalk.iteOmega]; try go_simp)); (try go_bits); (with_reducible refine hK _ _ ?_); clear hK K))
          iterate 19 (first | (refine Mix.stepS rfl fun K hK => ?_; go_simp; (with_reducible refine hK _ _ ?_); clear hK K) | (refine Mix.step0 fun K hK => ?_; go_simp; (try (go_bits; try go_simp)); first | ((with_reducible refine hK _ _ ?_); clear hK K) | ((try (simp only [IntWalk.iteOmega]; try go_simp)); (try go_bits); (with_reducible refine hK _ _ ?_); clear hK K)))
          iterate 2 (refine Mix.step0 fun K hK => ?_; go_simp; (try (go_bits; try go_simp)); first | ((with_reducible refine hK _ _ ?_); clear hK K) | ((try (simp only [IntWalk.iteOmega]; try go_simp)); (try go_bits); (with_reducible refine hK _ _ ?_); clear hK K))
          iterate 17 (first | (refine Mix.stepS rfl fun K hK => ?_; go_simp; (with_reducible refine hK _ _ ?_); clear hK K) | (refine Mix.step0 fun K hK => ?_; go_simp; (try (go_bits; try go_simp)); first | ((with_reducible refine hK _ _ ?_); clear hK K) | ((try (simp only [IntWalk.iteOmega]; try go_simp)); (try go_bits); (with_reducible refine hK _ _ ?_); clear hK K)))
          iterate 1 (refine Mix.step0 fun K hK => ?_; go_simp; (try (go_bits; try go_simp)); first | ((with_reducible refine hK _ _ ?_); clear hK K) | ((try (simp only [IntWalk.iteOmega]; try go_simp)); (try go_bits); (with_reducible refine hK _ _ ?_); clear hK K))
          refine Mix.done ?_
          go_wp2_with fail
          refine Mix.region [0, 0, 0, 0, 0, 0, 0, 0, 0] (fun _ => True) (by kernel_rfl) (by kernel_rfl) trivial ?_
          simp only [List.zip_cons_cons, List.zip_nil_right]
          iterate 9 (refine Mix.step0 fun K hK => ?_; go_simp; (try (go_bits; try go_simp)); first | ((with_reducible refine hK _ _ ?_); clear hK K) | ((try (simp only [IntWalk.iteOmega]; try go_simp)); (try go_bits); (with_reducible refine hK _ _ ?_); clear hK K))
          refine Mix.done ?_
          by_cases r1 : R = -1
          · have e1 : (R == -1) = true := by simpa using r1
            have hq : g B av' = -1 := by rw [← HRB.out]; exact r1
            clear r1
            have HN := Lib.hid (HPU.out hnv HBY.out (.inl hq))
            clear HSK HPU
            go_wp2_with fail
            refine Mix.region [0, 0, 0, 0, 0, 0, 0, 0, 0, 2] (fun _ => True) (by kernel_rfl) (by kernel_rfl) trivial ?_
            simp only [List.zip_cons_cons, List.zip_nil_right]
            iterate 9 (refine Mix.step0 fun K hK => ?_; go_simp; (try (go_bits; try go_simp)); first | ((with_reducible refine hK _ _ ?_); clear hK K) | ((try (simp only [IntWalk.iteOmega]; try go_simp)); (try go_bits); (with_reducible refine hK _ _ ?_); clear hK K))
            refine Mix.step2n (by first | rfl | simp [Region.wanted, yielded]) fun K hK => ?_
            go_wp2_with fail
            refine Mix.post_mk (C := (fun _ => True)) trivial (hK _ _ ?_)
            clear hK K
            refine Mix.done ?_
            have hs2 := (hs.setInts (j := av') 4 rfl ak).drew.drew.drew
            simp only [List.set_cons_zero, List.set_cons_succ] at hs2
            go_wp2_with fail
            refine Round.intro (O.length - (i + 1)) ?measure11 (by kernel_rfl) (hJ2 _ _ _ ?rel11)
            case' rel11 => (try dsimp only [nthV])
            case measure11 => omega
            case rel11 => exact ⟨i + 1, _, by go_num, hlt, rfl, by rw [HTK.out, ← List.append_assoc]; exact HN.out, hs2⟩
          have e1 : (R == -1) = false := by simpa using r1
          by_cases r2 : (ak : Int) < R
          · have e2 : decide ((ak : Int) < R) = true := decide_eq_true r2
            have hq : (ak : Int) < g B av' := by rw [← HRB.out]; exact r2
            clear r1 r2
            have HN := Lib.hid (HPU.out hnv HBY.out (.inr hq))
            clear HSK HPU
            go_wp2_with fail
            refine Mix.region [0, 0, 0, 0, 0, 0, 0, 0, 0, 2] (fun _ => True) (by kernel_rfl) (by kernel_rfl) trivial ?_
            simp only [List.zip_cons_cons, List.zip_nil_right]
            iterate 9 (refine Mix.step0 fun K hK => ?_; go_simp; (try (go_bits; try go_simp)); first | ((with_reducible refine hK _ _ ?_); clear hK K) | ((try (simp only [IntWalk.iteOmega]; try go_simp)); (try go_bits); (with_reducible refine hK _ _ ?_); clear hK K))
            refine Mix.step2n (by first | rfl | simp [Region.wanted, yielded]) fun K hK => ?_
            go_wp2_with fail
            refine Mix.post_mk (C := (fun _ => True)) trivial (hK _ _ ?_)
            clear hK K
            refine Mix.done ?_
            have hs2 := (hs.setInts (j := av') 4 rfl ak).drew.drew.drew
            simp only [List.set_cons_zero, List.set_cons_succ] at hs2
            go_wp2_with fail
            refine Round.intro (O.length - (i + 1)) ?measure12 (by kernel_rfl) (hJ2 _ _ _ ?rel12)
            case' rel12 => (try dsimp only [nthV])
            case measure12 => omega
            case rel12 => exact ⟨i + 1, _, by go_num, hlt, rfl, by rw [HTK.out, ← List.append_assoc]; exact HN.out, hs2⟩
          · have e2 : decide ((ak : Int) < R) = false := decide_eq_false r2
            have HQ2 := Lib.hid (show g B av' ≠ -1 ∧ ¬ (ak : Int) < g B av' by rw [← HRB.out]; exact ⟨r1, r2⟩)
            have HN := Lib.hid (HSK.out (.inr ⟨HQ2.out.1, by have := HQ2.out.2; omega⟩))
            clear r1 r2 HSK HPU
            go_wp2_with fail
            refine Round.intro (O.length - (i + 1)) ?measure13 (by kernel_rfl) (hJ2 _ _ _ ?rel13)
            case' rel13 => (try dsimp only [nthV])
            case measure13 => omega
            case rel13 => exact ⟨i + 1, _, by go_num, hlt, rfl, by rw [HTK.out, ← List.append_assoc]; exact HN.out, hs.drew.drew⟩
        · obtain rfl : i = O.length := by omega
          rw [List.take_length, ← HFS.out] at HE2
          go_wp2_with fail
          refine Round.intro (F.n - (u + 1)) ?measure14 (by kernel_rfl) (hJ1 _ _ _ ?rel14)
          case' rel14 => (try dsimp only [nthV])
          case measure14 => omega
          case rel14 => exact ⟨u + 1, _, by go_num, hun, rfl, HE2.out, hs⟩
    · obtain rfl : u = F.n := by omega
      have HQ := Lib.hid (show EN F.n (flatR F.rows F.rows.length) D H B by rw [HL.out]; exact HEN.out)
      go_wp2_with fail
      exact bodyPost_end (results_none rfl _ _ _) rfl ⟨⟨_, rfl⟩, B, HQ.out, hs⟩
end Go.Proofs.Ytfafecgnjjkagaa
