/-
  Device.On, walked.
-/
import Derived.Test.YtpjbafpbgacnkaaDvW6
import Derived.Test.YtpjbafpbgacnkaaDvPl3
set_option linter.unusedVariables false
set_option linter.unusedSimpArgs false
namespace Go.Proofs.Ytpjbafpbgacnkaa
open Go Go.RowKit Go.Mem Go.DevP Go.Shelf
attribute [local go_sem] Oper.semAt_some
section
variable {w0 w : World} {L : List Thing} {i b : Nat} {d : Dv}
theorem comes_nil (a : Option Addr) (n c : Nat) (w : World) : Calls Try.prog 18 #[.pointer none, .slice a n c] w fun en w' => en = .returned (.int .i64 2) ∧ Below w.heap.size w w' := by
  have hs := ((Sep.start w).newCells #[.pointer none] 25).newCells #[.slice a n c] 33
  rw [World.size_alloc] at hs
  have y0 := cell_of (hs.cells 1 rfl) 0
  simp only [List.getElem?_toArray, List.getElem?_cons_zero] at y0
  go_enter Try.func18, Try.ntmps18
  go_wp2_with fail
  go_ret
  exact ⟨rfl, hs.below⟩
theorem devL_end3 {w0 w : World} {R X : List Thing} {A B C D E : Thing} {l : Lay} {left left' : Int} {off off' : Bool} {b : Nat} (S : List (Sl × List Int)) (h : Sep w0 w (A :: B :: C :: D :: E :: dvC b l.ss.val l.bm left off :: recT slR 41 l.ss.val (S.map (·.1)) :: dmapT .i64 Ent.key Ent.val l.bm [] :: ((rowsL l.es 41 ++ gridL .u8 5 l.M) ++ (R ++ X)))) :
    Sep w0 w (devL b { l with S := S, es := [] } left off ++ R) := devL_end S h.tail
set_option maxRecDepth 100000 in
set_option maxHeartbeats 8000000 in
theorem comes_any (hs : Sep w0 w L) (hi : L[i]? = some (devT b d)) (hg : d.Good) (hbig : ∀ x ∈ d.B, x.loose.length ≤ 1000000) (ps : List Int) (a : Option Addr) (n c : Nat) (hnc : n ≤ c)
    (hR : ∀ (W : World) (R' : List Thing), Sep w0 W R' → (∀ A ∈ L.eraseIdx i, A ∈ R') → Rd .i64 W (.slice a n c) ps) :
    Calls Try.prog 18 #[.pointer (some ⟨b, 0, none⟩), .slice a n c] w fun en w' => en = .returned (.int .i64 d.comesE) ∧ Sep w0 w' (L.set i (devT b (d.comesD ps))) := by
  obtain ⟨l, ok, hs1⟩ := Sep.devOpen hs hi
  have HOK := Lib.hid ok
  have HHI := Lib.hid hi
  have HLE := Lib.hid (ok.es_len hg.n1)
  have HG := Lib.hid hg
  have HBIG := Lib.hid hbig
  have HR := Lib.hid hR
  have hn : n = ps.length := (hR _ _ hs1 (fun A hA => List.mem_append_right _ hA)).len
  have HN := Lib.hid hn
  have hps := (hR _ _ hs1 (fun A hA => List.mem_append_right _ hA)).le'
  rw [← hn] at hps
  clear hn hR hbig
  obtain ⟨B, left, off⟩ := d
  dsimp only at hs1
  replace hs1 := (hs1.newCells #[.pointer (some ⟨b, 0, none⟩)] 25).newCells #[.slice a n c] 33
  rw [World.size_alloc] at hs1
  obtain ⟨B1, hB1⟩ : ∃ B1, B1 = w.heap.size := ⟨_, rfl⟩
  rw [← hB1] at hs1
  have y0 := cell_of (hs1.cells 1 rfl) 0
  have c3 := cell_of (hs1.cells 2 rfl) 3
  simp only [List.getElem?_toArray, List.getElem?_cons_zero, List.getElem?_cons_succ] at y0 c3
  cases off
  · have HC := Lib.hid (Sep.devClose (d := ⟨B, left, false⟩) HHI.out hs1.tail.tail HOK.out)
    clear hs hs1 ok hg hi
    go_enter Try.func18, Try.ntmps18
    go_wp2_with fail
    rw [← hB1]
    clear hB1
    go_wp2_with fail
    go_ret
    exact ⟨rfl, HC.out⟩
  clear hs hi hg ok
  refine (callsIn_wide (n := 6)).1 ?_
  refine callsIn_of_wp_marks Try.func18 rfl trivial ?_ rfl
  simp only [Try.ntmps18, List.size_toArray, List.length_cons, List.length_nil, Nat.reduceAdd, Nat.reduceSub, Array.replicate_succ, Array.replicate_zero, List.push_toArray, List.append_toArray, List.nil_append, List.cons_append]
  refine wpIn_wide.2 ?_
  go_wp2_with fail
  rw [← hB1]
  clear hB1
  refine (rising_any b _).mono ?_
  rintro en w3 ⟨rfl, rfl⟩
  have hs3 := hs1.newCells #[.pointer (some ⟨b, 0, none⟩)] 25
  clear hs1 y0 c3
  obtain ⟨W2, hW2⟩ : ∃ W2, W2 = (w.alloc (Obj.cells #[Value.pointer (some { block := b, off := 0 })] 25)).alloc (Obj.cells #[Value.slice a n c] 33) := ⟨_, rfl⟩
  rw [← hW2] at hs3 ⊢
  clear hW2
  obtain ⟨Bd, hBd⟩ : ∃ Bd, Bd = W2.heap.size := ⟨_, rfl⟩
  rw [← hBd] at hs3 ⊢
  clear hBd
  go_wp2_with fail
  generalize World.alloc W2 _ = W3 at hs3 ⊢
  obtain ⟨bm, ⟨sa, sn, sc⟩, S, es, M⟩ := l
  have hSl : S.length = B.length := HOK.out.len
  obtain ⟨g, n3, eg, _⟩ := (hs3.recs (R := slR) (E := 41) (v := Sl.val ⟨sa, sn, sc⟩) (xs := S.map (·.1)) 4 rfl).get 0 (by rw [List.length_map, hSl]; exact HG.out.n0)
  injection eg with e1 e2 e3
  subst e1
  subst e3
  rw [List.length_map] at e2
  subst e2
  have HSL := Lib.hid hSl
  clear hSl
  dsimp only at HLE
  obtain ⟨PV, hPV⟩ : ∃ PV : Nat → Value, PV = pk a n c := ⟨_, rfl⟩
  have hs4 : Sep w0 W3 (cellsT Bd #[.pointer (some ⟨b, 0, none⟩)] 25 :: cellsT (B1 + 1) #[PV 0] 33 :: cellsT B1 #[.pointer (some ⟨b, 0, none⟩)] 25 :: (devL b ⟨bm, ⟨some ⟨g, 0, none⟩, S.length, sc⟩, S, es, M⟩ left true ++ L.eraseIdx i)) := by
    rw [hPV, pk_zero]; exact hs3
  have HPV := Lib.hid hPV
  clear hs3 hPV
  refine (wpIn_wide (n := 6)).1 ?_
  refine nameRF (m := 6) fun a0 ha0 => ?_
  refine wpIn_rangeX rfl (by decide) (gf := 37) (lb := #[.pointer (some ⟨Bd, 0, none⟩)]) (by rw [ha0]; rfl) trivial (enters_of Try.func37 (by kernel_rfl) rfl) encE (fun _ => rfl)
    (fun pre => cellsT Bd #[.pointer (some ⟨b, 0, none⟩)] 25 :: cellsT (B1 + 1) #[PV pre.length] 33 :: cellsT B1 #[.pointer (some ⟨b, 0, none⟩)] 25 :: (devL b ⟨bm, ⟨some ⟨g, 0, none⟩, S.length, sc⟩, stepS (comesF ps) pre 0 S, es, M⟩ left true ++ L.eraseIdx i)) hs4 (sortE es)
    (fun J W1 hJx hJs hJy h0 => rising1_in (6 - 1) (by decide) _ w0 Bd b bm 0 3 5 (.slice (some ⟨g, 0, none⟩) S.length sc) left true es (sortE es) _ (fun _ => rfl) (fun _ => rfl) (fun _ => rfl) HLE.out (sortE_perm _) (sortE_keys _) J W1 hJx hJs hJy h0)
    (fun x => { tmps := (((a0.tmps.setIfInBounds 19 (.int .i64 x.k)).setIfInBounds 20 x.s.val).setIfInBounds 5 (.int .i64 x.k)).setIfInBounds 6 x.s.val, defers := [] })
    ?assign ?body ?done
  case assign =>
    rintro l ⟨xk, ⟨xa, xn, xc⟩, e⟩ W K hK
    clear hs4
    subst ha0
    dsimp only [encE, Sl.val]
    gi_wp2
    exact hK
  case done =>
    rintro l DL o1 X W hs
    clear hs4
    simp only [List.cons_append, List.append_assoc] at hs
    have y1 := cell_of (hs.cells 4 rfl) 0
    have c1 := cell_of (hs.cells 5 rfl) 1
    simp only [List.getElem?_toArray, List.getElem?_cons_zero, List.getElem?_cons_succ] at y1 c1
    obtain ⟨W5, hclr, hs5⟩ := hs.mapClear (P := Try.prog) (e := 55) 7 (kf := Ent.key) (vf := Ent.val) (kk := .i64) (b := bm) (xs := es) rfl Try.underlying56
    simp only [List.set_cons_succ, List.set_cons_zero] at hs5
    replace hs5 : Sep w0 W5 (defT l o1 :: defT DL (.deferred (some [])) :: cellsT Bd #[.pointer (some ⟨b, 0, none⟩)] 25 :: cellsT (B1 + 1) #[PV (sortE es).length] 33 :: cellsT B1 #[.pointer (some ⟨b, 0, none⟩)] 25 :: dvC b (Sl.val ⟨some ⟨g, 0, none⟩, S.length, sc⟩) bm left true :: recT slR 41 (Sl.val ⟨some ⟨g, 0, none⟩, S.length, sc⟩) ((stepS (comesF ps) (sortE es) 0 S).map (·.1)) :: dmapT .i64 Ent.key Ent.val bm [] :: ((rowsL es 41 ++ gridL .u8 5 M) ++ (L.eraseIdx i ++ X))) := hs5
    have y2 := cell_of (hs5.cells 4 rfl) 0
    have f2 := fun j => frozen_of (hs5.cells 5 rfl) j
    have cc2 := cell_of (hs5.cells 5 rfl) 2
    have cc3 := cell_of (hs5.cells 5 rfl) 3
    simp only [List.getElem?_toArray, List.getElem?_cons_zero, List.getElem?_cons_succ] at y2 cc2 cc3
    have hs6 := hs5.setC 5 rfl 3 (.bool false) #[.slice (some ⟨g, 0, none⟩) S.length sc, .map (some bm), .int .i64 left, .bool false] rfl
    simp only [List.set_cons_succ, List.set_cons_zero] at hs6
    have y3 := cell_of (hs6.cells 4 rfl) 0
    have f3 := fun j => frozen_of (hs6.cells 5 rfl) j
    have dd2 := cell_of (hs6.cells 5 rfl) 2
    simp only [List.getElem?_toArray, List.getElem?_cons_zero, List.getElem?_cons_succ] at y3 dd2
    have hs7a := hs6.setC 5 rfl 2 (.int .i64 (-1)) #[.slice (some ⟨g, 0, none⟩) S.length sc, .map (some bm), .int .i64 (-1), .bool false] rfl
    simp only [List.set_cons_succ, List.set_cons_zero] at hs7a
    have y4 := cell_of (hs7a.cells 4 rfl) 0
    simp only [List.getElem?_toArray, List.getElem?_cons_zero] at y4
    have hs7 := hs7a.drew
    have HD := Lib.hid (hs7.obj_ (D := DL) (o := .deferred (some [])) 1 rfl)
    have hs8 := hs7.putD (D := DL) (o := .deferred (some [])) (o' := .deferred none) 1 rfl
    simp only [List.set_cons_succ, List.set_cons_zero] at hs8
    have h6 := devL_end3 (b := b) (l := ⟨bm, ⟨some ⟨g, 0, none⟩, S.length, sc⟩, S, es, M⟩) (left := -1) (off := false) (left' := 0) (off' := false) (stepS (comesF ps) (sortE es) 0 S) hs8
    have HC := Lib.hid (Sep.devClose (d := ⟨comesB B ps, -1, false⟩) HHI.out h6 (comes_ok HOK.out ps (-1) false))
    clear hs hs5 hs6 hs7 hs7a hs8 h6
    subst ha0
    have hCW : (fun W : World => W.cell? ⟨B1, 0, none⟩ = some (.pointer (some ⟨b, 0, none⟩))) W5.drew := y2
    go_wp2_with fail
    refine Mix.region [0, 1, 0, 0, 2, 0, 0, 2] (fun W : World => W.cell? ⟨B1, 0, none⟩ = some (.pointer (some ⟨b, 0, none⟩))) (by kernel_rfl) (by kernel_rfl) hCW ?_
    simp only [List.zip_cons_cons, List.zip_nil_right]
    iterate 1 (refine Mix.step0 fun K hK => ?_; go_simp; (try (go_bits; try go_simp)); first | ((with_reducible refine hK _ _ ?_); clear hK K) | ((try (simp only [IntWalk.iteOmega]; try go_simp)); (try go_bits); (with_reducible refine hK _ _ ?_); clear hK K))
    (refine Mix.step1 fun K hK => ?_; go_simp; refine ⟨fun W => ?_, hK _ _ ?_⟩; (intro hW1; (try intro hW2); (try intro hW3); (try intro hW4); (try intro hW5); (try intro hW6); (try intro hW7); (try intro hW8); go_simp); clear hK K)
    iterate 2 (refine Mix.step0 fun K hK => ?_; go_simp; (try (go_bits; try go_simp)); first | ((with_reducible refine hK _ _ ?_); clear hK K) | ((try (simp only [IntWalk.iteOmega]; try go_simp)); (try go_bits); (with_reducible refine hK _ _ ?_); clear hK K))
    refine Mix.step2n (by first | rfl | simp [Region.wanted, yielded]) fun K hK => ?_
    go_wp2_with fail
    have hCW : (fun W : World => W.cell? ⟨B1, 0, none⟩ = some (.pointer (some ⟨b, 0, none⟩))) (W5.setCell ⟨b, 3, none⟩ (.bool false)) := y3
    refine Mix.post_mk (C := (fun W : World => W.cell? ⟨B1, 0, none⟩ = some (.pointer (some ⟨b, 0, none⟩)))) (by first | exact hCW | exact HCW.out _) (hK _ _ ?_)
    clear hK K
    iterate 2 (refine Mix.step0 fun K hK => ?_; go_simp; (try (go_bits; try go_simp)); first | ((with_reducible refine hK _ _ ?_); clear hK K) | ((try (simp only [IntWalk.iteOmega]; try go_simp)); (try go_bits); (with_reducible refine hK _ _ ?_); clear hK K))
    refine Mix.step2n (by first | rfl | simp [Region.wanted, yielded]) fun K hK => ?_
    go_wp2_with fail
    have hCW : (fun W : World => W.cell? ⟨B1, 0, none⟩ = some (.pointer (some ⟨b, 0, none⟩))) ((W5.setCell ⟨b, 3, none⟩ (.bool false)).setCell ⟨b, 2, none⟩ (.int .i64 (-1))) := y4
    refine Mix.post_mk (C := (fun W : World => W.cell? ⟨B1, 0, none⟩ = some (.pointer (some ⟨b, 0, none⟩)))) (by first | exact hCW | exact HCW.out _) (hK _ _ ?_)
    clear hK K
    refine Mix.done ?_
    go_wp2_with fail
    refine ⟨by simp, .inl ⟨_, _, rfl, run_takeDeferred HD.out, ?_⟩⟩
    exact ⟨.int .i64 0, by simp [results, Try.results18, go_sem], rfl, HC.out⟩
  case body =>
    rintro l DL o1 o2 X pre x W hpl hs
    clear hs4
    have hxm : x ∈ es := (sortE_perm es).mem_iff.1 (hpl.subset (by simp))
    obtain ⟨jx, hjx, hjx2⟩ := it_map hxm
    obtain ⟨g1, g2, g3, g4⟩ := HOK.out.es x hxm
    dsimp only at g1
    simp only [List.cons_append, List.append_assoc] at hs
    have HRP := Lib.hid (HR.out W _ hs (fun A hA => by simp only [List.mem_cons, List.mem_append]; right; right; right; right; right; right; left; exact hA))
    have y1 := cell_of (hs.cells 4 rfl) 0
    have yp := cell_of (hs.cells 3 rfl) 0
    have fp := fun j => frozen_of (hs.cells 3 rfl) j
    have c0 := cell_of (hs.cells 5 rfl) 0
    simp only [List.getElem?_toArray, List.getElem?_cons_zero] at y1 c0 yp
    have hrow : RdG slR W x.s.val (x.c.map (·.1)) := by
      have := hs.rdRecs (R := slR) (E := 41) (v := (es[jx]).s.val) (xs := (es[jx]).c.map (·.1)) (jx + 3 + 5) (devL_row (b := b) (l := ⟨bm, ⟨some ⟨g, 0, none⟩, S.length, sc⟩, stepS (comesF ps) pre 0 S, es, M⟩) (left := left) (off := true) (R := L.eraseIdx i ++ X) hjx)
      rw [show es[jx] = x from hjx2] at this
      exact this
    have HJ := Lib.hid hjx
    have HJ2 := Lib.hid (show ∀ h : jx < es.length, es[jx]'h = x from fun _ => hjx2)
    clear hjx2
    clear hjx
    have hsnoc := stepS_snoc (comesF ps) x pre 0 S
    have hSl := stepS_len (comesF ps) pre 0 S
    obtain ⟨SP, hSP⟩ : ∃ SP, SP = stepS (comesF ps) pre 0 S := ⟨_, rfl⟩
    rw [← hSP] at hs hsnoc hSl
    clear hSP
    rw [Nat.zero_add] at hsnoc
    have hlen1 : True := trivial
    obtain ⟨r, hr⟩ : ∃ r, r = pre.length := ⟨_, rfl⟩
    have HRR := Lib.hid hr
    rw [← hr] at hs hsnoc yp
    clear hr hlen1
    obtain ⟨xk, ⟨xa, xn, xc⟩, e⟩ := x
    dsimp only at g1 g2 g3 g4 hrow hsnoc
    have hcl : 0 < e.length := List.length_pos_iff.2 g3
    have hle := hrow.le'
    rw [List.length_map] at hle
    have hle5 : e.length ≤ 1000000 := by
      have h1 : (B.getD xk default).loose.length ≤ 1000000 := HBIG.out _ (by rw [List.getD_eq_getElem?_getD, List.getElem?_eq_getElem g1]; exact List.getElem_mem g1)
      rw [g2, List.length_map] at h1
      exact h1
    obtain ⟨_, _, ex⟩ := hrow.shape
    injection ex with q1 ex q2
    clear q1 q2
    rw [List.length_map] at ex
    subst ex
    have hkS : xk < SP.length := by rw [hSl, HSL.out]; exact g1
    have hkM : xk < (SP.map (·.1)).length := by rw [List.length_map]; exact hkS
    obtain ⟨gg, cg, eg, _, hcR, hfz⟩ := (hs.recs (R := slR) (E := 41) (v := Sl.val ⟨some ⟨g, 0, none⟩, S.length, sc⟩) (xs := SP.map (·.1)) 6 rfl).get xk hkM
    injection eg with eg q1 q2
    injection eg with eg
    injection eg with eg
    subst eg
    clear q1 q2
    have w0c := hcR xk hkM 0 (by decide)
    simp only [slR, Nat.mul_one, Nat.add_zero, List.getElem_map, List.getElem?_cons_zero] at w0c
    obtain ⟨wv, hw0⟩ : ∃ v, W.cell? ⟨g, xk, none⟩ = some v := ⟨_, w0c⟩
    clear w0c hcR
    have hkI : (xk : Int) < S.length := by rw [HSL.out]; omega
    have hkN : xk < S.length := by rw [HSL.out]; exact g1
    have hclI : (0 : Int) < e.length := by omega
    dsimp only [Sl.val] at c0
    have hdep : (Fence.inRound Fence.wide l).depth = none := rfl
    have HSN := Lib.hid hsnoc
    have HKM := Lib.hid hkM
    clear hsnoc hxm g1 g2 g3 hSl hkS hkM hle
    by_cases hrn : r < n
    rotate_left
    · obtain ⟨a', c', hpk⟩ := pk_none (a := a) (c := c) (show n ≤ r by omega)
      have HP2 := Lib.hid (show PV (r + 1) = PV r by rw [HPV.out]; exact pk_stay (by omega))
      have hpv : PV r = .slice a' 0 c' := by rw [HPV.out]; exact hpk
      have HN0 := Lib.hid (show comesF ps r ⟨xk, ⟨xa, e.length, xc⟩, e⟩ = none by unfold comesF; rw [if_pos (pick_neg (.inr (by rw [← HN.out]; omega)))])
      have HS5 := Lib.hid hs
      rw [hpv] at yp
      clear hs hpv hpk
      dsimp only [Sl.val]
      subst ha0
      gi_wp2_with fail
      gi_wp2
      show Sep _ _ _
      (try simp only [List.length_append, List.length_singleton, List.cons_append, List.append_assoc])
      rw [← HRR.out, HP2.out, HSN.out, HN0.out]
      exact HS5.out
    · have hrp : r < ps.length := by rw [← HN.out]; exact hrn
      obtain ⟨b2, o2, e2, _, x0⟩ := HRP.out.at r hrp
      subst e2
      obtain ⟨v, hv⟩ : ∃ v, v = ps.getD r 0 := ⟨_, rfl⟩
      rw [← hv] at x0
      have HV := Lib.hid hv
      have hpv : PV r = .slice (some ⟨b2, o2 + r, none⟩) (n - r) (c - r) := (congrFun HPV.out r).trans (pk_at hrn hnc)
      rw [hpv] at yp
      have HP1 := Lib.hid (show c - r = 1 → PV (r + 1) = .slice (some ⟨b2, o2 + r, none⟩) (n - r - 1) (1 - 1) from fun h => (congrFun HPV.out (r + 1)).trans (pk_one (b := b2) (o := o2) hrn hnc h))
      have HP2 := Lib.hid (show c - r ≠ 1 → PV (r + 1) = .slice (some ⟨b2, o2 + r + 1, none⟩) (n - r - 1) (c - r - 1) from fun h => (congrFun HPV.out (r + 1)).trans (pk_more (b := b2) (o := o2) hrn hnc h))
      obtain ⟨N1, hN1⟩ : ∃ N1, N1 = n - r := ⟨_, rfl⟩
      obtain ⟨C1, hC1⟩ : ∃ C1, C1 = c - r := ⟨_, rfl⟩
      obtain ⟨O1, hO1⟩ : ∃ O1, O1 = o2 + r := ⟨_, rfl⟩
      rw [← hN1, ← hC1, ← hO1] at yp
      rw [← hO1] at x0
      rw [← hN1, ← hC1, ← hO1] at HP2
      rw [← hN1, ← hC1, ← hO1] at HP1
      have hN0 : 0 < N1 := by omega
      have hNC : N1 ≤ C1 := by omega
      have hN63 : N1 ≤ 9223372036854775807 := by omega
      have hN0I : (0 : Int) < N1 := by omega
      clear hpv hv hN1 hC1 hO1
      have hmod := pick_eq ps r e.length
      rw [← HV.out] at hmod
      have hPle := pick_le ps r e.length
      have HCF := Lib.hid (show comesF ps r ⟨xk, ⟨xa, e.length, xc⟩, e⟩ = if pickV ps r e.length = 0 then none else e[pickV ps r e.length - 1]? from rfl)
      obtain ⟨PK, hPK⟩ : ∃ PK, PK = pickV ps r e.length := ⟨_, rfl⟩
      rw [← hPK] at hmod hPle HCF
      clear hPK
      by_cases hk0 : PK = 0
      · subst hk0
        have HN0 := Lib.hid (HCF.out.trans (if_pos rfl))
        have hmod : max v 0 % ((e.length : Int) + 1) = 0 := hmod
        clear HCF
        by_cases hc1 : C1 = 1
        · subst hc1
          have HNX := Lib.hid (show PV (r + 1) = .slice (some ⟨b2, O1, none⟩) 0 0 from (HP1.out rfl).trans (by rw [show N1 - 1 = 0 by omega]))
          have hs5 := (hs.setC 3 rfl 0 (.slice (some ⟨b2, O1, none⟩) 0 0) #[.slice (some ⟨b2, O1, none⟩) 0 0] rfl).drew
          simp only [List.set_cons_succ, List.set_cons_zero] at hs5
          have HS5 := Lib.hid hs5
          clear hs hs5
          dsimp only [Sl.val]
          subst ha0
          gi_wp2_with fail
          refine MixI.region hdep [0, 0, 0, 0, 0, 0, 0, 0, 0, 0, 0, 2] (fun _ => True) (by kernel_rfl) (by kernel_rfl) trivial ?_
          simp only [List.zip_cons_cons, List.zip_nil_right]
          iterate 11 (refine MixI.step0 fun K hK => ?_; go_simp; (try (go_bits; try go_simp)); first | ((with_reducible refine hK _ _ ?_); clear hK K) | ((try (simp only [IntWalk.iteOmega]; try go_simp)); (try go_bits); (with_reducible refine hK _ _ ?_); clear hK K))
          refine MixI.step2n (by first | rfl | simp [Region.wanted, yielded]) fun K hK => ?_
          gi_wp2_with fail
          refine MixI.post_mk (C := (fun _ => True)) trivial (hK _ _ ?_)
          clear hK K
          refine MixI.done ?_
          gi_wp2_with fail
          gi_wp2
          show Sep _ _ _
          (try simp only [List.length_append, List.length_singleton, List.cons_append, List.append_assoc])
          rw [← HRR.out, HNX.out, HSN.out, HN0.out]
          exact HS5.out
        · have HNX := Lib.hid (show PV (r + 1) = .slice (some ⟨b2, O1 + 1, none⟩) (N1 - 1) (C1 - 1) from HP2.out hc1)
          have hs5 := (hs.setC 3 rfl 0 (.slice (some ⟨b2, O1 + 1, none⟩) (N1 - 1) (C1 - 1)) #[.slice (some ⟨b2, O1 + 1, none⟩) (N1 - 1) (C1 - 1)] rfl).drew
          simp only [List.set_cons_succ, List.set_cons_zero] at hs5
          have HS5 := Lib.hid hs5
          clear hs hs5
          dsimp only [Sl.val]
          subst ha0
          gi_wp2_with fail
          refine MixI.region hdep [0, 0, 0, 0, 0, 0, 0, 0, 0, 0, 0, 2] (fun _ => True) (by kernel_rfl) (by kernel_rfl) trivial ?_
          simp only [List.zip_cons_cons, List.zip_nil_right]
          iterate 11 (refine MixI.step0 fun K hK => ?_; go_simp; (try (go_bits; try go_simp)); first | ((with_reducible refine hK _ _ ?_); clear hK K) | ((try (simp only [IntWalk.iteOmega]; try go_simp)); (try go_bits); (with_reducible refine hK _ _ ?_); clear hK K))
          refine MixI.step2n (by first | rfl | simp [Region.wanted, yielded]) fun K hK => ?_
          gi_wp2_with fail
          refine MixI.post_mk (C := (fun _ => True)) trivial (hK _ _ ?_)
          clear hK K
          refine MixI.done ?_
          gi_wp2_with fail
          gi_wp2
          show Sep _ _ _
          (try simp only [List.length_append, List.length_singleton, List.cons_append, List.append_assoc])
          rw [← HRR.out, HNX.out, HSN.out, HN0.out]
          exact HS5.out
      · by_cases hc1 : C1 = 1
        · subst hc1
          have HNX := Lib.hid (show PV (r + 1) = .slice (some ⟨b2, O1, none⟩) 0 0 from (HP1.out rfl).trans (by rw [show N1 - 1 = 0 by omega]))
          have hkM := HKM.out
          have hs5 := (hs.setC 3 rfl 0 (.slice (some ⟨b2, O1, none⟩) 0 0) #[.slice (some ⟨b2, O1, none⟩) 0 0] rfl).drew
          simp only [List.set_cons_succ, List.set_cons_zero] at hs5
          obtain ⟨W5, hW5⟩ : ∃ W5, W5 = (W.setCell ⟨B1 + 1, 0, none⟩ (.slice (some ⟨b2, O1, none⟩) 0 0)).drew := ⟨_, rfl⟩
          rw [← hW5] at hs5
          have y5 := cell_of (hs5.cells 4 rfl) 0
          have d5 := cell_of (hs5.cells 5 rfl) 0
          simp only [List.getElem?_toArray, List.getElem?_cons_zero] at y5 d5
          have hrow5 : RdG slR W5 (Sl.val ⟨xa, e.length, xc⟩) (e.map (·.1)) := by
            have := hs5.rdRecs (R := slR) (E := 41) (v := (es[jx]'HJ.out).s.val) (xs := (es[jx]'HJ.out).c.map (·.1)) (jx + 3 + 5) (devL_row (b := b) (l := ⟨bm, ⟨some ⟨g, 0, none⟩, S.length, sc⟩, SP, es, M⟩) (left := left) (off := true) (R := L.eraseIdx i ++ X) HJ.out)
            rw [HJ2.out HJ.out] at this
            exact this
          obtain ⟨bq, oq, eq, _, hcq⟩ := hrow5.at (PK - 1) (by rw [List.length_map]; omega)
          subst eq
          have z0 := hcq 0 (by decide)
          have hlast : PK - 1 < e.length := by omega
          simp only [slR, List.getElem_map, List.getElem?_cons_zero, Nat.mul_one, Nat.add_zero] at z0
          obtain ⟨q, hq⟩ : ∃ q, q = e[PK - 1] := ⟨_, rfl⟩
          rw [← hq] at z0
          have hsnoc := HSN.out
          rw [HCF.out, if_neg hk0, List.getElem?_eq_getElem hlast, ← hq] at hsnoc
          obtain ⟨gg, cg, eg, _, hcR, _⟩ := (hs5.recs (R := slR) (E := 41) (v := Sl.val ⟨some ⟨g, 0, none⟩, S.length, sc⟩) (xs := SP.map (·.1)) 6 rfl).get xk hkM
          injection eg with eg q1 q2
          injection eg with eg
          injection eg with eg
          subst eg
          clear q1 q2
          have w0c := hcR xk hkM 0 (by decide)
          simp only [slR, Nat.mul_one, Nat.add_zero, List.getElem_map, List.getElem?_cons_zero] at w0c
          obtain ⟨wv5, hw5⟩ : ∃ v, W5.cell? ⟨g, xk, none⟩ = some v := ⟨_, w0c⟩
          clear w0c hcR
          have hs6 := hs5.setRow (R := slR) (E := 41) (g := g) (n := S.length) (cap := sc) (xs := SP.map (·.1)) 6 rfl xk hkM 0 (by decide) q.1 q.1.val rfl
          simp only [List.set_cons_succ, List.set_cons_zero] at hs6
          rw [show (SP.map (·.1)).set xk q.1 = (stepS (comesF ps) (pre ++ [⟨xk, ⟨some ⟨bq, oq, none⟩, e.length, xc⟩, e⟩]) 0 S).map (·.1) by rw [hsnoc]; unfold putS; rw [List.map_set]] at hs6
          simp only [slR, Nat.mul_one, Nat.add_zero] at hs6
          have HS6 := Lib.hid hs6.drew
          obtain ⟨⟨qa, qn, qc⟩, qb⟩ := q
          clear hs hs5 hs6 hq hlast hsnoc hcq hrow5 hkM HCF HKM
          have hPKI : (0 : Int) < PK := by omega
          dsimp only [Sl.val] at z0 d5
          dsimp only [Sl.val]
          subst ha0
          gi_wp2_with fail
          refine MixI.region hdep [0, 0, 0, 0, 0, 0, 0, 0, 0, 0, 0, 2] (fun _ => True) (by kernel_rfl) (by kernel_rfl) trivial ?_
          simp only [List.zip_cons_cons, List.zip_nil_right]
          iterate 11 (refine MixI.step0 fun K hK => ?_; go_simp; (try (go_bits; try go_simp)); first | ((with_reducible refine hK _ _ ?_); clear hK K) | ((try (simp only [IntWalk.iteOmega]; try go_simp)); (try go_bits); (with_reducible refine hK _ _ ?_); clear hK K))
          refine MixI.step2n (by first | rfl | simp [Region.wanted, yielded]) fun K hK => ?_
          gi_wp2_with fail
          refine MixI.post_mk (C := (fun _ => True)) trivial (hK _ _ ?_)
          clear hK K
          refine MixI.done ?_
          gi_wp2_with fail
          rw [← hW5]
          clear hW5 y1 c0 yp fp x0 hw0 hfz
          refine MixI.region hdep [0, 0, 0, 0, 0, 0, 0, 0, 0, 0, 0, 2] (fun _ => True) (by kernel_rfl) (by kernel_rfl) trivial ?_
          simp only [List.zip_cons_cons, List.zip_nil_right]
          iterate 11 (refine MixI.step0 fun K hK => ?_; go_simp; (try (go_bits; try go_simp)); first | ((with_reducible refine hK _ _ ?_); clear hK K) | ((try (simp only [IntWalk.iteOmega]; try go_simp)); (try go_bits); (with_reducible refine hK _ _ ?_); clear hK K))
          refine MixI.step2n (by first | rfl | simp [Region.wanted, yielded]) fun K hK => ?_
          gi_wp2_with fail
          refine MixI.post_mk (C := (fun _ => True)) trivial (hK _ _ ?_)
          clear hK K
          refine MixI.done ?_
          gi_wp2
          show Sep _ _ _
          (try simp only [List.length_append, List.length_singleton, List.cons_append, List.append_assoc])
          rw [← HRR.out, HNX.out]
          exact HS6.out
        · have HNX := Lib.hid (show PV (r + 1) = .slice (some ⟨b2, O1 + 1, none⟩) (N1 - 1) (C1 - 1) from HP2.out hc1)
          have hkM := HKM.out
          have hs5 := (hs.setC 3 rfl 0 (.slice (some ⟨b2, O1 + 1, none⟩) (N1 - 1) (C1 - 1)) #[.slice (some ⟨b2, O1 + 1, none⟩) (N1 - 1) (C1 - 1)] rfl).drew
          simp only [List.set_cons_succ, List.set_cons_zero] at hs5
          obtain ⟨W5, hW5⟩ : ∃ W5, W5 = (W.setCell ⟨B1 + 1, 0, none⟩ (.slice (some ⟨b2, O1 + 1, none⟩) (N1 - 1) (C1 - 1))).drew := ⟨_, rfl⟩
          rw [← hW5] at hs5
          have y5 := cell_of (hs5.cells 4 rfl) 0
          have d5 := cell_of (hs5.cells 5 rfl) 0
          simp only [List.getElem?_toArray, List.getElem?_cons_zero] at y5 d5
          have hrow5 : RdG slR W5 (Sl.val ⟨xa, e.length, xc⟩) (e.map (·.1)) := by
            have := hs5.rdRecs (R := slR) (E := 41) (v := (es[jx]'HJ.out).s.val) (xs := (es[jx]'HJ.out).c.map (·.1)) (jx + 3 + 5) (devL_row (b := b) (l := ⟨bm, ⟨some ⟨g, 0, none⟩, S.length, sc⟩, SP, es, M⟩) (left := left) (off := true) (R := L.eraseIdx i ++ X) HJ.out)
            rw [HJ2.out HJ.out] at this
            exact this
          obtain ⟨bq, oq, eq, _, hcq⟩ := hrow5.at (PK - 1) (by rw [List.length_map]; omega)
          subst eq
          have z0 := hcq 0 (by decide)
          have hlast : PK - 1 < e.length := by omega
          simp only [slR, List.getElem_map, List.getElem?_cons_zero, Nat.mul_one, Nat.add_zero] at z0
          obtain ⟨q, hq⟩ : ∃ q, q = e[PK - 1] := ⟨_, rfl⟩
          rw [← hq] at z0
          have hsnoc := HSN.out
          rw [HCF.out, if_neg hk0, List.getElem?_eq_getElem hlast, ← hq] at hsnoc
          obtain ⟨gg, cg, eg, _, hcR, _⟩ := (hs5.recs (R := slR) (E := 41) (v := Sl.val ⟨some ⟨g, 0, none⟩, S.length, sc⟩) (xs := SP.map (·.1)) 6 rfl).get xk hkM
          injection eg with eg q1 q2
          injection eg with eg
          injection eg with eg
          subst eg
          clear q1 q2
          have w0c := hcR xk hkM 0 (by decide)
          simp only [slR, Nat.mul_one, Nat.add_zero, List.getElem_map, List.getElem?_cons_zero] at w0c
          obtain ⟨wv5, hw5⟩ : ∃ v, W5.cell? ⟨g, xk, none⟩ = some v := ⟨_, w0c⟩
          clear w0c hcR
          have hs6 := hs5.setRow (R := slR) (E := 41) (g := g) (n := S.length) (cap := sc) (xs := SP.map (·.1)) 6 rfl xk hkM 0 (by decide) q.1 q.1.val rfl
          simp only [List.set_cons_succ, List.set_cons_zero] at hs6
          rw [show (SP.map (·.1)).set xk q.1 = (stepS (comesF ps) (pre ++ [⟨xk, ⟨some ⟨bq, oq, none⟩, e.length, xc⟩, e⟩]) 0 S).map (·.1) by rw [hsnoc]; unfold putS; rw [List.map_set]] at hs6
          simp only [slR, Nat.mul_one, Nat.add_zero] at hs6
          have HS6 := Lib.hid hs6.drew
          obtain ⟨⟨qa, qn, qc⟩, qb⟩ := q
          clear hs hs5 hs6 hq hlast hsnoc hcq hrow5 hkM HCF HKM
          have hPKI : (0 : Int) < PK := by omega
          dsimp only [Sl.val] at z0 d5
          dsimp only [Sl.val]
          subst ha0
          gi_wp2_with fail
          refine MixI.region hdep [0, 0, 0, 0, 0, 0, 0, 0, 0, 0, 0, 2] (fun _ => True) (by kernel_rfl) (by kernel_rfl) trivial ?_
          simp only [List.zip_cons_cons, List.zip_nil_right]
          iterate 11 (refine MixI.step0 fun K hK => ?_; go_simp; (try (go_bits; try go_simp)); first | ((with_reducible refine hK _ _ ?_); clear hK K) | ((try (simp only [IntWalk.iteOmega]; try go_simp)); (try go_bits); (with_reducible refine hK _ _ ?_); clear hK K))
          refine MixI.step2n (by first | rfl | simp [Region.wanted, yielded]) fun K hK => ?_
          gi_wp2_with fail
          refine MixI.post_mk (C := (fun _ => True)) trivial (hK _ _ ?_)
          clear hK K
          refine MixI.done ?_
          gi_wp2_with fail
          rw [← hW5]
          clear hW5 y1 c0 yp fp x0 hw0 hfz
          refine MixI.region hdep [0, 0, 0, 0, 0, 0, 0, 0, 0, 0, 0, 2] (fun _ => True) (by kernel_rfl) (by kernel_rfl) trivial ?_
          simp only [List.zip_cons_cons, List.zip_nil_right]
          iterate 11 (refine MixI.step0 fun K hK => ?_; go_simp; (try (go_bits; try go_simp)); first | ((with_reducible refine hK _ _ ?_); clear hK K) | ((try (simp only [IntWalk.iteOmega]; try go_simp)); (try go_bits); (with_reducible refine hK _ _ ?_); clear hK K))
          refine MixI.step2n (by first | rfl | simp [Region.wanted, yielded]) fun K hK => ?_
          gi_wp2_with fail
          refine MixI.post_mk (C := (fun _ => True)) trivial (hK _ _ ?_)
          clear hK K
          refine MixI.done ?_
          gi_wp2
          show Sep _ _ _
          (try simp only [List.length_append, List.length_singleton, List.cons_append, List.append_assoc])
          rw [← HRR.out, HNX.out]
          exact HS6.out
end
end Go.Proofs.Ytpjbafpbgacnkaa
