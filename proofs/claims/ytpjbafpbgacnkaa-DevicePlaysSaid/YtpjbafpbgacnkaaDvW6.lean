/-
  Device.Flush, walked.
-/
import Derived.Test.YtpjbafpbgacnkaaDvIt
import Derived.Test.YtpjbafpbgacnkaaDvPl2
set_option linter.unusedVariables false
set_option linter.unusedSimpArgs false
namespace Go.DevP
open Go Go.Mem
theorem nodup_len : ∀ (n : Nat) (P : List Nat), P.Nodup → (∀ w ∈ P, w < n) → P.length ≤ n
  | 0, [], _, _ => Nat.le_refl _
  | 0, w :: P, _, h => by have := h w (by simp); omega
  | n + 1, P, hd, h => by
    by_cases hm : n ∈ P
    · have h1 := nodup_len n (P.erase n) (hd.erase _) fun w hw => by
        have h2 := h w (List.mem_of_mem_erase hw)
        have h3 : w ≠ n := fun e => by subst e; exact (List.Nodup.not_mem_erase hd) hw
        omega
      rw [List.length_erase_of_mem hm] at h1
      omega
    · have := nodup_len n P hd fun w hw => by
        have h2 := h w hw
        have h3 : w ≠ n := fun e => hm (e ▸ hw)
        omega
      omega
theorem Ok.es_len {l : Lay} {d : Dv} (ok : Ok l d) (hn : d.B.length ≤ 4096) : l.es.length ≤ 5000 := by
  have := nodup_len d.B.length (l.es.map (·.k)) ok.nd fun w hw => by
    obtain ⟨e, he, rfl⟩ := List.mem_map.1 hw
    exact (ok.es e he).1
  rw [List.length_map] at this
  omega
end Go.DevP
namespace Go.Proofs.Ytpjbafpbgacnkaa
open Go Go.RowKit Go.Mem Go.DevP Go.Shelf
attribute [local go_sem] Oper.semAt_some
theorem rising_any (b : Nat) (W : World) : Calls Try.prog 33 #[.pointer (some ⟨b, 0, none⟩)] W fun en w' => en = .returned (.func (.func 37) #[] #[.pointer (some ⟨W.heap.size, 0, none⟩)]) ∧ w' = W.alloc (.cells #[.pointer (some ⟨b, 0, none⟩)] 25) := by
  go_enter Try.func33, Try.ntmps33
  go_wp2_with fail
  go_ret
  exact ⟨rfl, rfl⟩
section
variable {w0 w : World} {L : List Thing} {i b : Nat} {d : Dv}
theorem flush_nil (w : World) : Calls Try.prog 16 #[.pointer none] w fun en w' => en = .returned (.int .i64 2) ∧ Below w.heap.size w w' := by
  have hs := (Sep.start w).newCells #[.pointer none] 25
  have y0 := cell_of (hs.cells 0 rfl) 0
  simp only [List.getElem?_toArray, List.getElem?_cons_zero] at y0
  go_enter Try.func16, Try.ntmps16
  go_wp2_with fail
  refine (on_nil _).mono ?_
  rintro en w1 ⟨rfl, rfl⟩
  go_wp2_with fail
  go_ret
  exact ⟨rfl, hs.below⟩
theorem devL_end {w0 w : World} {R X : List Thing} {A B C D : Thing} {l : Lay} {left : Int} {off : Bool} {b : Nat} (S : List (Sl × List Int)) (h : Sep w0 w (A :: B :: C :: D :: dvC b l.ss.val l.bm left off :: recT slR 41 l.ss.val (S.map (·.1)) :: dmapT .i64 Ent.key Ent.val l.bm [] :: ((rowsL l.es 41 ++ gridL .u8 5 l.M) ++ (R ++ X)))) :
    Sep w0 w (devL b { l with S := S, es := [] } left off ++ R) := by
  refine h.sub ?_
  unfold devL
  simp only [List.cons_append, rowsL, List.map_nil, List.nil_append]
  refine (List.Sublist.cons _ (List.Sublist.cons _ (List.Sublist.cons _ (List.Sublist.cons _ ?_))))
  refine (List.Sublist.cons_cons _ (List.Sublist.cons_cons _ (List.Sublist.cons_cons _ ?_)))
  exact List.Sublist.append (List.sublist_append_right _ _) (List.sublist_append_left _ _)
set_option maxRecDepth 100000 in
set_option maxHeartbeats 4000000 in
theorem flush_any (hs : Sep w0 w L) (hi : L[i]? = some (devT b d)) (hg : d.Good) :
    Calls Try.prog 16 #[.pointer (some ⟨b, 0, none⟩)] w fun en w' => en = .returned (.int .i64 d.flushE) ∧ Sep w0 w' (L.set i (devT b d.flushD)) := by
  obtain ⟨l, ok, hs1⟩ := Sep.devOpen hs hi
  have HOK := Lib.hid ok
  have HHI := Lib.hid hi
  have HLE := Lib.hid (ok.es_len hg.n1)
  have HG := Lib.hid hg
  obtain ⟨B, left, off⟩ := d
  dsimp only at hs1
  replace hs1 := hs1.newCells #[.pointer (some ⟨b, 0, none⟩)] 25
  obtain ⟨B1, hB1⟩ : ∃ B1, B1 = w.heap.size := ⟨_, rfl⟩
  rw [← hB1] at hs1
  have y0 := cell_of (hs1.cells 0 rfl) 0
  simp only [List.getElem?_toArray, List.getElem?_cons_zero] at y0
  cases off
  rotate_left
  · go_enter Try.func16, Try.ntmps16
    go_wp2_with fail
    rw [← hB1]
    clear hB1
    refine (on_any hs1 (i := 1) rfl).mono ?_
    rintro en w1 ⟨rfl, rfl⟩
    have HC := Lib.hid (Sep.devClose (d := ⟨B, left, true⟩) HHI.out hs1.tail HOK.out)
    clear hs hs1 ok hi hg
    go_wp2_with fail
    go_ret
    exact ⟨rfl, HC.out⟩
  have HCN := Lib.hid (counts_any hs1 (i := 1) rfl hg.left)
  have HON := Lib.hid (on_any hs1 (i := 1) rfl)
  clear hs hi hg ok hs1
  by_cases hl0 : left = 0
  · subst hl0
    go_enter Try.func16, Try.ntmps16
    go_wp2_with fail
    rw [← hB1]
    clear hB1
    refine HON.out.mono ?_
    rintro en w1 ⟨rfl, rfl⟩
    go_wp2_with fail
    refine HCN.out.mono ?_
    rintro en w2 ⟨rfl, hs2⟩
    replace hs2 : Sep w0 w2 (cellsT B1 #[.pointer (some ⟨b, 0, none⟩)] 25 :: (devL b l (cntL 0) (cntO 0 false) ++ L.eraseIdx i)) := hs2
    have HC := Lib.hid (Sep.devClose (d := (Dv.mk B 0 false).flushD) HHI.out (l := l) hs2.tail ⟨HOK.out.len, HOK.out.sure, HOK.out.es, HOK.out.nd, HOK.out.no, HOK.out.m512⟩)
    clear hs2
    go_wp2_with fail
    go_ret
    exact ⟨rfl, HC.out⟩
  have HFE := Lib.hid (show (Dv.mk B left false).flushE = 0 by simp [Dv.flushE, cntE, hl0])
  have HFD := Lib.hid (show (Dv.mk B left false).flushD = ⟨B.map Blk.flush, cntL left, cntO left false⟩ by simp [Dv.flushD, hl0, Dv.counted])
  have HCE := Lib.hid (show cntE left = 0 by simp [cntE, hl0])
  have d0 : (cntE left == 0) = true := by rw [HCE.out]; rfl
  clear hl0
  obtain ⟨CE, hCE⟩ : ∃ CE, CE = cntE left := ⟨_, rfl⟩
  rw [← hCE] at d0 HCE HCN
  clear hCE
  obtain ⟨LF, hLF⟩ : ∃ LF, LF = cntL left := ⟨_, rfl⟩
  obtain ⟨OF, hOF⟩ : ∃ OF, OF = cntO left false := ⟨_, rfl⟩
  have HLF := Lib.hid hLF
  have HOF := Lib.hid hOF
  rw [← hLF, ← hOF] at HFD
  clear hLF hOF
  refine (callsIn_wide (n := 6)).1 ?_
  refine callsIn_of_wp_marks Try.func16 rfl trivial ?_ rfl
  simp only [Try.ntmps16, List.size_toArray, List.length_cons, List.length_nil, Nat.reduceAdd, Nat.reduceSub, Array.replicate_succ, Array.replicate_zero, List.push_toArray, List.append_toArray, List.nil_append, List.cons_append]
  refine wpIn_wide.2 ?_
  go_wp2_with fail
  rw [← hB1]
  clear hB1
  refine HON.out.mono ?_
  rintro en w1 ⟨rfl, rfl⟩
  go_wp2_with fail
  refine HCN.out.mono ?_
  rintro en w2 ⟨rfl, hs2⟩
  replace hs2 : Sep w0 w2 (cellsT B1 #[.pointer (some ⟨b, 0, none⟩)] 25 :: (devL b l (cntL left) (cntO left false) ++ L.eraseIdx i)) := hs2
  rw [← HLF.out, ← HOF.out] at hs2
  clear HCN y0
  have y0 := cell_of (hs2.cells 0 rfl) 0
  simp only [List.getElem?_toArray, List.getElem?_cons_zero] at y0
  go_wp2_with fail
  refine (rising_any b _).mono ?_
  rintro en w3 ⟨rfl, rfl⟩
  have hs3 := hs2.newCells #[.pointer (some ⟨b, 0, none⟩)] 25
  clear hs2 y0
  obtain ⟨Bd, hBd⟩ : ∃ Bd, Bd = w2.heap.size := ⟨_, rfl⟩
  rw [← hBd] at hs3 ⊢
  clear hBd
  go_wp2_with fail
  generalize World.alloc w2 _ = W3 at hs3 ⊢
  obtain ⟨bm, ⟨sa, sn, sc⟩, S, es, M⟩ := l
  have hSl : S.length = B.length := HOK.out.len
  obtain ⟨g, n3, eg, _⟩ := (hs3.recs (R := slR) (E := 41) (v := Sl.val ⟨sa, sn, sc⟩) (xs := S.map (·.1)) 3 rfl).get 0 (by rw [List.length_map, hSl]; exact HG.out.n0)
  injection eg with e1 e2 e3
  subst e1
  subst e3
  rw [List.length_map] at e2
  subst e2
  have HSL := Lib.hid hSl
  clear hSl
  dsimp only at HLE
  refine (wpIn_wide (n := 6)).1 ?_
  refine nameRF (m := 6) fun a0 ha0 => ?_
  refine wpIn_rangeX rfl (by decide) (gf := 37) (lb := #[.pointer (some ⟨Bd, 0, none⟩)]) (by rw [ha0]; rfl) trivial (enters_of Try.func37 (by kernel_rfl) rfl) encE (fun _ => rfl)
    (fun pre => cellsT Bd #[.pointer (some ⟨b, 0, none⟩)] 25 :: cellsT B1 #[.pointer (some ⟨b, 0, none⟩)] 25 :: (devL b ⟨bm, ⟨some ⟨g, 0, none⟩, S.length, sc⟩, stepS lastE pre 0 S, es, M⟩ LF OF ++ L.eraseIdx i)) hs3 (sortE es)
    (fun J W1 hJx hJs hJy h0 => rising1_in (6 - 1) (by decide) _ w0 Bd b bm 0 2 4 (.slice (some ⟨g, 0, none⟩) S.length sc) LF OF es (sortE es) _ (fun _ => rfl) (fun _ => rfl) (fun _ => rfl) HLE.out (sortE_perm _) (sortE_keys _) J W1 hJx hJs hJy h0)
    (fun x => { tmps := (((a0.tmps.setIfInBounds 18 (.int .i64 x.k)).setIfInBounds 19 x.s.val).setIfInBounds 5 (.int .i64 x.k)).setIfInBounds 6 x.s.val, defers := [] })
    ?assign ?body ?done
  case assign =>
    rintro l ⟨xk, ⟨xa, xn, xc⟩, c⟩ W K hK
    clear hs3
    subst ha0
    dsimp only [encE, Sl.val]
    gi_wp2
    exact hK
  case body =>
    rintro l DL o1 o2 X pre x W hpl hs
    clear hs3
    have hxm : x ∈ es := (sortE_perm es).mem_iff.1 (hpl.subset (by simp))
    obtain ⟨jx, hjx, hjx2⟩ := it_map hxm
    obtain ⟨g1, g2, g3, g4⟩ := HOK.out.es x hxm
    dsimp only at g1
    simp only [List.cons_append, List.append_assoc] at hs
    have y1 := cell_of (hs.cells 3 rfl) 0
    have c0 := cell_of (hs.cells 4 rfl) 0
    simp only [List.getElem?_toArray, List.getElem?_cons_zero] at y1 c0
    have hrow : RdG slR W x.s.val (x.c.map (·.1)) := by
      have := hs.rdRecs (R := slR) (E := 41) (v := (es[jx]).s.val) (xs := (es[jx]).c.map (·.1)) (jx + 3 + 4) (devL_row (b := b) (l := ⟨bm, ⟨some ⟨g, 0, none⟩, S.length, sc⟩, stepS lastE pre 0 S, es, M⟩) (left := LF) (off := OF) (R := L.eraseIdx i ++ X) hjx)
      rw [show es[jx] = x from hjx2] at this
      exact this
    clear hjx hjx2 jx
    have hsnoc := stepS_snoc lastE x pre 0 S
    have hSl := stepS_len lastE pre 0 S
    obtain ⟨SP, hSP⟩ : ∃ SP, SP = stepS lastE pre 0 S := ⟨_, rfl⟩
    rw [← hSP] at hs hsnoc hSl
    clear hSP
    obtain ⟨xk, ⟨xa, xn, xc⟩, c⟩ := x
    dsimp only at g1 g2 g3 g4 hrow hsnoc
    have hcl : 0 < c.length := List.length_pos_iff.2 g3
    have hle := hrow.le'
    rw [List.length_map] at hle
    obtain ⟨_, _, ex⟩ := hrow.shape
    injection ex with q1 ex q2
    clear q1 q2
    rw [List.length_map] at ex
    subst ex
    obtain ⟨bq, oq, eq, _, hc1⟩ := hrow.at (c.length - 1) (by rw [List.length_map]; omega)
    subst eq
    have z0 := hc1 0 (by decide)
    have hlast : c.length - 1 < c.length := by omega
    simp only [slR, List.getElem_map, List.getElem?_cons_zero, Nat.mul_one, Nat.add_zero] at z0
    obtain ⟨q, hq⟩ : ∃ q, q = c[c.length - 1] := ⟨_, rfl⟩
    rw [← hq] at z0
    have hlq : lastE (0 + pre.length) ⟨xk, ⟨some ⟨bq, oq, none⟩, c.length, xc⟩, c⟩ = some q := by
      unfold lastE
      dsimp only
      rw [List.getLast?_eq_getElem?, List.getElem?_eq_getElem hlast, hq]
    rw [hlq] at hsnoc
    have hkS : xk < SP.length := by rw [hSl, HSL.out]; exact g1
    have hkM : xk < (SP.map (·.1)).length := by rw [List.length_map]; exact hkS
    obtain ⟨gg, cg, eg, _, hcR, hfz⟩ := (hs.recs (R := slR) (E := 41) (v := Sl.val ⟨some ⟨g, 0, none⟩, S.length, sc⟩) (xs := SP.map (·.1)) 5 rfl).get xk hkM
    injection eg with eg q1 q2
    injection eg with eg
    injection eg with eg
    subst eg
    clear q1 q2
    have w0c := hcR xk hkM 0 (by decide)
    simp only [slR, Nat.mul_one, Nat.add_zero, List.getElem_map, List.getElem?_cons_zero] at w0c
    have hs4 := hs.setRow (R := slR) (E := 41) (g := g) (n := S.length) (cap := sc) (xs := SP.map (·.1)) 5 rfl xk hkM 0 (by decide) q.1 q.1.val rfl
    simp only [List.set_cons_succ, List.set_cons_zero] at hs4
    rw [show (SP.map (·.1)).set xk q.1 = (stepS lastE (pre ++ [⟨xk, ⟨some ⟨bq, oq, none⟩, c.length, xc⟩, c⟩]) 0 S).map (·.1) by rw [hsnoc]; unfold putS; rw [List.map_set]] at hs4
    simp only [slR, Nat.mul_one, Nat.add_zero] at hs4
    have HS4 := Lib.hid hs4.drew
    obtain ⟨wv, hw0⟩ : ∃ v, W.cell? ⟨g, xk, none⟩ = some v := ⟨_, w0c⟩
    clear w0c
    have hkI : (xk : Int) < S.length := by rw [HSL.out]; omega
    have hkN : xk < S.length := by rw [HSL.out]; exact g1
    have hclI : (0 : Int) < c.length := by omega
    obtain ⟨⟨qa, qn, qc⟩, qb⟩ := q
    dsimp only [Sl.val] at z0 c0
    have hdep : (Fence.inRound Fence.wide l).depth = none := rfl
    dsimp only [Sl.val]
    clear hs hs4 hcR hq hlq hsnoc hSl hkS hkM g2 g3 g4 hc1 hrow hxm hlast
    subst ha0
    gi_wp2_with fail
    refine MixI.region hdep [0, 0, 0, 0, 0, 0, 0, 0, 0, 0, 0, 0, 2] (fun _ => True) (by kernel_rfl) (by kernel_rfl) trivial ?_
    simp only [List.zip_cons_cons, List.zip_nil_right]
    iterate 12 (refine MixI.step0 fun K hK => ?_; go_simp; (try (go_bits; try go_simp)); first | ((with_reducible refine hK _ _ ?_); clear hK K) | ((try (simp only [IntWalk.iteOmega]; try go_simp)); (try go_bits); (with_reducible refine hK _ _ ?_); clear hK K))
    refine MixI.step2n (by first | rfl | simp [Region.wanted, yielded]) fun K hK => ?_
    gi_wp2_with fail
    refine MixI.post_mk (C := (fun _ => True)) trivial (hK _ _ ?_)
    clear hK K
    refine MixI.done ?_
    gi_wp2
    show Sep _ _ _
    simp only [List.cons_append, List.append_assoc]
    exact HS4.out
  case done =>
    rintro l DL o1 X W hs
    clear hs3
    simp only [List.cons_append, List.append_assoc] at hs
    have y1 := cell_of (hs.cells 3 rfl) 0
    have c1 := cell_of (hs.cells 4 rfl) 1
    simp only [List.getElem?_toArray, List.getElem?_cons_zero, List.getElem?_cons_succ] at y1 c1
    obtain ⟨W5, hclr, hs5⟩ := hs.mapClear (P := Try.prog) (e := 55) 6 (kf := Ent.key) (vf := Ent.val) (kk := .i64) (b := bm) (xs := es) rfl Try.underlying56
    have HD := Lib.hid (hs5.obj_ (D := DL) (o := .deferred (some [])) 1 rfl)
    have hs6 := hs5.putD (D := DL) (o := .deferred (some [])) (o' := .deferred none) 1 rfl
    simp only [List.set_cons_succ, List.set_cons_zero] at hs6
    have h6 := devL_end (b := b) (l := ⟨bm, ⟨some ⟨g, 0, none⟩, S.length, sc⟩, S, es, M⟩) (left := LF) (off := OF) (stepS lastE (sortE es) 0 S) hs6
    have HC := Lib.hid (Sep.devClose (d := ⟨B.map Blk.flush, LF, OF⟩) HHI.out h6 (flush_ok HOK.out LF OF))
    clear hs hs5 hs6 h6
    subst ha0
    go_wp2_with fail
    refine ⟨by simp, .inl ⟨_, _, rfl, run_takeDeferred HD.out, ?_⟩⟩
    exact ⟨.int .i64 CE, by simp [results, Try.results16, go_sem], by rw [HFE.out, HCE.out], by rw [HFD.out]; exact HC.out⟩
end
end Go.Proofs.Ytpjbafpbgacnkaa
