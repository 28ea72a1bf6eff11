/-
  The document's device: Read, Write.
-/
import Derived.Test.YtpjbafpbgacnkaaDvRef1
set_option linter.unusedVariables false
set_option linter.unusedSimpArgs false
namespace Go.Proofs.Ytpjbafpbgacnkaa
open Go Go.RowKit Go.Mem Go.DevP
attribute [local go_sem] Oper.semAt_some
theorem map_getD {rs : List (Sl × Blk)} {B : List Blk} (hB : rs.map (·.2) = B) {k : Nat} (hk : k < rs.length) : (rs[k]).2 = B.getD k default := by
  subst hB
  rw [List.getD_eq_getElem?_getD, List.getElem?_map, List.getElem?_eq_getElem hk]; rfl
section
variable {w0 w : World} {L : List Thing} {i b : Nat} {d : Dv}
theorem rread_any (hs : Sep w0 w L) (hi : L[i]? = some (refT b d)) (k : Int) :
    Calls Try.prog 25 #[.pointer (some ⟨b, 0, none⟩), .int .i64 k] w fun en w' => ∃ v A, en = .returned (.tuple #[v, .int .i64 (d.readE k)]) ∧ Sep w0 w' (A :: L) ∧ ConvA A v (strOfNums (d.readB k)) := by
  have HS0 := Lib.hid hs
  obtain ⟨v, rs, hB, hs⟩ := Sep.refOpen hs hi
  have c0 := cell_of (hs.cells 0 rfl) 0
  have c2 := cell_of (hs.cells 0 rfl) 2
  simp only [List.getElem?_toArray, List.getElem?_cons_zero, List.getElem?_cons_succ] at c0 c2
  obtain ⟨B, left, off⟩ := d
  dsimp only at hs hB c2
  have hlen : rs.length = B.length := by rw [← hB, List.length_map]
  obtain ⟨va, vc, ev⟩ := (hs.rdRecs (R := rbR) (E := 61) 1 rfl).shape
  subst ev
  have HHAS := Lib.hid (rhas_any hs (i := 0) rfl k)
  cases off
  rotate_left
  · clear hs
    go_enter Try.func25, Try.ntmps25
    go_wp2_with fail
    go_ret2
    exact ⟨_, _, rfl, HS0.out.nilInts .u8 5, convA_nil⟩
  cases hh : hasB B.length k
  · rw [hlen, hh] at HHAS
    have HRE := Lib.hid (show Dv.readE ⟨B, left, false⟩ k = 1 by simp [Dv.readE, hh])
    have HRB := Lib.hid (show Dv.readB ⟨B, left, false⟩ k = [] by simp [Dv.readB, hh])
    clear hs hh
    go_enter Try.func25, Try.ntmps25
    go_wp2_with fail
    refine HHAS.out.mono ?_
    rintro en w1 ⟨rfl, rfl⟩
    go_wp2_with fail
    go_ret2
    exact ⟨_, _, by rw [HRE.out]; rfl, HS0.out.nilInts .u8 5, by rw [HRB.out]; exact convA_nil⟩
  rw [hlen, hh] at HHAS
  have hk0 : 0 ≤ k ∧ k < B.length := by simpa [hasB] using hh
  obtain ⟨K_, rfl⟩ : ∃ K : Nat, k = K := ⟨k.toNat, by omega⟩
  have hKl : K_ < rs.length := by omega
  have HRE := Lib.hid (show Dv.readE ⟨B, left, false⟩ K_ = 0 by simp [Dv.readE, hh])
  have HRB := Lib.hid (show Dv.readB ⟨B, left, false⟩ K_ = (rs[K_]).2.stands by rw [map_getD hB hKl]; simp [Dv.readB, hh])
  obtain ⟨g, n3, eg, _, hcR, _⟩ := (hs.recs (R := rbR) (E := 61) (v := .slice va rs.length vc) (xs := rs) 1 rfl).get K_ hKl
  injection eg with e1 e2 e3
  subst e1
  subst e3
  clear e2
  have z0 := hcR K_ hKl 0 (by decide)
  have z1 := hcR K_ hKl 1 (by decide)
  simp only [rbR, Nat.add_zero, List.getElem?_cons_zero, List.getElem?_cons_succ] at z0 z1
  have HST := Lib.hid (rstands_any (rs[K_]) w (hs.rdRecs (R := strR) (E := 9) (K_ + 2) (refL_row hKl)))
  have hKI : (K_ : Int) < rs.length := by omega
  obtain ⟨q, hq⟩ : ∃ q, q = rs[K_] := ⟨_, rfl⟩
  rw [← hq] at z0 z1 HST HRB
  obtain ⟨⟨qa, qn, qc⟩, ⟨qs, ql⟩⟩ := q
  dsimp only at z0 z1 HST
  have hrn : rs.length ≤ maxLen := (hs.rdRecs (R := rbR) (E := 61) (v := .slice (some ⟨g, 0, none⟩) rs.length vc) (xs := rs) 1 rfl).le'
  simp only [maxLen] at hrn
  obtain ⟨s1, hs1⟩ : ∃ s1, s1 = strOfNums qs := ⟨_, rfl⟩
  obtain ⟨s2, hs2⟩ : ∃ s2, s2 = strOfNums (⟨qs, ql⟩ : Blk).stands := ⟨_, rfl⟩
  rw [← hs1] at z0 HST
  rw [← hs2] at HST
  have HS2 := Lib.hid hs2
  clear hs hq hh hcR hs1 hs2 hlen hB
  go_enter Try.func25, Try.ntmps25
  go_wp2_with fail
  refine HHAS.out.mono ?_
  rintro en w1 ⟨rfl, rfl⟩
  go_wp2_with fail
  refine HST.out.mono ?_
  rintro en w2 ⟨rfl, rfl⟩
  have hs := HS0.out.alloc (.cells #[.string s1, .slice qa qn qc] 61)
  generalize World.alloc w1 _ = W2 at hs ⊢
  have hs3 := (hs.drew).allocObj (.cells (bytesRow s2 (grownCap W2 s2.size 0 5)) 5 ((bytesRow s2 (grownCap W2 s2.size 0 5)).size, (bytesRow s2 (grownCap W2 s2.size 0 5)).size + 1))
  have HS3 := Lib.hid hs3
  have hbs := run_bytes_of_string (P := Try.prog) W2 9 41 5 s2 Try.underlying9 Try.underlying41 Try.underlying5
  obtain ⟨cp, hcp⟩ : ∃ cp, cp = grownCap W2 s2.size 0 5 := ⟨_, rfl⟩
  rw [← hcp] at hbs HS3
  clear hs hs3 hcp
  go_wp2_with fail
  go_ret2
  exact ⟨_, _, by rw [HRE.out]; rfl, HS3.out, by rw [HRB.out, ← HS2.out]; exact convA_new _ _ _ _⟩
end
theorem refL_put {b : Nat} {v : Value} {rs : List (Sl × Blk)} {left : Int} {off : Bool} {R : List Thing} {k : Nat} (hk : k < rs.length) (p : Sl × Blk) :
    ((refL b v rs left off ++ R).set (k + 2) (recT strR 9 p.1.val p.2.loose)).set 1 (recT rbR 61 v (rs.set k p)) = refL b v (rs.set k p) left off ++ R := by
  unfold refL
  simp only [List.cons_append, List.set_cons_succ, List.set_cons_zero]
  rw [rowsR_set, List.set_append_left _ _ (by unfold rowsR; rw [List.length_map]; exact hk)]
theorem Try.infoStrv : (Try.prog.info? 9).map (fun i => (i.zero, i.size, i.bytes)) = some (some (.string ByteArray.empty), 1, 16) := by kernel_rfl
section
variable {w0 w : World} {L : List Thing} {i b : Nat} {d : Dv}
set_option maxRecDepth 100000 in
set_option maxHeartbeats 4000000 in
theorem rwrite_any (hs : Sep w0 w L) (hi : L[i]? = some (refT b d)) (hg : d.Good) (k : Int) {j : Nat} {v : Value} {bs : List Int} (hne : j ≠ i) (hj : L[j]? = some (intsT .u8 5 v bs)) (hbig : d.Big 1000000) :
    Calls Try.prog 23 #[.pointer (some ⟨b, 0, none⟩), .int .i64 k, v] w fun en w' => en = .returned (.int .i64 (d.writeE k bs.length)) ∧ Sep w0 w' (L.set i (refT b (d.writeD k bs))) := by
  obtain ⟨i0, hi0, hz0, hz1, hz2⟩ := info_parts Try.infoStrv
  have HME := Lib.hid (mem_erase hj hne)
  obtain ⟨rv, rs, hB, hs1⟩ := Sep.refOpen hs hi
  have HHI := Lib.hid hi
  have HSET := Lib.hid (show Sep w0 w (L.set i (refT b d)) by rw [set_same hi]; exact hs)
  obtain ⟨av, cv, rfl⟩ := (hs.rdInts j hj).shape
  obtain ⟨B, left, off⟩ := d
  dsimp only at hs1 hB
  have c2 := cell_of (hs1.cells 0 rfl) 2
  simp only [List.getElem?_toArray, List.getElem?_cons_zero, List.getElem?_cons_succ] at c2
  cases off
  rotate_left
  · clear hs1 hs hg hi
    go_enter Try.func23, Try.ntmps23
    go_wp2_with fail
    go_ret
    exact ⟨rfl, HSET.out⟩
  have hlen : rs.length = B.length := by rw [← hB, List.length_map]
  obtain ⟨va, vc, ev⟩ := (hs1.rdRecs (R := rbR) (E := 61) 1 rfl).shape
  subst ev
  have HHAS := Lib.hid (rhas_any hs1 (i := 0) rfl k)
  rw [hlen] at HHAS
  cases hh : (Dv.mk B left false).mayW k bs.length
  · have HWE := Lib.hid (show Dv.writeE ⟨B, left, false⟩ k bs.length = 1 by simp [Dv.writeE, hh])
    have HWD := Lib.hid (show Dv.writeD ⟨B, left, false⟩ k bs = ⟨B, left, false⟩ by simp [Dv.writeD, hh])
    cases hb : hasB B.length k
    · rw [hb] at HHAS
      clear hs1 hs hg hi hh hb hlen hB
      go_enter Try.func23, Try.ntmps23
      go_wp2_with fail
      refine (HHAS.out).mono ?_
      rintro en w1 ⟨rfl, rfl⟩
      go_wp2_with fail
      go_ret
      exact ⟨by rw [HWE.out]; rfl, by rw [HWD.out]; exact HSET.out⟩
    · rw [hb] at HHAS
      have h5 : ¬ bs.length = 512 := by
        intro e
        simp [Dv.mayW, hb, e] at hh
      have e5 : (((bs.length : Nat) : Int) != 512) = true := by rw [bne_iff_ne]; omega
      clear hs1 hs hg hi hh hb h5 hlen hB
      go_enter Try.func23, Try.ntmps23
      go_wp2_with fail
      refine (HHAS.out).mono ?_
      rintro en w1 ⟨rfl, rfl⟩
      go_wp2_with fail
      go_ret
      exact ⟨by rw [HWE.out]; rfl, by rw [HWD.out]; exact HSET.out⟩
  obtain ⟨hb, h5⟩ : hasB B.length k = true ∧ bs.length = 512 := by simpa [Dv.mayW] using hh
  rw [hb] at HHAS
  have hk0 : 0 ≤ k ∧ k < B.length := by simpa [hasB] using hb
  obtain ⟨KB, rfl⟩ : ∃ KB : Nat, k = KB := ⟨k.toNat, by omega⟩
  have hKl : KB < rs.length := by omega
  have HWE := Lib.hid (show Dv.writeE ⟨B, left, false⟩ KB bs.length = cntE left by simp [Dv.writeE, hh])
  have HWD := Lib.hid (show Dv.writeD ⟨B, left, false⟩ KB bs = if left = 0 then (Dv.mk B left false).counted else (Dv.mk B left false).counted.put KB bs by simp [Dv.writeD, hh])
  have HGO := Lib.hid (rgoes_any hs1 (i := 0) rfl hg.left)
  have H5 := Lib.hid h5
  have e5 : (((bs.length : Nat) : Int) != 512) = false := by rw [h5]; rfl
  have hBK : (rs[KB]).2 = B.getD KB default := map_getD hB hKl
  have hbk := hbig (B.getD KB default) (by rw [List.getD_eq_getElem?_getD, List.getElem?_eq_getElem (by omega)]; exact List.getElem_mem _)
  have HB := Lib.hid hB
  clear hs hh hb hk0 hg hi h5 hlen hB
  by_cases hl0 : left = 0
  · subst hl0
    have HWD0 := Lib.hid (show Dv.writeD ⟨B, 0, false⟩ KB bs = (Dv.mk B 0 false).counted by rw [HWD.out, if_pos rfl])
    clear HWD hs1
    go_enter Try.func23, Try.ntmps23
    go_wp2_with fail
    refine (HHAS.out).mono ?_
    rintro en w1 ⟨rfl, rfl⟩
    go_wp2_with fail
    refine HGO.out.mono ?_
    rintro en w2 ⟨rfl, hs2⟩
    have HC := Lib.hid (Sep.refClose (d := (Dv.mk B 0 false).counted) HHI.out (v := .slice va rs.length vc) (rs := rs) hs2 HB.out)
    clear hs2
    go_wp2_with fail
    go_ret
    exact ⟨by rw [HWE.out]; rfl, by rw [HWD0.out]; exact HC.out⟩
  · have HCE := Lib.hid (show cntE left = 0 by unfold cntE; rw [if_neg hl0])
    have HWD2 := Lib.hid (show Dv.writeD ⟨B, left, false⟩ KB bs = (Dv.mk B left false).counted.put KB bs by rw [HWD.out, if_neg hl0])
    rw [show decide (left = 0) = false from decide_eq_false hl0] at HGO
    obtain ⟨LF, hLF⟩ : ∃ LF, LF = cntL left := ⟨_, rfl⟩
    obtain ⟨OF, hOF⟩ : ∃ OF, OF = cntO left false := ⟨_, rfl⟩
    have HLF := Lib.hid hLF
    have HOF := Lib.hid hOF
    rw [← hLF, ← hOF] at HGO
    clear hLF hOF HWD hl0
    obtain ⟨g, n3, eg, _, hcR, hfz⟩ := (hs1.recs (R := rbR) (E := 61) (v := .slice va rs.length vc) (xs := rs) 1 rfl).get KB hKl
    injection eg with e1 e2 e3
    subst e1
    subst e3
    clear e2 hcR hfz
    have HROW := Lib.hid (fun R : List Thing => refL_row (rb := b) (v := .slice (some ⟨g, 0, none⟩) rs.length vc) (rs := rs) (left := LF) (off := OF) (R := R) hKl)
    obtain ⟨q, hq⟩ : ∃ q, q = rs[KB] := ⟨_, rfl⟩
    have HQ := Lib.hid hq
    rw [← hq] at HROW hBK
    rw [← hBK] at hbk
    have hrn : rs.length ≤ maxLen := (hs1.rdRecs (R := rbR) (E := 61) (v := .slice (some ⟨g, 0, none⟩) rs.length vc) (xs := rs) 1 rfl).le'
    simp only [maxLen] at hrn
    obtain ⟨⟨qa, qn, qc⟩, ⟨qs, ql⟩⟩ := q
    have hqn : qn = ql.length := by
      obtain ⟨_, _, e⟩ := (hs1.rdRecs (R := strR) (E := 9) (KB + 2) (refL_row hKl)).shape
      rw [← hq] at e
      injection e
    subst hqn
    have HZ1 := Lib.hid (show ∀ (W : World) (L' : List Thing) (z : Nat), Sep w0 W L' → L'[z]? = some (recT rbR 61 (.slice (some ⟨g, 0, none⟩) rs.length vc) rs) → W.cell? ⟨g, KB * 2 + 1, none⟩ = some (.slice qa ql.length qc) from fun W L' z hz hz2 => by
      obtain ⟨g', n4, eg', _, hcR, _⟩ := (hz.recs (R := rbR) z hz2).get KB hKl
      injection eg' with e1
      injection e1 with e1
      injection e1 with e1
      subst e1
      have := hcR KB hKl 1 (by decide)
      rw [← HQ.out] at this
      exact this)
    have HF1 := Lib.hid (show ∀ (W : World) (L' : List Thing) (z : Nat), Sep w0 W L' → L'[z]? = some (recT rbR 61 (.slice (some ⟨g, 0, none⟩) rs.length vc) rs) → ∀ o, W.frozen? ⟨g, o, none⟩ = false from fun W L' z hz hz2 => by
      obtain ⟨g', n4, eg', _, _, hfz⟩ := (hz.recs (R := rbR) z hz2).get KB hKl
      injection eg' with e1
      injection e1 with e1
      injection e1 with e1
      subst e1
      exact hfz)
    dsimp only [Sl.val] at HROW hBK hbk
    clear hq hs1
    have hKI : (KB : Int) < rs.length := by omega
    go_enter Try.func23, Try.ntmps23
    go_wp2_with fail
    refine (HHAS.out).mono ?_
    rintro en w1 ⟨rfl, rfl⟩
    go_wp2_with fail
    refine HGO.out.mono ?_
    rintro en w2 ⟨rfl, hs2⟩
    replace hs2 : Sep w0 w2 (refL b (.slice (some ⟨g, 0, none⟩) rs.length vc) rs LF OF ++ L.eraseIdx i) := hs2
    have hs := hs2.drew
    clear hs2
    go_upto_region 7 with fail
    go_wp2_with fail
    have hconv := conv_rd (hs.rdMem (List.mem_append_right _ HME.out)) (by have := H5.out; omega)
    obtain ⟨sb, hsb⟩ : ∃ sb, sb = strOfNums bs := ⟨_, rfl⟩
    have HSB := Lib.hid hsb
    rw [← hsb] at hconv
    clear hsb
    have hCW : (fun W : World => W.cell? ⟨b, 0, none⟩ = some (.slice (some ⟨g, 0, none⟩) rs.length vc) ∧ W.cell? ⟨g, KB * 2 + 1, none⟩ = some (.slice qa ql.length qc)) w2.drew := ⟨cell_of (hs.cells 0 rfl) 0, HZ1.out _ _ 1 hs rfl⟩
    refine Mix.region2 19 [1, 1, 1, 1, 1, 1, 1, 1, 1, 1, 1, 1, 1, 0, 0, 2, 2, 0, 0, 2] (fun W : World => W.cell? ⟨b, 0, none⟩ = some (.slice (some ⟨g, 0, none⟩) rs.length vc) ∧ W.cell? ⟨g, KB * 2 + 1, none⟩ = some (.slice qa ql.length qc)) (by kernel_rfl) (by kernel_rfl) hCW ?_
    simp only [List.zip_cons_cons, List.zip_nil_right, List.take_succ_cons, List.take_zero, List.drop_succ_cons, List.drop_zero]
    (refine Mix.step1 fun K hK => ?_; go_simp; (try (go_bits; try go_simp)); first | ((with_reducible refine hK _ _ ?_); clear hK K) | ((try (simp only [IntWalk.iteOmega]; try go_simp)); (try go_bits); (with_reducible refine hK _ _ ?_); clear hK K))
    (refine Mix.step1 fun K hK => ?_; go_simp; (try (go_bits; try go_simp)); first | ((with_reducible refine hK _ _ ?_); clear hK K) | ((try (simp only [IntWalk.iteOmega]; try go_simp)); (try go_bits); (with_reducible refine hK _ _ ?_); clear hK K))
    (refine Mix.step1 fun K hK => ?_; go_simp; (try (go_bits; try go_simp)); first | ((with_reducible refine hK _ _ ?_); clear hK K) | ((try (simp only [IntWalk.iteOmega]; try go_simp)); (try go_bits); (with_reducible refine hK _ _ ?_); clear hK K))
    (refine Mix.step1 fun K hK => ?_; go_simp; refine ⟨fun W => ?_, hK _ _ ?_⟩; (intro hW1; (try intro hW2); (try intro hW3); (try intro hW4); (try intro hW5); (try intro hW6); (try intro hW7); (try intro hW8); go_simp); clear hK K)
    (refine Mix.step1 fun K hK => ?_; go_simp; (try (go_bits; try go_simp)); first | ((with_reducible refine hK _ _ ?_); clear hK K) | ((try (simp only [IntWalk.iteOmega]; try go_simp)); (try go_bits); (with_reducible refine hK _ _ ?_); clear hK K))
    (refine Mix.step1 fun K hK => ?_; go_simp; (try (go_bits; try go_simp)); first | ((with_reducible refine hK _ _ ?_); clear hK K) | ((try (simp only [IntWalk.iteOmega]; try go_simp)); (try go_bits); (with_reducible refine hK _ _ ?_); clear hK K))
    (refine Mix.step1 fun K hK => ?_; go_simp; (try (go_bits; try go_simp)); first | ((with_reducible refine hK _ _ ?_); clear hK K) | ((try (simp only [IntWalk.iteOmega]; try go_simp)); (try go_bits); (with_reducible refine hK _ _ ?_); clear hK K))
    (refine Mix.step1 fun K hK => ?_; go_simp; (try (go_bits; try go_simp)); first | ((with_reducible refine hK _ _ ?_); clear hK K) | ((try (simp only [IntWalk.iteOmega]; try go_simp)); (try go_bits); (with_reducible refine hK _ _ ?_); clear hK K))
    (refine Mix.step1 fun K hK => ?_; go_simp; refine ⟨fun W => ?_, hK _ _ ?_⟩; (intro hW1; (try intro hW2); (try intro hW3); (try intro hW4); (try intro hW5); (try intro hW6); (try intro hW7); (try intro hW8); go_simp); clear hK K)
    (refine Mix.step1 fun K hK => ?_; go_simp; (try (go_bits; try go_simp)); first | ((with_reducible refine hK _ _ ?_); clear hK K) | ((try (simp only [IntWalk.iteOmega]; try go_simp)); (try go_bits); (with_reducible refine hK _ _ ?_); clear hK K))
    (refine Mix.step1 fun K hK => ?_; go_simp; (try (go_bits; try go_simp)); first | ((with_reducible refine hK _ _ ?_); clear hK K) | ((try (simp only [IntWalk.iteOmega]; try go_simp)); (try go_bits); (with_reducible refine hK _ _ ?_); clear hK K))
    (refine Mix.step1 fun K hK => ?_; go_simp; (try (go_bits; try go_simp)); first | ((with_reducible refine hK _ _ ?_); clear hK K) | ((try (simp only [IntWalk.iteOmega]; try go_simp)); (try go_bits); (with_reducible refine hK _ _ ?_); clear hK K))
    (refine Mix.step1 fun K hK => ?_; go_simp; refine ⟨fun W => ?_, hK _ _ ?_⟩; (intro hW1; (try intro hW2); (try intro hW3); (try intro hW4); (try intro hW5); (try intro hW6); (try intro hW7); (try intro hW8); go_simp); clear hK K)
    iterate 2 (refine Mix.step0 fun K hK => ?_; go_simp; (try (go_bits; try go_simp)); first | ((with_reducible refine hK _ _ ?_); clear hK K) | ((try (simp only [IntWalk.iteOmega]; try go_simp)); (try go_bits); (with_reducible refine hK _ _ ?_); clear hK K))
    refine Mix.step2n (by first | rfl | simp [Region.wanted, yielded]) fun K hK => ?_
    go_wp2_with fail
    have hsa := hs.alloc (.cells #[.string sb] 9)
    have HB1 := Lib.hid (heap_alloc_new w2.drew (.cells #[.string sb] 9))
    clear hCW
    have hCW : (fun W : World => W.cell? ⟨b, 0, none⟩ = some (.slice (some ⟨g, 0, none⟩) rs.length vc) ∧ W.cell? ⟨g, KB * 2 + 1, none⟩ = some (.slice qa ql.length qc)) (w2.drew.alloc (.cells #[.string sb] 9)) := ⟨cell_of (hsa.cells 0 rfl) 0, HZ1.out _ _ 1 hsa rfl⟩
    refine Mix.post_mk (C := (fun W : World => W.cell? ⟨b, 0, none⟩ = some (.slice (some ⟨g, 0, none⟩) rs.length vc) ∧ W.cell? ⟨g, KB * 2 + 1, none⟩ = some (.slice qa ql.length qc))) (by first | exact hCW | exact HCW.out _) (hK _ _ ?_)
    clear hK K
    refine Mix.step2n (by first | rfl | simp [Region.wanted, yielded]) fun K hK => ?_
    refine wpList_appRecB strR rfl (.tmp 35) (.tmp 38) 59 rfl 9 i0 _ 16 Try.underlying59 hi0 hz0 hz1 hz2 rfl _ ql bs hsa (KB + 2) (HROW.out _) w2.heap.size _ (by rw [HSB.out]; rfl) HB1.out (by show Value.slice qa ql.length qc = _; rfl) rfl (by unfold maxLen; omega) (by omega) ?_
    intro v' w4 hs3 hsh
    obtain ⟨g', cap, rfl⟩ := hsh.out
    clear hsa hsh hCW HB1 hs
    have hCW : (fun W : World => W.cell? ⟨b, 0, none⟩ = some (.slice (some ⟨g, 0, none⟩) rs.length vc) ∧ W.cell? ⟨g, KB * 2 + 1, none⟩ = some (.slice qa ql.length qc)) w4 := ⟨cell_of (hs3.cells 0 rfl) 0, HZ1.out _ _ 1 hs3 rfl⟩
    have qf := HF1.out w4 _ 1 hs3 rfl
    have hs4 := hs3.setRow (R := rbR) 1 rfl KB hKl 1 (by decide) (⟨some ⟨g', 0, none⟩, ql.length + 1, cap⟩, (⟨qs, ql⟩ : Blk).add bs) (.slice (some ⟨g', 0, none⟩) (ql.length + 1) cap) (by rw [← HQ.out]; rfl)
    have hs5 := (refL_put hKl (⟨some ⟨g', 0, none⟩, ql.length + 1, cap⟩, (⟨qs, ql⟩ : Blk).add bs)) ▸ hs4
    have HS4 := Lib.hid hs5
    clear hs3 hs4 hs5
    go_wp2_with fail
    refine Mix.post_mk (C := (fun W : World => W.cell? ⟨b, 0, none⟩ = some (.slice (some ⟨g, 0, none⟩) rs.length vc) ∧ W.cell? ⟨g, KB * 2 + 1, none⟩ = some (.slice qa ql.length qc))) (by first | exact hCW | exact HCW.out _) (hK _ _ ?_)
    clear hK K
    iterate 2 (refine Mix.step0 fun K hK => ?_; go_simp; (try (go_bits; try go_simp)); first | ((with_reducible refine hK _ _ ?_); clear hK K) | ((try (simp only [IntWalk.iteOmega]; try go_simp)); (try go_bits); (with_reducible refine hK _ _ ?_); clear hK K))
    refine Mix.done ?_
    refine Mix.step2n (by first | rfl | simp [Region.wanted, yielded]) fun K hK => ?_
    go_wp2_with fail
    refine Mix.post_mk (C := (fun _ => True)) trivial (hK _ _ ?_)
    clear hK K
    refine Mix.done ?_
    go_wp2_with fail
    go_ret
    refine ⟨by rw [HWE.out, HCE.out]; rfl, ?_⟩
    rw [HWD2.out]
    have h6 := HS4.out
    rw [HLF.out, HOF.out] at h6
    refine Sep.refClose (d := (Dv.mk B left false).counted.put KB bs) HHI.out h6 ?_
    show _ = B.set KB ((B.getD KB default).add bs)
    rw [List.map_set, HB.out, ← hBK]
end
end Go.Proofs.Ytpjbafpbgacnkaa
