/-
  The document's device: Flush.
-/
import Derived.Test.YtpjbafpbgacnkaaDvRef2
set_option linter.unusedVariables false
set_option linter.unusedSimpArgs false
namespace Go.DevP
open Go Go.Mem
/-- The first of these are done. -/
def upd (f : Nat → Sl × Blk → Sl × Blk) (rs : List (Sl × Blk)) (i : Nat) : List (Sl × Blk) := rs.mapIdx fun k p => if k < i then f k p else p
theorem upd_len (f : Nat → Sl × Blk → Sl × Blk) (rs : List (Sl × Blk)) (i : Nat) : (upd f rs i).length = rs.length := by simp [upd]
theorem upd_zero (f : Nat → Sl × Blk → Sl × Blk) (rs : List (Sl × Blk)) : upd f rs 0 = rs := by
  refine List.ext_getElem? fun k => ?_
  simp [upd, List.getElem?_mapIdx]
theorem upd_at {f : Nat → Sl × Blk → Sl × Blk} {rs : List (Sl × Blk)} {i : Nat} (h : i < rs.length) : (upd f rs i)[i]'(by rw [upd_len]; exact h) = rs[i] := by
  simp [upd]
theorem upd_step {f : Nat → Sl × Blk → Sl × Blk} {rs : List (Sl × Blk)} {i : Nat} (h : i < rs.length) : (upd f rs i).set i (f i rs[i]) = upd f rs (i + 1) := by
  refine List.ext_getElem? fun k => ?_
  rw [List.getElem?_set]
  unfold upd
  rw [List.getElem?_mapIdx, List.getElem?_mapIdx, List.length_mapIdx]
  by_cases e : i = k
  · subst e
    rw [if_pos rfl, if_pos h, List.getElem?_eq_getElem h]
    simp
  · rw [if_neg e]
    cases hk : rs[k]? with
    | none => rfl
    | some p =>
      simp only [Option.map_some]
      by_cases q : k < i
      · rw [if_pos q, if_pos (by omega)]
      · rw [if_neg q, if_neg (by omega)]
theorem upd_stay {f : Nat → Sl × Blk → Sl × Blk} {rs : List (Sl × Blk)} {i : Nat} (h : i < rs.length) (hf : f i rs[i] = rs[i]) : upd f rs (i + 1) = upd f rs i := by
  rw [← upd_step h, hf, ← upd_at (f := f) h, List.set_getElem_self]
theorem upd_end {f : Nat → Sl × Blk → Sl × Blk} {rs : List (Sl × Blk)} : upd f rs rs.length = rs.mapIdx f := by
  refine List.ext_getElem? fun k => ?_
  unfold upd
  rw [List.getElem?_mapIdx, List.getElem?_mapIdx]
  cases hk : rs[k]? with
  | none => rfl
  | some p =>
    have : k < rs.length := (List.getElem?_eq_some_iff.1 hk).1
    simp [this]
/-- A block that has nothing loose. -/
def bare (b : Blk) : Sl × Blk := (⟨none, 0, 0⟩, ⟨b.sure, []⟩)
def flF (_ : Nat) (p : Sl × Blk) : Sl × Blk := bare p.2.flush
theorem flF_end {rs : List (Sl × Blk)} {B : List Blk} (hB : rs.map (·.2) = B) : (upd flF rs rs.length).map (·.2) = B.map Blk.flush := by
  subst hB
  rw [upd_end]
  refine List.ext_getElem? fun k => ?_
  rw [List.getElem?_map, List.getElem?_mapIdx, List.getElem?_map, List.getElem?_map]
  cases rs[k]? <;> rfl
end Go.DevP
namespace Go.Proofs.Ytpjbafpbgacnkaa
open Go Go.RowKit Go.Mem Go.DevP
attribute [local go_sem] Oper.semAt_some
section
variable {w0 w : World} {L : List Thing} {i b : Nat} {d : Dv}
theorem Sep.toNil {α : Type} {R : Rec α} {E : TypeId} {v : Value} {xs : List α} (h : Sep w0 w L) (i : Nat) (hi : L[i]? = some (recT R E v xs)) : Sep w0 w (L.set i (recT R E (.slice none 0 0) [])) :=
  h.swap i hi fun S hS => ⟨Go.Mem.Blk (.slice none 0 0), ⟨rfl, ROwn.nil R E w⟩, fun k hk => absurd hk (by simp [Go.Mem.Blk, Value.ownBlock])⟩
/-- A block is set anew. -/
theorem Sep.refSet {g vc n : Nat} {rs : List (Sl × Blk)} {left : Int} {off : Bool} {R : List Thing} (h : Sep w0 w (refL b (.slice (some ⟨g, 0, none⟩) n vc) rs left off ++ R)) {k : Nat} (hk : k < rs.length) (s : List Int) :
    Sep w0 ((w.setCell ⟨g, k * 2, none⟩ (.string (strOfNums s))).setCell ⟨g, k * 2 + 1, none⟩ (.slice none 0 0)) (refL b (.slice (some ⟨g, 0, none⟩) n vc) (rs.set k (bare ⟨s, []⟩)) left off ++ R) := by
  have h1 := h.setRow (R := rbR) 1 rfl k hk 0 (by decide) ((rs[k]).1, ⟨s, (rs[k]).2.loose⟩) (.string (strOfNums s)) rfl
  have h2 := h1.setRow (R := rbR) 1 rfl k (by rw [List.length_set]; exact hk) 1 (by decide) (bare ⟨s, []⟩) (.slice none 0 0) (by rw [List.getElem_set_self]; rfl)
  have h3 := Sep.toNil h2 (R := strR) (E := 9) (v := (rs[k]).1.val) (xs := (rs[k]).2.loose) (k + 2) (by
    rw [List.getElem?_set_ne (by omega), List.getElem?_set_ne (by omega)]
    exact refL_row hk)
  have e : ((((refL b (.slice (some ⟨g, 0, none⟩) n vc) rs left off ++ R).set 1 (recT rbR 61 (.slice (some ⟨g, 0, none⟩) n vc) (rs.set k ((rs[k]).1, ⟨s, (rs[k]).2.loose⟩)))).set 1 (recT rbR 61 (.slice (some ⟨g, 0, none⟩) n vc) ((rs.set k ((rs[k]).1, ⟨s, (rs[k]).2.loose⟩)).set k (bare ⟨s, []⟩)))).set (k + 2) (recT strR 9 (.slice none 0 0) [])) = refL b (.slice (some ⟨g, 0, none⟩) n vc) (rs.set k (bare ⟨s, []⟩)) left off ++ R := by
    rw [List.set_set, List.set_set, List.set_comm _ _ (by omega)]
    exact refL_put hk (bare ⟨s, []⟩)
  exact e ▸ h3
set_option maxRecDepth 100000 in
set_option maxHeartbeats 4000000 in
theorem rflush_any (hs : Sep w0 w L) (hi : L[i]? = some (refT b d)) (hg : d.Good) :
    Calls Try.prog 24 #[.pointer (some ⟨b, 0, none⟩)] w fun en w' => en = .returned (.int .i64 d.flushE) ∧ Sep w0 w' (L.set i (refT b d.flushD)) := by
  obtain ⟨rv, rs, hB, hs1⟩ := Sep.refOpen hs hi
  have HHI := Lib.hid hi
  have HSET := Lib.hid (show Sep w0 w (L.set i (refT b d)) by rw [set_same hi]; exact hs)
  obtain ⟨B, left, off⟩ := d
  dsimp only at hs1 hB
  have c2 := cell_of (hs1.cells 0 rfl) 2
  simp only [List.getElem?_toArray, List.getElem?_cons_zero, List.getElem?_cons_succ] at c2
  cases off
  rotate_left
  · clear hs1 hs hg hi
    go_enter Try.func24, Try.ntmps24
    go_wp2_with fail
    go_ret
    exact ⟨rfl, HSET.out⟩
  have hlen : rs.length = B.length := by rw [← hB, List.length_map]
  have hn0 : 0 < rs.length := by have := hg.n0; dsimp only at this; omega
  have hn1 : rs.length ≤ 4096 := by have := hg.n1; dsimp only at this; omega
  have HGO := Lib.hid (rgoes_any hs1 (i := 0) rfl hg.left)
  obtain ⟨g, vc, eg, _⟩ := (hs1.recs (R := rbR) (E := 61) (v := rv) (xs := rs) 1 rfl).get 0 hn0
  subst eg
  have HB := Lib.hid hB
  clear hs1 hs hg hi hlen hB
  by_cases hl0 : left = 0
  · subst hl0
    go_enter Try.func24, Try.ntmps24
    go_wp2_with fail
    refine HGO.out.mono ?_
    rintro en w2 ⟨rfl, hs2⟩
    have HC := Lib.hid (Sep.refClose (d := (Dv.mk B 0 false).counted) HHI.out (v := .slice (some ⟨g, 0, none⟩) rs.length vc) (rs := rs) hs2 HB.out)
    clear hs2
    go_wp2_with fail
    go_ret
    exact ⟨rfl, HC.out⟩
  have HFE := Lib.hid (show (Dv.mk B left false).flushE = 0 by simp [Dv.flushE, cntE, hl0])
  have HFD := Lib.hid (show (Dv.mk B left false).flushD = ⟨B.map Blk.flush, cntL left, cntO left false⟩ by simp [Dv.flushD, hl0, Dv.counted])
  rw [show decide (left = 0) = false from decide_eq_false hl0] at HGO
  obtain ⟨LF, hLF⟩ : ∃ LF, LF = cntL left := ⟨_, rfl⟩
  obtain ⟨OF, hOF⟩ : ∃ OF, OF = cntO left false := ⟨_, rfl⟩
  rw [← hLF, ← hOF] at HGO HFD
  clear hLF hOF hl0
  go_enter Try.func24, Try.ntmps24
  go_wp2_with fail
  refine HGO.out.mono ?_
  rintro en w2 ⟨rfl, hs2⟩
  replace hs2 : Sep w0 w2 (refL b (.slice (some ⟨g, 0, none⟩) rs.length vc) (upd flF rs 0) LF OF ++ L.eraseIdx i) := by rw [upd_zero]; exact hs2
  go_wp2_with fail
  refine wp_loopM [none, none, none, some 3, none, none, none, none, none, none, none, none, none, some 13, some 14, some 15, some 16, some 17, some 18, some 19, some 20, some 21, some 22, some 23, some 24, some 25, some 26, some 27, some 28, some 29, some 30, some 31, some 32, some 33, some 34, some 35, some 36] (fun (r : Nat) (f : Nat → Value) (wr : World) => (fun (v : Value) => ∃ k : Nat, v = .int .i64 k ∧ k ≤ rs.length ∧ r = rs.length - k ∧ Sep w0 wr (refL b (.slice (some ⟨g, 0, none⟩) rs.length vc) (upd flF rs k) LF OF ++ L.eraseIdx i)) (f 3)) (rs.length) (by kernel_rfl) ?atStart1 ?round1
  case' atStart1 => (try dsimp only [nthV])
  case' round1 =>
    intro gk f wr l hl hrel J1 K1 hJ1 hK1
    (try simp only [mask] at hl)
    generalize f 3 = u3 at hl hrel
    subst hl
    (try dsimp only at hrel)
  case atStart1 => exact ⟨0, rfl, Nat.zero_le _, rfl, hs2⟩
  case round1 =>
    clear hs2 HGO c2
    obtain ⟨k, rfl, hk, rfl, hs⟩ := hrel
    have c0 := cell_of (hs.cells 0 rfl) 0
    simp only [List.getElem?_toArray, List.getElem?_cons_zero, List.getElem?_cons_succ] at c0
    by_cases hlt : k < rs.length
    · have hku : k < (upd flF rs k).length := by rw [upd_len]; exact hlt
      obtain ⟨g', n4, eg', _, hcR, hfz⟩ := (hs.recs (R := rbR) (E := 61) (v := .slice (some ⟨g, 0, none⟩) rs.length vc) (xs := upd flF rs k) 1 rfl).get k hku
      injection eg' with e1
      injection e1 with e1
      injection e1 with e1
      subst e1
      have z0 := hcR k hku 0 (by decide)
      have z1 := hcR k hku 1 (by decide)
      rw [upd_at hlt] at z0 z1
      simp only [rbR, Nat.add_zero, List.getElem?_cons_zero, List.getElem?_cons_succ] at z0 z1
      have HST := Lib.hid (rstands_any ((upd flF rs k)[k]) wr.drew ((hs.drew).rdRecs (R := strR) (E := 9) (k + 2) (refL_row hku)))
      rw [upd_at hlt] at HST
      have HSTEP := Lib.hid (upd_step (f := flF) hlt)
      obtain ⟨q, hq⟩ : ∃ q, q = rs[k] := ⟨_, rfl⟩
      rw [← hq] at z0 z1 HST HSTEP
      obtain ⟨⟨qa, qn, qc⟩, ⟨qs, ql⟩⟩ := q
      dsimp only at z0 z1 HST
      clear hcR hq
      have hkI : (k : Int) < rs.length := by omega
      have hS := hs.drew
      have hCW : (fun W : World => W.cell? ⟨b, 0, none⟩ = some (.slice (some ⟨g, 0, none⟩) rs.length vc)) wr.drew := c0
      go_wp2_with fail
      refine Mix.region2 15 [1, 1, 1, 1, 1, 0, 0, 0, 0, 0, 0, 0, 2, 0, 0, 2] (fun W : World => W.cell? ⟨b, 0, none⟩ = some (.slice (some ⟨g, 0, none⟩) rs.length vc)) (by kernel_rfl) (by kernel_rfl) hCW ?_
      simp only [List.zip_cons_cons, List.zip_nil_right, List.take_succ_cons, List.take_zero, List.drop_succ_cons, List.drop_zero]
      (refine Mix.step1 fun K hK => ?_; go_simp; (try (go_bits; try go_simp)); first | ((with_reducible refine hK _ _ ?_); clear hK K) | ((try (simp only [IntWalk.iteOmega]; try go_simp)); (try go_bits); (with_reducible refine hK _ _ ?_); clear hK K))
      (refine Mix.step1 fun K hK => ?_; go_simp; (try (go_bits; try go_simp)); first | ((with_reducible refine hK _ _ ?_); clear hK K) | ((try (simp only [IntWalk.iteOmega]; try go_simp)); (try go_bits); (with_reducible refine hK _ _ ?_); clear hK K))
      (refine Mix.step1 fun K hK => ?_; go_simp; (try (go_bits; try go_simp)); first | ((with_reducible refine hK _ _ ?_); clear hK K) | ((try (simp only [IntWalk.iteOmega]; try go_simp)); (try go_bits); (with_reducible refine hK _ _ ?_); clear hK K))
      (refine Mix.step1 fun K hK => ?_; go_simp; refine ⟨fun W => ?_, hK _ _ ?_⟩; (intro hW1; (try intro hW2); (try intro hW3); (try intro hW4); (try intro hW5); (try intro hW6); (try intro hW7); (try intro hW8); go_simp); clear hK K)
      (refine Mix.step1 fun K hK => ?_; go_simp; (try (go_bits; try go_simp)); first | ((with_reducible refine hK _ _ ?_); clear hK K) | ((try (simp only [IntWalk.iteOmega]; try go_simp)); (try go_bits); (with_reducible refine hK _ _ ?_); clear hK K))
      iterate 7 (refine Mix.step0 fun K hK => ?_; go_simp; (try (go_bits; try go_simp)); first | ((with_reducible refine hK _ _ ?_); clear hK K) | ((try (simp only [IntWalk.iteOmega]; try go_simp)); (try go_bits); (with_reducible refine hK _ _ ?_); clear hK K))
      refine Mix.step2n (by first | rfl | simp [Region.wanted, yielded]) fun K hK => ?_
      go_wp2_with fail
      refine (HST.out).mono ?_
      rintro en w3 ⟨rfl, rfl⟩
      have hS2 := hS.alloc (.cells #[.string (strOfNums qs), .slice qa qn qc] 61)
      generalize World.alloc wr.drew _ = W3 at hS2 ⊢
      have hCW : (fun W : World => W.cell? ⟨b, 0, none⟩ = some (.slice (some ⟨g, 0, none⟩) rs.length vc)) W3 := cell_of (hS2.cells 0 rfl) 0
      obtain ⟨g', n4, eg', _, hcR3, hfz3⟩ := (hS2.recs (R := rbR) (E := 61) (v := .slice (some ⟨g, 0, none⟩) rs.length vc) (xs := upd flF rs k) 1 rfl).get k hku
      injection eg' with e1
      injection e1 with e1
      injection e1 with e1
      subst e1
      have y0 := hcR3 k hku 0 (by decide)
      have y1 := hcR3 k hku 1 (by decide)
      simp only [rbR, Nat.add_zero, List.getElem?_cons_zero, List.getElem?_cons_succ] at y0 y1
      obtain ⟨u0, hu0⟩ : ∃ u, W3.cell? ⟨g, k * 2, none⟩ = some u := ⟨_, y0⟩
      obtain ⟨u1, hu1⟩ : ∃ u, W3.cell? ⟨g, k * 2 + 1, none⟩ = some u := ⟨_, y1⟩
      have hS3 := Sep.refSet hS2 hku (Blk.stands ⟨qs, ql⟩)
      have HS3 := Lib.hid (show Sep w0 _ (refL b (.slice (some ⟨g, 0, none⟩) rs.length vc) (upd flF rs (k + 1)) LF OF ++ L.eraseIdx i) from HSTEP.out ▸ hS3)
      obtain ⟨s2, hs2⟩ : ∃ s2, s2 = strOfNums (Blk.stands ⟨qs, ql⟩) := ⟨_, rfl⟩
      rw [← hs2] at HS3 ⊢
      clear hs2 hS3 hS2 hcR3 y0 y1 hS hs
      go_wp2_with fail
      refine Mix.post_mk (C := (fun W : World => W.cell? ⟨b, 0, none⟩ = some (.slice (some ⟨g, 0, none⟩) rs.length vc))) (by first | exact hCW | exact HCW.out _) (hK _ _ ?_)
      clear hK K
      iterate 2 (refine Mix.step0 fun K hK => ?_; go_simp; (try (go_bits; try go_simp)); first | ((with_reducible refine hK _ _ ?_); clear hK K) | ((try (simp only [IntWalk.iteOmega]; try go_simp)); (try go_bits); (with_reducible refine hK _ _ ?_); clear hK K))
      refine Mix.done ?_
      refine Mix.step2n (by first | rfl | simp [Region.wanted, yielded]) fun K hK => ?_
      go_wp2_with fail
      refine Mix.post_mk (C := (fun _ => True)) trivial (hK _ _ ?_)
      clear hK K
      refine Mix.done ?_
      go_wp2_with fail
      refine Round.intro (rs.length - (k + 1)) ?measure2 (by kernel_rfl) (hJ1 _ _ _ ?rel2)
      case' rel2 => (try dsimp only [nthV])
      case measure2 => omega
      case rel2 => exact ⟨k + 1, by go_num, hlt, rfl, HS3.out⟩
    · obtain rfl : rs.length = k := by omega
      have HC := Lib.hid (Sep.refClose (d := ⟨B.map Blk.flush, LF, OF⟩) HHI.out hs (flF_end HB.out))
      clear hs
      go_wp2_with fail
      go_ret
      exact ⟨by rw [HFE.out]; rfl, by rw [HFD.out]; exact HC.out⟩
end
end Go.Proofs.Ytpjbafpbgacnkaa
