/-
  The document's device: Comes.
-/
import Derived.Test.YtpjbafpbgacnkaaDvRef3
set_option linter.unusedVariables false
set_option linter.unusedSimpArgs false
namespace Go.DevP
open Go Go.Mem
theorem rank_step {B : List Blk} {k : Nat} (h : k < B.length) : rankB B (k + 1) = rankB B k + if (B.getD k default).loose = [] then 0 else 1 := by
  unfold rankB
  rw [List.take_add_one, List.getElem?_eq_getElem h, List.filter_append, List.length_append, List.getD_eq_getElem?_getD, List.getElem?_eq_getElem h]
  congr 1
  simp only [Option.toList, Option.getD]
  generalize B[k] = q
  obtain ⟨s, lo⟩ := q
  cases lo <;> simp
theorem rank_le (B : List Blk) (k : Nat) : rankB B k ≤ k := by
  unfold rankB
  refine Nat.le_trans (List.length_filter_le _ _) ?_
  rw [List.length_take]; omega
def cmF (ps : List Int) (B : List Blk) (k : Nat) (p : Sl × Blk) : Sl × Blk := if p.2.loose = [] then p else bare (p.2.comes (pickV ps (rankB B k) p.2.loose.length))
theorem cmF_end {ps : List Int} {rs : List (Sl × Blk)} {B : List Blk} (hB : rs.map (·.2) = B) : (upd (cmF ps B) rs rs.length).map (·.2) = comesB B ps := by
  have hl : rs.length = B.length := by rw [← hB, List.length_map]
  rw [upd_end]
  refine List.ext_getElem? fun k => ?_
  unfold comesB
  rw [List.getElem?_map, List.getElem?_mapIdx, List.getElem?_map]
  by_cases hk : k < rs.length
  · rw [List.getElem?_eq_getElem hk, List.getElem?_range (by omega)]
    simp only [Option.map_some]
    have e : B.getD k default = (rs[k]).2 := by
      subst hB
      rw [List.getD_eq_getElem?_getD, List.getElem?_map, List.getElem?_eq_getElem hk]; rfl
    rw [e]
    generalize rs[k] = p
    obtain ⟨s, ⟨su, lo⟩⟩ := p
    unfold cmF
    dsimp only
    split
    · next h0 =>
      subst h0
      have : pickV ps (rankB B k) 0 = 0 := by unfold pickV; exact Nat.mod_one _
      simp [Blk.comes, this]
    · rfl
  · rw [List.getElem?_eq_none (by omega), List.getElem?_eq_none (by rw [List.length_range]; omega)]; rfl
end Go.DevP
namespace Go.Proofs.Ytpjbafpbgacnkaa
open Go Go.RowKit Go.Mem Go.DevP
attribute [local go_sem] Oper.semAt_some
section
variable {w0 w : World} {L : List Thing} {i b : Nat} {d : Dv}
set_option maxRecDepth 100000 in
set_option maxHeartbeats 4000000 in
theorem rcomes_any (hs : Sep w0 w L) (hi : L[i]? = some (refT b d)) (hg : d.Good) (hbig : d.Big 1000000) (ps : List Int) (a : Option Addr) (n c : Nat) (hp : Rd .i64 w0 (.slice a n c) ps) :
    Calls Try.prog 28 #[.pointer (some ⟨b, 0, none⟩), .slice a n c] w fun en w' => en = .returned (.int .i64 d.comesE) ∧ Sep w0 w' (L.set i (refT b (d.comesD ps))) := by
  obtain ⟨rv, rs, hB, hs1⟩ := Sep.refOpen hs hi
  have HHI := Lib.hid hi
  have HSET := Lib.hid (show Sep w0 w (L.set i (refT b d)) by rw [set_same hi]; exact hs)
  have hn : n = ps.length := hp.len
  have hps := hp.le'
  rw [← hn] at hps
  have HN := Lib.hid hn
  clear hn
  obtain ⟨B, left, off⟩ := d
  dsimp only at hs1 hB
  have c2 := cell_of (hs1.cells 0 rfl) 2
  simp only [List.getElem?_toArray, List.getElem?_cons_zero, List.getElem?_cons_succ] at c2
  cases off
  · clear hs1 hs hg hi
    go_enter Try.func28, Try.ntmps28
    go_wp2_with fail
    go_ret
    exact ⟨rfl, HSET.out⟩
  have hlen : rs.length = B.length := by rw [← hB, List.length_map]
  have hn0 : 0 < rs.length := by have := hg.n0; dsimp only at this; omega
  have hn1 : rs.length ≤ 4096 := by have := hg.n1; dsimp only at this; omega
  obtain ⟨g, vc, eg, _⟩ := (hs1.recs (R := rbR) (E := 61) (v := rv) (xs := rs) 1 rfl).get 0 hn0
  subst eg
  have HB := Lib.hid hB
  have HBIG := Lib.hid hbig
  replace hs1 : Sep w0 w (refL b (.slice (some ⟨g, 0, none⟩) rs.length vc) (upd (cmF ps B) rs 0) left true ++ L.eraseIdx i) := by rw [upd_zero]; exact hs1
  clear hs hg hi hlen hB hbig
  go_enter Try.func28, Try.ntmps28
  go_wp2_with fail
  refine wp_loopM [none, none, none, none, none, some 5, some 6, some 7, some 8, some 9, none, none, none, none, some 14, some 15, some 16, some 17, some 18, some 19, some 20, some 21, some 22, some 23, some 24, some 25, some 26, some 27, some 28, some 29, some 30, some 31, some 32, some 33, some 34, some 35, some 36, some 37, some 38, some 39, some 40, some 41, some 42, some 43, some 44, some 45, some 46, some 47, some 48, some 49, some 50, some 51, some 52, some 53, some 54, some 55, some 56, some 57, some 58, some 59, some 60, some 61, some 62, some 63, some 64, some 65, some 66, some 67, some 68, some 69, some 70, some 71, some 72, some 73, some 74, some 75, some 76, some 77, none, none, none, none, none, none] (fun (r : Nat) (f : Nat → Value) (wr : World) => (fun (vn v : Value) => ∃ k : Nat, v = .int .i64 k ∧ vn = .int .i64 (rankB B k) ∧ k ≤ rs.length ∧ r = rs.length - k ∧ Sep w0 wr (refL b (.slice (some ⟨g, 0, none⟩) rs.length vc) (upd (cmF ps B) rs k) left true ++ L.eraseIdx i)) (f 5) (f 6)) (rs.length) (by kernel_rfl) ?atStart1 ?round1
  case' atStart1 => (try dsimp only [nthV])
  case' round1 =>
    intro gk f wr l hl hrel J1 K1 hJ1 hK1
    (try simp only [mask] at hl)
    generalize f 5 = u5 at hl hrel
    generalize f 6 = u6 at hl hrel
    subst hl
    (try dsimp only at hrel)
  case atStart1 => exact ⟨0, rfl, rfl, Nat.zero_le _, rfl, hs1⟩
  case round1 =>
    clear hs1 c2
    obtain ⟨k, rfl, rfl, hk, rfl, hs⟩ := hrel
    have c0 := cell_of (hs.cells 0 rfl) 0
    simp only [List.getElem?_toArray, List.getElem?_cons_zero, List.getElem?_cons_succ] at c0
    have hRK := rank_le B k
    by_cases hlt : k < rs.length
    · have hku : k < (upd (cmF ps B) rs k).length := by rw [upd_len]; exact hlt
      obtain ⟨g', n4, eg', _, hcR, hfz⟩ := (hs.recs (R := rbR) (E := 61) (v := .slice (some ⟨g, 0, none⟩) rs.length vc) (xs := upd (cmF ps B) rs k) 1 rfl).get k hku
      injection eg' with e1
      injection e1 with e1
      injection e1 with e1
      subst e1
      have z0 := hcR k hku 0 (by decide)
      have z1 := hcR k hku 1 (by decide)
      rw [upd_at hlt] at z0 z1
      simp only [rbR, Nat.add_zero, List.getElem?_cons_zero, List.getElem?_cons_succ] at z0 z1
      have hrow := hs.rdRecs (R := strR) (E := 9) (k + 2) (refL_row hku)
      rw [upd_at hlt] at hrow
      have hkB : k < B.length := by rw [← HB.out, List.length_map]; exact hlt
      have hBK := map_getD HB.out hlt
      have HRS := rank_step hkB
      rw [← hBK] at HRS
      have hlo : (rs[k]).2.loose.length ≤ 1000000 := by
        have h1 := HBIG.out (B.getD k default) (by rw [List.getD_eq_getElem?_getD, List.getElem?_eq_getElem hkB]; exact List.getElem_mem _)
        rw [← hBK] at h1
        exact h1
      have HCM := Lib.hid (show ∀ s, (rs[k]).2.loose ≠ [] → (if pickV ps (rankB B k) (rs[k]).2.loose.length = 0 then (rs[k]).2.sure else (rs[k]).2.loose.getD (pickV ps (rankB B k) (rs[k]).2.loose.length - 1) []) = s → cmF ps B k rs[k] = bare ⟨s, []⟩ from fun s h1 h2 => by
        unfold cmF
        rw [if_neg h1]
        unfold Blk.comes
        rw [h2])
      have HST := Lib.hid (show (rs[k]).2.loose = [] → upd (cmF ps B) rs (k + 1) = upd (cmF ps B) rs k from fun h => upd_stay hlt (by unfold cmF; rw [if_pos h]))
      obtain ⟨rk, hrk⟩ : ∃ rk, rk = rankB B k := ⟨_, rfl⟩
      have HRK := Lib.hid hrk
      rw [← hrk] at HRS HCM hRK
      rw [← hrk]
      have HRS := Lib.hid HRS
      clear hrk hBK
      have HUS := Lib.hid (upd_step (f := cmF ps B) hlt)
      obtain ⟨q, hq⟩ : ∃ q, q = rs[k] := ⟨_, rfl⟩
      rw [← hq] at z0 z1 HCM HST HRS HUS hrow hlo
      obtain ⟨⟨qa, qn, qc⟩, ⟨qs, ql⟩⟩ := q
      dsimp only [Sl.val] at z0 z1 hrow hlo HCM HST HRS
      obtain ⟨_, _, ex⟩ := hrow.shape
      injection ex with q1 ex q2
      clear q1 q2
      subst ex
      clear hq
      obtain ⟨u0, hu0⟩ : ∃ u, wr.cell? ⟨g, k * 2, none⟩ = some u := ⟨_, z0⟩
      have hkI : (k : Int) < rs.length := by omega
      by_cases hl0 : ql.length = 0
      · obtain rfl := List.eq_nil_of_length_eq_zero hl0
        have HRS2 := Lib.hid (HRS.out.trans (congrArg (rk + ·) (if_pos rfl)))
        clear hcR hrow HRS
        dsimp only [List.length_nil] at z1 hl0
        go_wp2_with fail
        refine Round.intro (rs.length - (k + 1)) ?measure2 (by kernel_rfl) (hJ1 _ _ _ ?rel2)
        case' rel2 => (try dsimp only [nthV])
        case measure2 => omega
        case rel2 => exact ⟨k + 1, by go_num, by rw [HRS2.out, Nat.add_zero], hlt, rfl, by rw [HST.out trivial]; exact hs⟩
      · have hne : ql ≠ [] := fun e => hl0 (by rw [e]; rfl)
        have HNE := Lib.hid hne
        have HRS2 := Lib.hid (HRS.out.trans (congrArg (rk + ·) (if_neg hne)))
        have hql : 0 < ql.length := by omega
        clear hcR HRS hne
        have e0 : ((ql.length : Int) == 0) = false := by simpa using hl0
        by_cases hrn : rk < n
        · obtain ⟨b2, o2, e2, _, x0⟩ := (hs.rd hp).at rk (by rw [← HN.out]; exact hrn)
          subst e2
          have hmod := pick_eq ps rk ql.length
          have hPle := pick_le ps rk ql.length
          obtain ⟨v, hv⟩ : ∃ v, v = ps.getD rk 0 := ⟨_, rfl⟩
          rw [← hv] at x0 hmod
          clear hv
          obtain ⟨PK, hPK⟩ : ∃ PK, PK = pickV ps rk ql.length := ⟨_, rfl⟩
          rw [← hPK] at hmod hPle HCM
          clear hPK
          have hrnI : (rk : Int) < n := by omega
          by_cases hk0 : PK = 0
          · subst hk0
            have hS3 := Sep.refSet hs hku (qs)
            have HS3 := Lib.hid (show Sep w0 _ (refL b (.slice (some ⟨g, 0, none⟩) rs.length vc) (upd (cmF ps B) rs (k + 1)) left true ++ L.eraseIdx i) from by
              rw [← HUS.out, HCM.out (qs) HNE.out (by rw [if_pos rfl])]
              exact hS3)
            clear hS3
            have hmod : max v 0 % ((ql.length : Int) + 1) = 0 := hmod
            clear hs hrow
            go_wp2_with fail
            refine Round.intro (rs.length - (k + 1)) ?measure3 (by kernel_rfl) (hJ1 _ _ _ ?rel3)
            case' rel3 => (try dsimp only [nthV])
            case measure3 => omega
            case rel3 => exact ⟨k + 1, by go_num, by rw [HRS2.out]; go_num, hlt, rfl, HS3.out⟩
          · obtain ⟨bq, oq, eq, _, hcq⟩ := hrow.at (PK - 1) (by omega)
            subst eq
            have zq := hcq 0 (by decide)
            have hlast : PK - 1 < ql.length := by omega
            simp only [strR, List.getElem?_cons_zero, Nat.mul_one, Nat.add_zero] at zq
            obtain ⟨x, hx⟩ : ∃ x, x = ql[PK - 1] := ⟨_, rfl⟩
            rw [← hx] at zq
            have hS3 := Sep.refSet hs hku (x)
            have HS3 := Lib.hid (show Sep w0 _ (refL b (.slice (some ⟨g, 0, none⟩) rs.length vc) (upd (cmF ps B) rs (k + 1)) left true ++ L.eraseIdx i) from by
              rw [← HUS.out, HCM.out (x) HNE.out (by rw [if_neg hk0, List.getD_eq_getElem?_getD, List.getElem?_eq_getElem hlast, ← hx]; rfl)]
              exact hS3)
            clear hS3
            have hPKI : (0 : Int) < PK := by omega
            clear hs hrow hcq hx
            go_wp2_with fail
            refine Round.intro (rs.length - (k + 1)) ?measure4 (by kernel_rfl) (hJ1 _ _ _ ?rel4)
            case' rel4 => (try dsimp only [nthV])
            case measure4 => omega
            case rel4 => exact ⟨k + 1, by go_num, by rw [HRS2.out]; go_num, hlt, rfl, HS3.out⟩
        · have HPK := Lib.hid (show pickV ps rk ql.length = 0 from pick_neg (.inr (by rw [← HN.out]; omega)))
          have hS3 := Sep.refSet hs hku (qs)
          have HS3 := Lib.hid (show Sep w0 _ (refL b (.slice (some ⟨g, 0, none⟩) rs.length vc) (upd (cmF ps B) rs (k + 1)) left true ++ L.eraseIdx i) from by
            rw [← HUS.out, HCM.out (qs) HNE.out (by rw [if_pos HPK.out])]
            exact hS3)
          clear hS3
          clear hs hrow
          go_wp2_with fail
          refine Round.intro (rs.length - (k + 1)) ?measure5 (by kernel_rfl) (hJ1 _ _ _ ?rel5)
          case' rel5 => (try dsimp only [nthV])
          case measure5 => omega
          case rel5 => exact ⟨k + 1, by go_num, by rw [HRS2.out]; go_num, hlt, rfl, HS3.out⟩
    · obtain rfl : rs.length = k := by omega
      have qf := fun j => frozen_of (hs.cells 0 rfl) j
      have hs2 := (hs.setC 0 rfl 2 (.bool true) #[.slice (some ⟨g, 0, none⟩) rs.length vc, .int .i64 left, .bool true] rfl).setC 0 rfl 1 (.int .i64 (-1)) #[.slice (some ⟨g, 0, none⟩) rs.length vc, .int .i64 (-1), .bool true] rfl
      have HC := Lib.hid (Sep.refClose (d := ⟨comesB B ps, -1, false⟩) HHI.out (v := .slice (some ⟨g, 0, none⟩) rs.length vc) (rs := upd (cmF ps B) rs rs.length) hs2 (cmF_end HB.out))
      have c1 := cell_of (hs.cells 0 rfl) 1
      have c2 := cell_of (hs.cells 0 rfl) 2
      simp only [List.getElem?_toArray, List.getElem?_cons_zero, List.getElem?_cons_succ] at c1 c2
      clear hs hs2
      go_wp2_with fail
      go_ret
      exact ⟨rfl, HC.out⟩
end
end Go.Proofs.Ytpjbafpbgacnkaa
