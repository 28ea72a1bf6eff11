/-
  Device.Read, walked.
-/
import Derived.Test.YtpjbafpbgacnkaaDvW2
set_option linter.unusedVariables false
set_option linter.unusedSimpArgs false
namespace Go.Proofs.Ytpjbafpbgacnkaa
open Go Go.RowKit Go.Mem Go.DevP
theorem keyedI : Maps.Keyed Try.prog 3 := Maps.int_keyed Try.underlying3
theorem zeroRows (u : World) : (zeroValue 55).run Try.prog u = .ok (.slice none 0 0) u := Try.zeroValue55 u
section
variable {w0 w : World} {R : List Thing} {b : Nat} {l : Lay} {d : Dv} {left : Int} {off : Bool}
theorem devL_row {j : Nat} (h : j < l.es.length) : (devL b l left off ++ R)[j + 3]? = some (recT slR 41 (l.es[j]).s.val ((l.es[j]).c.map (·.1))) := by
  unfold devL
  simp only [List.cons_append, List.getElem?_cons_succ, List.append_assoc]
  rw [List.getElem?_append_left (by unfold rowsL; rw [List.length_map]; exact h)]
  unfold rowsL
  rw [List.getElem?_map, List.getElem?_eq_getElem h]; rfl
theorem devL_pool {m : Nat} (h : m < l.M.length) : (devL b l left off ++ R)[l.es.length + m + 3]? = some (intsT .u8 5 (l.M[m]).1.val (l.M[m]).2) := by
  unfold devL
  simp only [List.cons_append, List.getElem?_cons_succ, List.append_assoc]
  rw [List.getElem?_append_right (by unfold rowsL; rw [List.length_map]; omega)]
  rw [List.getElem?_append_left (by rw [gridL_len]; unfold rowsL; rw [List.length_map]; omega)]
  rw [show l.es.length + m - (rowsL l.es 41).length = m by unfold rowsL; rw [List.length_map]; omega]
  exact gridL_at h
theorem pool_rd (hs : Sep w0 w (devL b l left off ++ R)) {p : Sl × List Int} (hp : p ∈ l.M) : Rd .u8 w p.1.val p.2 := by
  obtain ⟨m, hm, rfl⟩ := List.getElem_of_mem hp
  exact hs.rdInts _ (devL_pool hm)
/-- What a copy of it says. -/
theorem src_rd (hs : Sep w0 w (devL b l left off ++ R)) (ok : Ok l d) {p : Sl × List Int} (hp : InP l.M p) : ∃ ys, Rd .u8 w p.1.val ys ∧ ys.length ≤ 512 ∧ setAll zeros 0 ys = p.2 := by
  rcases hp with rfl | hp
  · exact ⟨[], Rd.nil _ _, by simp, rfl⟩
  · have h5 := (ok.m512 p hp).1
    exact ⟨p.2, pool_rd hs hp, by omega, setAll_full (by rw [zeros_len]; exact h5)⟩
/-- What a look-up of a block's loose things gives. -/
theorem look_dev (hs : Sep w0 w (devL b l left off ++ R)) (ok : Ok l d) {k : Nat} (hk : k < d.B.length) (hk2 : d.B.length ≤ 4096) :
    ∃ (s : Sl) (c : List (Sl × List Int)), (Instr.lookup 56 (.map (some l.bm)) (.int .i64 k) false).run Try.prog w = .ok s.val w ∧ RdG slR w s.val (c.map (·.1)) ∧ c.map (·.2) = (d.B.getD k default).loose ∧ ∀ p ∈ c, p ∈ l.M := by
  have hm : (devL b l left off ++ R)[2]? = some (dmapT .i64 Ent.key Ent.val l.bm l.es) := rfl
  by_cases h : ∃ e ∈ l.es, e.k = k
  · obtain ⟨e, he, rfl⟩ := h
    obtain ⟨j, hj, rfl⟩ := List.getElem_of_mem he
    obtain ⟨_, h2, _, h4⟩ := ok.es _ he
    refine ⟨(l.es[j]).s, (l.es[j]).c, ?_, hs.rdRecs _ (devL_row hj), h2.symm, h4⟩
    have := hs.lookYes (P := Try.prog) (e := 55) 2 hm keyedI Try.underlying3 Try.underlying56 false hj
    exact this
  · have hn : ∀ e ∈ l.es, e.k ≠ k := fun e he q => h ⟨e, he, q⟩
    refine ⟨⟨none, 0, 0⟩, [], ?_, RdG.nil _ _, (ok.no k hk hn).symm, fun p hp => by cases hp⟩
    have := hs.lookNo (P := Try.prog) (e := 55) 2 hm keyedI Try.underlying3 Try.underlying56 zeroRows false (id := (k : Int)) (WalkArith.wf_i64 (by omega)) (fun e he q => hn e he (by unfold Ent.key at q; omega))
    exact this
end
section
variable {w0 w : World} {L : List Thing} {i b : Nat} {d : Dv}
theorem read_nil (k : Int) (w : World) : Calls Try.prog 21 #[.pointer none, .int .i64 k] w fun en w' => en = .returned (.tuple #[.slice none 0 0, .int .i64 2]) ∧ w' = w := by
  go_enter Try.func21, Try.ntmps21
  go_wp2_with fail
  refine (on_nil _).mono ?_
  rintro en w1 ⟨rfl, rfl⟩
  go_wp2_with fail
  go_ret2
  exact ⟨rfl, rfl⟩
set_option maxRecDepth 100000 in
set_option maxHeartbeats 2000000 in
theorem read_any (hs : Sep w0 w L) (hi : L[i]? = some (devT b d)) (hg : d.Good) (k : Int) :
    Calls Try.prog 21 #[.pointer (some ⟨b, 0, none⟩), .int .i64 k] w fun en w' => ∃ v, en = .returned (.tuple #[v, .int .i64 (d.readE k)]) ∧ Sep w0 w' (intsT .u8 5 v (d.readB k) :: L) := by
  obtain ⟨i0, hi0, hz0, hz1, hz2⟩ := info_parts Try.infoU8v
  obtain ⟨l, ok, hs1⟩ := Sep.devOpen hs hi
  have HON := Lib.hid (on_any hs1 (i := 0) rfl)
  have HOK := Lib.hid ok
  have HG := Lib.hid hg
  have HHI := Lib.hid hi
  have HS0 := Lib.hid hs
  obtain ⟨B, left, off⟩ := d
  dsimp only at hs1
  cases off
  rotate_left
  · clear hs1 hs ok hg hi
    go_enter Try.func21, Try.ntmps21
    go_wp2_with fail
    refine (HON.out).mono ?_
    rintro en w1 ⟨rfl, rfl⟩
    go_wp2_with fail
    go_ret2
    exact ⟨_, rfl, HS0.out.nilInts _ _⟩
  have hlen := ok.len
  obtain ⟨a1, n1, es⟩ := (hs1.rdRecs (R := slR) (E := 41) 1 rfl).shape
  rw [List.length_map, hlen] at es
  dsimp only at es
  have HES := Lib.hid es
  have HS1 := Lib.hid hs1
  have HHAS := Lib.hid (has_any hs1 (i := 0) (a := a1) (n := B.length) (c := n1) (by rw [← es]; rfl) k)
  have c0 := cell_of (hs1.cells 0 rfl) 0
  have c1 := cell_of (hs1.cells 0 rfl) 1
  have c2 := cell_of (hs1.cells 0 rfl) 2
  have c3 := cell_of (hs1.cells 0 rfl) 3
  simp only [List.getElem?_toArray, List.getElem?_cons_zero, List.getElem?_cons_succ] at c0 c1 c2 c3
  rw [es] at c0
  have hn4 := hg.n1
  dsimp only at hn4
  cases hh : hasB B.length k
  · rw [hh] at HHAS
    have HRE := Lib.hid (show Dv.readE ⟨B, left, false⟩ k = 1 by simp [Dv.readE, hh])
    have HRB := Lib.hid (show Dv.readB ⟨B, left, false⟩ k = [] by simp [Dv.readB, hh])
    clear hs1 hs ok hg hi hh c0 c1 c2 c3 es
    go_enter Try.func21, Try.ntmps21
    go_wp2_with fail
    refine (HON.out).mono ?_
    rintro en w1 ⟨rfl, rfl⟩
    go_wp2_with fail
    refine (HHAS.out).mono ?_
    rintro en w1 ⟨rfl, rfl⟩
    go_wp2_with fail
    go_ret2
    exact ⟨_, by rw [HRE.out]; rfl, by rw [HRB.out]; exact HS0.out.nilInts _ _⟩
  rw [hh] at HHAS
  have hk0 : 0 ≤ k ∧ k < B.length := by simpa [hasB] using hh
  obtain ⟨K, rfl⟩ : ∃ K : Nat, k = K := ⟨k.toNat, by omega⟩
  have hKl : K < B.length := by omega
  have HRE := Lib.hid (show Dv.readE ⟨B, left, false⟩ K = 0 by simp [Dv.readE, hh])
  have HRB := Lib.hid (show Dv.readB ⟨B, left, false⟩ K = (B.getD K default).stands by simp [Dv.readB, hh])
  have hKS : K < l.S.length := by rw [hlen]; exact hKl
  obtain ⟨q1, q2⟩ := ok.sure K hKS
  dsimp only at q1
  have hrS := hs1.rdRecs (R := slR) (E := 41) 1 rfl
  rw [es] at hrS
  obtain ⟨b1, o1, e1, hbl, hc1⟩ := hrS.at K (by rw [List.length_map]; exact hKS)
  have x0 := hc1 0 (by decide)
  simp only [slR, List.getElem_map, List.getElem?_cons_zero, Nat.mul_one, Nat.add_zero] at x0
  subst e1
  obtain ⟨s, c, hlk, hrd, hc2, hcm⟩ := look_dev hs1 ok (k := K) hKl (by omega)
  dsimp only at hc2
  obtain ⟨p, hp⟩ : ∃ p, p = l.S[K] := ⟨_, rfl⟩
  rw [← hp] at q1 q2 x0
  clear hp hc1 hrS hh
  obtain ⟨⟨pa, pn, pc⟩, pb⟩ := p
  obtain ⟨sa, sn, sc⟩ := s
  dsimp only at q1 x0
  have hsn : sn = c.length := by obtain ⟨_, _, e⟩ := hrd.shape; injection e with _ e _; exact e.trans (List.length_map ..)
  subst hsn
  have hcl := hrd.le'
  rw [List.length_map] at hcl
  have hKI : (K : Int) < B.length := by omega
  have hbB : B.length ≤ 9223372036854775807 := by omega
  dsimp only [Sl.val] at hlk
  by_cases hc0 : c.length = 0
  · obtain rfl := List.eq_nil_of_length_eq_zero hc0
    have HST := Lib.hid (show Dv.readB ⟨B, left, false⟩ K = pb by rw [HRB.out]; unfold Blk.stands; rw [← hc2, ← q1]; rfl)
    have HIN := Lib.hid q2
    clear hs1 hs ok hg hi es q1 q2 hc2 hcm hrd
    go_enter Try.func21, Try.ntmps21
    go_wp2_with fail
    refine (HON.out).mono ?_
    rintro en w1 ⟨rfl, rfl⟩
    go_wp2_with fail
    refine (HHAS.out).mono ?_
    rintro en w1 ⟨rfl, rfl⟩
    go_wp2_with (at_make; refine wpList_makeInts rfl _ _ 41 rfl 5 i0 .u8 1 Try.underlying41 hi0 hz0 hz1 hz2 512 .i64 .i64 rfl rfl HS1.out ?m1a ?m2a ?m3a)
    case m1a => (try simp); (try simp only [maxLen]); (try omega)
    case m2a => (try simp); (try simp only [maxLen]); (try omega)
    case m3a =>
      intro w2 g hs2
      replace hs2 : Sep w0 w2 (intsT .u8 5 (.slice (some ⟨g, 0, none⟩) 512 512) zeros :: (devL b l left false ++ L.eraseIdx i)) := hs2
      obtain ⟨ys, hr, hl, he⟩ := src_rd (hs2.perm List.perm_middle.symm) HOK.out HIN.out
      have HE := Lib.hid he
      have HR := Lib.hid hr
      clear he hr
      go_wp2_with (refine wpList_copyInts rfl (.tmp 42) (.tmp 43) 41 41 .u8 rfl 5 i0 Try.underlying41 hi0 hz1 g 512 512 _ _ ys hs2 0 rfl HR.out ?n1a rfl rfl ?n2a)
      case n1a => rw [zeros_len]; exact hl
      case n2a =>
        intro w3 hs3
        (try simp only [List.set_cons_zero] at hs3)
        rw [HE.out, ← HST.out] at hs3
        clear hs2
        go_wp2_with fail
        go_ret2
        have h2 := Sep.devClose (d := ⟨B, left, false⟩) (L := _ :: L) (i := i + 1) HHI.out (hs3.perm List.perm_middle.symm) HOK.out
        rw [set_same (show (_ :: L)[i + 1]? = some (devT b ⟨B, left, false⟩) from HHI.out)] at h2
        exact ⟨_, by rw [HRE.out]; rfl, h2⟩
  · have hlast : c.length - 1 < c.length := by omega
    obtain ⟨b2, o2, e2, hbl2, hc3⟩ := hrd.at (c.length - 1) (by rw [List.length_map]; exact hlast)
    have x1 := hc3 0 (by decide)
    simp only [slR, List.getElem_map, List.getElem?_cons_zero, Nat.mul_one, Nat.add_zero] at x1
    subst e2
    obtain ⟨q, hq⟩ : ∃ q, q = c[c.length - 1] := ⟨_, rfl⟩
    have HST := Lib.hid (show Dv.readB ⟨B, left, false⟩ K = q.2 by
      rw [HRB.out]
      unfold Blk.stands
      rw [← hc2, List.getLastD_eq_getLast?, List.getLast?_eq_getElem?, List.length_map, List.getElem?_map, List.getElem?_eq_getElem hlast, ← hq]
      rfl)
    have HIN := Lib.hid (show InP l.M q from .inr (hcm q (by rw [hq]; exact List.getElem_mem _)))
    rw [← hq] at x1
    clear hq hs1 hs ok hg hi es q1 q2 hc2 hcm hrd hc3
    have hcI : (0 : Int) < c.length := by omega
    have hcN : 0 < c.length := by omega
    obtain ⟨⟨qa, qn, qc⟩, qb⟩ := q
    dsimp only at x1
    go_enter Try.func21, Try.ntmps21
    go_wp2_with fail
    refine (HON.out).mono ?_
    rintro en w1 ⟨rfl, rfl⟩
    go_wp2_with fail
    refine (HHAS.out).mono ?_
    rintro en w1 ⟨rfl, rfl⟩
    go_wp2_with (at_make; refine wpList_makeInts rfl _ _ 41 rfl 5 i0 .u8 1 Try.underlying41 hi0 hz0 hz1 hz2 512 .i64 .i64 rfl rfl HS1.out ?m1b ?m2b ?m3b)
    case m1b => (try simp); (try simp only [maxLen]); (try omega)
    case m2b => (try simp); (try simp only [maxLen]); (try omega)
    case m3b =>
      intro w2 g hs2
      replace hs2 : Sep w0 w2 (intsT .u8 5 (.slice (some ⟨g, 0, none⟩) 512 512) zeros :: (devL b l left false ++ L.eraseIdx i)) := hs2
      obtain ⟨ys, hr, hl, he⟩ := src_rd (hs2.perm List.perm_middle.symm) HOK.out HIN.out
      have HE := Lib.hid he
      have HR := Lib.hid hr
      clear he hr
      go_wp2_with (refine wpList_copyInts rfl (.tmp 42) (.tmp 43) 41 41 .u8 rfl 5 i0 Try.underlying41 hi0 hz1 g 512 512 _ _ ys hs2 0 rfl HR.out ?n1b rfl rfl ?n2b)
      case n1b => rw [zeros_len]; exact hl
      case n2b =>
        intro w3 hs3
        (try simp only [List.set_cons_zero] at hs3)
        rw [HE.out, ← HST.out] at hs3
        clear hs2
        go_wp2_with fail
        go_ret2
        have h2 := Sep.devClose (d := ⟨B, left, false⟩) (L := _ :: L) (i := i + 1) HHI.out (hs3.perm List.perm_middle.symm) HOK.out
        rw [set_same (show (_ :: L)[i + 1]? = some (devT b ⟨B, left, false⟩) from HHI.out)] at h2
        exact ⟨_, by rw [HRE.out]; rfl, h2⟩
end
end Go.Proofs.Ytpjbafpbgacnkaa
