/-
  PathsLeast, walked.
-/
import Derived.Test.YtfafecgnjjkagaaPTightW
import Derived.Test.YtfafecgnjjkagaaRA
import Derived.Test.YtfafecgnjjkagaaLC
namespace Go.Proofs.Ytfafecgnjjkagaa
open Go Go.RowKit Go.Mem Go.NetP Go.RestP Go.CertP Go.PathP Go.Shelf
/-- What the operations that lay the nodes and one more make. -/
def lsP (zs : List Int) (q : Int) (dn : Nat → Bool) (v : Nat → Value) : List Thing :=
  (if dn 3 && !dn 5 then [intsT .i64 3 (v 3) []] else []) ++ ((if dn 5 && !dn 8 then [intsT .i64 3 (v 5) zs] else []) ++ ((if dn 7 && !dn 8 then [intsT .i64 3 (v 7) [q]] else []) ++ (if dn 8 then [intsT .i64 3 (v 8) (zs ++ [q])] else [])))
def lsT (zs : List Int) (q : Int) (L0 : List Thing) (dn : Nat → Bool) (v : Nat → Value) : List Thing := lsP zs q dn v ++ L0
theorem lsT_at (zs : List Int) (q : Int) (L0 : List Thing) (dn : Nat → Bool) (v : Nat → Value) (j : Nat) : (lsT zs q L0 dn v)[(lsP zs q dn v).length + j]? = L0[j]? := by
  unfold lsT
  rw [List.getElem?_append_right (by omega)]
  congr 1; omega
structure LsF (va vf vp vz : Value) (q : Int) (dn : Nat → Bool) (v : Nat → Value) : Prop where
  f0 : dn 0 = true → v 0 = va
  f1 : dn 1 = true → v 1 = vf
  f2 : dn 2 = true → v 2 = vp
  f4 : dn 4 = true → v 4 = vz
  f6 : dn 6 = true → v 6 = .int .i64 q
theorem LsF.more {va vf vp vz : Value} {q : Int} {dn : Nat → Bool} {v : Nat → Value} (h : LsF va vf vp vz q dn v) (i : Nat) (x : Value) (h0 : i = 0 → x = va) (h1 : i = 1 → x = vf) (h2 : i = 2 → x = vp) (h4 : i = 4 → x = vz) (h6 : i = 6 → x = .int .i64 q) : LsF va vf vp vz q (Mix3.more dn i) (Mix3.updV v i x) := by
  refine ⟨fun d => ?_, fun d => ?_, fun d => ?_, fun d => ?_, fun d => ?_⟩ <;> (unfold Mix3.more at d; unfold Mix3.updV; split)
  · exact h0 ‹_›
  · exact h.f0 (by rename_i q; simpa [Ne.symm q] using d)
  · exact h1 ‹_›
  · exact h.f1 (by rename_i q; simpa [Ne.symm q] using d)
  · exact h2 ‹_›
  · exact h.f2 (by rename_i q; simpa [Ne.symm q] using d)
  · exact h4 ‹_›
  · exact h.f4 (by rename_i q; simpa [Ne.symm q] using d)
  · exact h6 ‹_›
  · exact h.f6 (by rename_i q; simpa [Ne.symm q] using d)
theorem lsT_same {zs : List Int} {q : Int} {L0 : List Thing} {dn : Nat → Bool} {v : Nat → Value} (i : Nat) (x : Value) (h3 : i ≠ 3) (h5 : i ≠ 5) (h7 : i ≠ 7) (h8 : i ≠ 8) : lsT zs q L0 (Mix3.more dn i) (Mix3.updV v i x) = lsT zs q L0 dn v := by
  have e : ∀ k, i ≠ k → Mix3.more dn i k = dn k ∧ Mix3.updV v i x k = v k := fun k hk => ⟨by unfold Mix3.more; rw [show (k == i) = false by simpa using Ne.symm hk, Bool.or_false], Mix3.updV_ne v x hk⟩
  unfold lsT lsP
  rw [(e 3 h3).1, (e 5 h5).1, (e 7 h7).1, (e 8 h8).1, (e 3 h3).2, (e 5 h5).2, (e 7 h7).2, (e 8 h8).2]
set_option maxRecDepth 100000 in
set_option maxHeartbeats 6000000 in
theorem pathsLeast_any (n : Int) (a : Option Addr) (c : Nat) (es : List Ed) (vf : Value) (fl : List Int) (vp : Value) (pot : List Int) (vz : Value) (zs : List Int) (q : Int) (w : World) (h : RdG edR w (.slice a es.length c) es) (hf : Rd .i64 w vf fl) (hp : Rd .i64 w vp pot) (hz : Rd .i64 w vz zs) :
    Calls Try.prog 5 #[.agg #[.int .i64 n, .slice a es.length c], vf, vp, vz, .int .i64 q] w fun en w' => en = .returned (.bool true) ∧ Below w.heap.size w w' := by
  have hlf := hf.le'
  have hlz := hz.le'
  obtain ⟨j0, hj0, hy0, hy1, hy2⟩ := info_parts Try.infoIntw
  obtain ⟨af, cf, rfl⟩ := hf.shape
  obtain ⟨ap, cp, rfl⟩ := hp.shape
  obtain ⟨az, cz, rfl⟩ := hz.shape
  have hs := (Sep.start w).newCells #[.int .i64 n, .slice a es.length c] 24
  by_cases h1 : fewN n es.length = false
  · have HF := Lib.hid h1
    clear h1
    go_enter Try.func5, Try.ntmps5
    go_wp2_with fail
    refine (few_any n a es.length c _ h.le').mono ?_
    rintro en w1 ⟨rfl, hb⟩
    rw [HF.out]
    replace hs := hs.belowStep hb
    clear hb
    have n0 := cell_of (hs.cells 0 rfl) 0
    have n1 := cell_of (hs.cells 0 rfl) 1
    simp only [List.getElem?_toArray, List.getElem?_cons_zero, List.getElem?_cons_succ] at n0 n1
    go_wp2_with fail
    refine (pworks_any _).mono ?_
    rintro en wz ⟨rfl, hb⟩
    go_wp2_with fail
    go_ret
    exact ⟨rfl, (hs.belowStep hb).below⟩
  have HF := Lib.hid (show fewN n es.length = true by simpa using h1)
  clear h1
  by_cases h2 : 100 < zs.length
  · have d2 : decide (100 < (zs.length : Int)) = true := decide_eq_true (by omega)
    go_enter Try.func5, Try.ntmps5
    go_wp2_with fail
    refine (few_any n a es.length c _ h.le').mono ?_
    rintro en w1 ⟨rfl, hb⟩
    rw [HF.out]
    replace hs := hs.belowStep hb
    clear hb
    have n0 := cell_of (hs.cells 0 rfl) 0
    have n1 := cell_of (hs.cells 0 rfl) 1
    simp only [List.getElem?_toArray, List.getElem?_cons_zero, List.getElem?_cons_succ] at n0 n1
    go_wp2_with fail
    refine (pworks_any _).mono ?_
    rintro en wz ⟨rfl, hb⟩
    go_wp2_with fail
    go_ret
    exact ⟨rfl, (hs.belowStep hb).below⟩
  have d2 : decide (100 < (zs.length : Int)) = false := decide_eq_false (by omega)
  by_cases h3 : zs.length = 0
  · have d3 : ((zs.length : Int) == 0) = true := by rw [h3]; rfl
    clear h3 h2
    go_enter Try.func5, Try.ntmps5
    go_wp2_with fail
    refine (few_any n a es.length c _ h.le').mono ?_
    rintro en w1 ⟨rfl, hb⟩
    rw [HF.out]
    replace hs := hs.belowStep hb
    clear hb
    have n0 := cell_of (hs.cells 0 rfl) 0
    have n1 := cell_of (hs.cells 0 rfl) 1
    simp only [List.getElem?_toArray, List.getElem?_cons_zero, List.getElem?_cons_succ] at n0 n1
    go_wp2_with fail
    refine (pworks_any _).mono ?_
    rintro en wz ⟨rfl, hb⟩
    go_wp2_with fail
    go_ret
    exact ⟨rfl, (hs.belowStep hb).below⟩
  have d3 : ((zs.length : Int) == 0) = false := by rw [beq_eq_false_iff_ne]; omega
  cases hfit : fitsB n es fl pot
  · have HFIT := Lib.hid hfit
    clear h2 h3 hfit
    go_enter Try.func5, Try.ntmps5
    go_wp2_with fail
    refine (few_any n a es.length c _ h.le').mono ?_
    rintro en w1 ⟨rfl, hb⟩
    rw [HF.out]
    replace hs := hs.belowStep hb
    clear hb
    have n0 := cell_of (hs.cells 0 rfl) 0
    have n1 := cell_of (hs.cells 0 rfl) 1
    simp only [List.getElem?_toArray, List.getElem?_cons_zero, List.getElem?_cons_succ] at n0 n1
    go_wp2_with fail
    refine (rfits_any n a c es _ fl _ pot _ (hs.rdG h) (hs.rd hf) (hs.rd hp)).mono ?_
    rintro en w2 ⟨rfl, hb⟩
    rw [HFIT.out]
    clear n0 n1
    replace hs := hs.belowStep hb
    clear hb
    go_wp2_with fail
    refine (pworks_any _).mono ?_
    rintro en wz ⟨rfl, hb⟩
    go_wp2_with fail
    go_ret
    exact ⟨rfl, (hs.belowStep hb).below⟩
  have HFIT := Lib.hid hfit
  clear h3 hfit
  go_enter Try.func5, Try.ntmps5
  go_wp2_with fail
  refine (few_any n a es.length c _ h.le').mono ?_
  rintro en w1 ⟨rfl, hb⟩
  rw [HF.out]
  replace hs := hs.belowStep hb
  clear hb
  have n0 := cell_of (hs.cells 0 rfl) 0
  have n1 := cell_of (hs.cells 0 rfl) 1
  simp only [List.getElem?_toArray, List.getElem?_cons_zero, List.getElem?_cons_succ] at n0 n1
  go_wp2_with fail
  refine (rfits_any n a c es _ fl _ pot _ (hs.rdG h) (hs.rd hf) (hs.rd hp)).mono ?_
  rintro en w2 ⟨rfl, hb⟩
  rw [HFIT.out]
  clear n0 n1
  replace hs := hs.belowStep hb
  clear hb
  have n0 := cell_of (hs.cells 0 rfl) 0
  have n1 := cell_of (hs.cells 0 rfl) 1
  simp only [List.getElem?_toArray, List.getElem?_cons_zero, List.getElem?_cons_succ] at n0 n1
  go_wp2_with fail
  refine (ways_any n a c es _ _ _ fl pot zs _ (hs.rdG h) (hs.rd hf) (hs.rd hp) (hs.rd hz) (by omega)).mono ?_
  intro en w3 hP
  rcases hP with ⟨_, rfl, hb⟩ | ⟨HT, D, B, vd, vb, hws, rfl, k1⟩
  · clear n0 n1
    replace hs := hs.belowStep hb
    clear hb
    go_wp2_with fail
    refine (pworks_any _).mono ?_
    rintro en wz ⟨rfl, hb⟩
    go_wp2_with fail
    go_ret
    exact ⟨rfl, (hs.belowStep hb).below⟩
  · simp only [Bool.and_eq_true] at HT
    obtain ⟨hfit, hfrom⟩ := HT
    obtain ⟨hw, hr, hp', _⟩ := fits_parts hfit
    obtain ⟨hn1, hn40, hes, _, _⟩ := right_cap hr
    obtain ⟨N, rfl⟩ : ∃ N : Nat, n = N := ⟨n.toNat, by omega⟩
    rw [Int.toNat_natCast] at hws hfrom
    obtain ⟨H, hwh⟩ := hws.wh (by omega)
    obtain ⟨ad, cd, rfl⟩ := (k1.rdInts 0 rfl).shape
    obtain ⟨ab, cb, rfl⟩ := (k1.rdInts 1 rfl).shape
    rw [hws.lD, hws.lB] at k1 ⊢
    obtain ⟨gd, od, eq0, _, _⟩ := (k1.rdInts 0 rfl).at 0 (by rw [hws.lD]; omega)
    subst eq0
    obtain ⟨b0, hb0⟩ : ∃ b0, b0 = w.heap.size := ⟨_, rfl⟩
    rw [← hb0] at hs ⊢
    clear hb0 n0 n1
    replace hs : Sep w w3 (tL b0 #[.int .i64 N, .slice a es.length c] (some ⟨gd, od, none⟩) ab cd cb N D B) := hs.join k1
    clear k1
    have HWH := Lib.hid hwh
    have HWS := Lib.hid hws
    have HMX := Lib.hid (fun v (hv : v < N) => hws.dmax hfit hwh hv)
    have HARC := Lib.hid (fun m (hm : m < 2 * es.length) => arc_at hfit hm)
    have HR := Lib.hid hr
    have HPB := Lib.hid hp'
    have HLD := Lib.hid (show D.length = N ∧ B.length = N from ⟨hws.lD, hws.lB⟩)
    have HFB := Lib.hid hfrom
    have HFR := Lib.hid (fun k (hk : k < zs.length) => from_at hfrom hk)
    have HLB := Lib.hid (fun (m : Nat) (hm : m < 2 * es.length) => len_bound hr hp' hm)
    have HPL := Lib.hid (show ∀ u : Nat, -1099511627776 ≤ g pot u ∧ g pot u ≤ 1099511627776 from (pot_at hfit).2)
    have e1 : ((N : Int) != (N : Int)) = false := by simp
    have hN : N ≤ 40 := by omega
    have hfe : fl.length = es.length := by simp only [withinB, Bool.and_eq_true, decide_eq_true_eq] at hw; omega
    have HFE := Lib.hid hfe
    have hf200 : fl.length ≤ 200 := by omega
    clear hwh hws hfit hfrom hw hr hp' d2 d3 hn1 hn40 hfe
    have n0 := cell_of (hs.cells 2 rfl) 0
    have n1 := cell_of (hs.cells 2 rfl) 1
    simp only [List.getElem?_toArray, List.getElem?_cons_zero, List.getElem?_cons_succ] at n0 n1
    go_wp2_with fail
    clear n0 n1
    refine wp_loopM [none, none, none, none, none, none, none, none, none, none, some 10, none, none, none, some 14, some 15, some 16, some 17, none, none, none, none, none, none, none, none, none, none, none, none, none, none, none, none, none, none, none, none, none, none, none, none, none, none, none, none, none, none, none, none, none, none, none, none, none, none, none, none, none, none, none, some 61, some 62, some 63, some 64, some 65, some 66, some 67, some 68, some 69, some 70, some 71, some 72, some 73, some 74, some 75, some 76, some 77, some 78, some 79, some 80, some 81, some 82, some 83, some 84, some 85, some 86, some 87, some 88, some 89, some 90, some 91, some 92, some 93, some 94, some 95, some 96, some 97, some 98, some 99, some 100, some 101, some 102, some 103, some 104, some 105, some 106, some 107, some 108, some 109, none, none, none, none, none, none, none, none, none, none, none, none, none, none, none, none, none, none, none, none, none, none, none, none, none, none, none, none, none, none, none, none, none, none, none, none, none, none, none, none, none, none, none, none, none, none, none, none, none, none, none, none, none, none, none, none, none, none, none, none, none, none, none, none, none, none, none, none, none, none, none, none, none, none, none, none, none, none, none, none, none, none, none] (fun (r : Nat) (f : Nat → Value) (wr : World) => (fun (v : Value) => ∃ i : Nat, v = .int .i64 i ∧ i ≤ 2 * fl.length ∧ r = 2 * fl.length - i ∧ Sep w wr (tL b0 #[.int .i64 N, .slice a es.length c] (some ⟨gd, od, none⟩) ab cd cb N D B)) (f 14)) (2 * fl.length) (by kernel_rfl) ?atStart1 ?round1
    case' atStart1 => (try dsimp only [nthV])
    case' round1 =>
      intro gk f wr l hl hrel J1 K1 hJ1 hK1
      (try simp only [mask] at hl)
      generalize f 14 = u14 at hl hrel
      subst hl
      (try dsimp only at hrel)
    case atStart1 => exact ⟨0, rfl, Nat.zero_le _, rfl, hs⟩
    case round1 =>
      clear hs
      obtain ⟨i, rfl, hi, rfl, hs⟩ := hrel
      by_cases hlt : i < 2 * fl.length
      · have hle : i < 2 * es.length := by have := HFE.out; omega
        obtain ⟨U, V, C, R, q1, q2, q3, q4, hU, hV, q5, q6, q7, q8, q9, q10⟩ := HARC.out i hle
        have HQ1 := Lib.hid q1
        have HQ2 := Lib.hid q2
        have HAI := Lib.hid q9
        obtain ⟨TT, hTT⟩ : ∃ TT, TT = lenA es pot i := ⟨_, rfl⟩
        rw [← q7, ← hTT] at q8
        have HAT := Lib.hid q8
        have HTT := Lib.hid hTT
        obtain ⟨t1, t2⟩ := HLB.out i hle
        rw [← hTT] at t1 t2
        unfold maxL at t1 t2
        obtain ⟨x, hx⟩ : ∃ x, x = g D U := ⟨_, rfl⟩
        obtain ⟨y, hy⟩ : ∃ y, y = g D V := ⟨_, rfl⟩
        obtain ⟨m1, m2⟩ := HMX.out U hU
        obtain ⟨m3, m4⟩ := HMX.out V hV
        rw [← hx] at m1 m2
        rw [← hy] at m3 m4
        have HX := Lib.hid hx
        have HY := Lib.hid hy
        clear q1 q2 q3 q7 q8 q9 hx hy q10 hTT
        have n0 := cell_of (hs.cells 2 rfl) 0
        have n1 := cell_of (hs.cells 2 rfl) 1
        simp only [List.getElem?_toArray, List.getElem?_cons_zero, List.getElem?_cons_succ] at n0 n1
        go_wp2_with fail
        refine (rends_any _ a c es i _ (hs.rdG h) (by omega)).mono ?_
        rintro en w4 ⟨rfl, hb⟩
        rw [HQ1.out]
        clear n0 n1
        replace hs := hs.belowStep hb
        clear hb
        have n0 := cell_of (hs.cells 2 rfl) 0
        have n1 := cell_of (hs.cells 2 rfl) 1
        simp only [List.getElem?_toArray, List.getElem?_cons_zero, List.getElem?_cons_succ] at n0 n1
        obtain ⟨_, _, eqz, _, x2⟩ := ((hs.rdInts 0 rfl)).at U (by rw [HLD.out.1]; exact hU)
        injection eqz with eqz
        injection eqz with eqz eqo
        subst eqz
        subst eqo
        rw [show D.getD U 0 = x from HX.out.symm] at x2
        obtain ⟨_, _, eqz, _, x3⟩ := ((hs.rdInts 0 rfl)).at V (by rw [HLD.out.1]; exact hV)
        injection eqz with eqz
        injection eqz with eqz eqo
        subst eqz
        subst eqo
        rw [show D.getD V 0 = y from HY.out.symm] at x3
        have hUI : (U : Int) < N := by omega
        have hVI : (V : Int) < N := by omega
        have hCW : (fun W : World => W.cell? ⟨gd, od + U, none⟩ = some (.int .i64 x) ∧ W.cell? ⟨gd, od + V, none⟩ = some (.int .i64 y)) w4.drew := ⟨x2, x3⟩
        clear x2 x3
        by_cases hR0 : 0 < R
        · have d1 : decide (0 < R) = true := decide_eq_true hR0
          by_cases hx0 : x < 0
          · have d2 : decide (0 ≤ x) = false := decide_eq_false (by omega)
            clear hR0 hx0
            go_wp2_with fail
            refine Mix.region [0, 0, 0, 2, 0, 0, 0, 0, 0, 0, 0, 0, 0, 0, 0, 0, 0, 0, 0, 1, 1, 1, 1, 1, 1, 1, 1, 0, 0, 0, 2, 0, 0, 0, 0] (fun W : World => W.cell? ⟨gd, od + U, none⟩ = some (.int .i64 x) ∧ W.cell? ⟨gd, od + V, none⟩ = some (.int .i64 y)) (by kernel_rfl) (by kernel_rfl) hCW ?_
            simp only [List.zip_cons_cons, List.zip_nil_right]
            iterate 3 (refine Mix.step0 fun K hK => ?_; go_simp; (try (go_bits; try go_simp)); first | ((with_reducible refine hK _ _ ?_); clear hK K) | ((try (simp only [IntWalk.iteOmega]; try go_simp)); (try go_bits); (with_reducible refine hK _ _ ?_); clear hK K))
            refine Mix.step2n (by first | rfl | simp [Region.wanted, yielded]) fun K hK => ?_
            go_wp2_with fail
            refine (rroom_any _ a c es _ fl i _ (hs.drew.rdG h) (hs.drew.rd hf) (by omega)).mono ?_
            rintro en w5 ⟨rfl, hb⟩
            rw [HQ2.out]
            clear n0 n1 hCW
            replace hs := hs.drew.belowStep hb
            clear hb
            have n0 := cell_of (hs.cells 2 rfl) 0
            have n1 := cell_of (hs.cells 2 rfl) 1
            simp only [List.getElem?_toArray, List.getElem?_cons_zero, List.getElem?_cons_succ] at n0 n1
            obtain ⟨_, _, eqz, _, x2⟩ := ((hs.rdInts 0 rfl)).at U (by rw [HLD.out.1]; exact hU)
            injection eqz with eqz
            injection eqz with eqz eqo
            subst eqz
            subst eqo
            rw [show D.getD U 0 = x from HX.out.symm] at x2
            obtain ⟨_, _, eqz, _, x3⟩ := ((hs.rdInts 0 rfl)).at V (by rw [HLD.out.1]; exact hV)
            injection eqz with eqz
            injection eqz with eqz eqo
            subst eqz
            subst eqo
            rw [show D.getD V 0 = y from HY.out.symm] at x3
            have hCW := And.intro x2 x3
            clear x2 x3
            go_wp2_with fail
            refine Mix.post_mk (C := (fun W : World => W.cell? ⟨gd, od + U, none⟩ = some (.int .i64 x) ∧ W.cell? ⟨gd, od + V, none⟩ = some (.int .i64 y))) (by first | exact hCW | exact HCW.out _) (hK _ _ ?_)
            clear hK K
            iterate 2 (refine Mix.step0 fun K hK => ?_; go_simp; (try (go_bits; try go_simp)); first | ((with_reducible refine hK _ _ ?_); clear hK K) | ((try (simp only [IntWalk.iteOmega]; try go_simp)); (try go_bits); (with_reducible refine hK _ _ ?_); clear hK K))
            iterate 5 (first | (refine Mix.stepS rfl fun K hK => ?_; go_simp; (with_reducible refine hK _ _ ?_); clear hK K) | (refine Mix.step0 fun K hK => ?_; go_simp; (try (go_bits; try go_simp)); first | ((with_reducible refine hK _ _ ?_); clear hK K) | ((try (simp only [IntWalk.iteOmega]; try go_simp)); (try go_bits); (with_reducible refine hK _ _ ?_); clear hK K)))
            iterate 2 (refine Mix.step0 fun K hK => ?_; go_simp; (try (go_bits; try go_simp)); first | ((with_reducible refine hK _ _ ?_); clear hK K) | ((try (simp only [IntWalk.iteOmega]; try go_simp)); (try go_bits); (with_reducible refine hK _ _ ?_); clear hK K))
            iterate 6 (first | (refine Mix.stepS rfl fun K hK => ?_; go_simp; (with_reducible refine hK _ _ ?_); clear hK K) | (refine Mix.step0 fun K hK => ?_; go_simp; (try (go_bits; try go_simp)); first | ((with_reducible refine hK _ _ ?_); clear hK K) | ((try (simp only [IntWalk.iteOmega]; try go_simp)); (try go_bits); (with_reducible refine hK _ _ ?_); clear hK K)))
            (first | (refine Mix.stepS rfl fun K hK => ?_; go_simp; (with_reducible refine hK _ _ ?_); clear hK K) | (refine Mix.step1 fun K hK => ?_; go_simp; (try (go_bits; try go_simp)); first | ((with_reducible refine hK _ _ ?_); clear hK K) | ((try (simp only [IntWalk.iteOmega]; try go_simp)); (try go_bits); (with_reducible refine hK _ _ ?_); clear hK K)))
            (first | (refine Mix.stepS rfl fun K hK => ?_; go_simp; (with_reducible refine hK _ _ ?_); clear hK K) | (refine Mix.step1 fun K hK => ?_; go_simp; (try (go_bits; try go_simp)); first | ((with_reducible refine hK _ _ ?_); clear hK K) | ((try (simp only [IntWalk.iteOmega]; try go_simp)); (try go_bits); (with_reducible refine hK _ _ ?_); clear hK K)))
            (first | (refine Mix.stepS rfl fun K hK => ?_; go_simp; (with_reducible refine hK _ _ ?_); clear hK K) | (refine Mix.step1 fun K hK => ?_; go_simp; (try (go_bits; try go_simp)); first | ((with_reducible refine hK _ _ ?_); clear hK K) | ((try (simp only [IntWalk.iteOmega]; try go_simp)); (try go_bits); (with_reducible refine hK _ _ ?_); clear hK K)))
            (first | (refine Mix.stepS rfl fun K hK => ?_; go_simp; (with_reducible refine hK _ _ ?_); clear hK K) | (refine Mix.step1 fun K hK => ?_; go_simp; refine ⟨fun W => ?_, hK _ _ ?_⟩; (intro hW1; (try intro hW2); (try intro hW3); (try intro hW4); (try intro hW5); (try intro hW6); (try intro hW7); (try intro hW8); go_simp); clear hK K))
            (first | (refine Mix.stepS rfl fun K hK => ?_; go_simp; (with_reducible refine hK _ _ ?_); clear hK K) | (refine Mix.step1 fun K hK => ?_; go_simp; (try (go_bits; try go_simp)); first | ((with_reducible refine hK _ _ ?_); clear hK K) | ((try (simp only [IntWalk.iteOmega]; try go_simp)); (try go_bits); (with_reducible refine hK _ _ ?_); clear hK K)))
            (first | (refine Mix.stepS rfl fun K hK => ?_; go_simp; (with_reducible refine hK _ _ ?_); clear hK K) | (refine Mix.step1 fun K hK => ?_; go_simp; (try (go_bits; try go_simp)); first | ((with_reducible refine hK _ _ ?_); clear hK K) | ((try (simp only [IntWalk.iteOmega]; try go_simp)); (try go_bits); (with_reducible refine hK _ _ ?_); clear hK K)))
            (first | (refine Mix.stepS rfl fun K hK => ?_; go_simp; (with_reducible refine hK _ _ ?_); clear hK K) | (refine Mix.step1 fun K hK => ?_; go_simp; (try (go_bits; try go_simp)); first | ((with_reducible refine hK _ _ ?_); clear hK K) | ((try (simp only [IntWalk.iteOmega]; try go_simp)); (try go_bits); (with_reducible refine hK _ _ ?_); clear hK K)))
            (first | (refine Mix.stepS rfl fun K hK => ?_; go_simp; (with_reducible refine hK _ _ ?_); clear hK K) | (refine Mix.step1 fun K hK => ?_; go_simp; refine ⟨fun W => ?_, hK _ _ ?_⟩; (intro hW1; (try intro hW2); (try intro hW3); (try intro hW4); (try intro hW5); (try intro hW6); (try intro hW7); (try intro hW8); go_simp); clear hK K))
            iterate 3 (first | (refine Mix.stepS rfl fun K hK => ?_; go_simp; (with_reducible refine hK _ _ ?_); clear hK K) | (refine Mix.step0 fun K hK => ?_; go_simp; (try (go_bits; try go_simp)); first | ((with_reducible refine hK _ _ ?_); clear hK K) | ((try (simp only [IntWalk.iteOmega]; try go_simp)); (try go_bits); (with_reducible refine hK _ _ ?_); clear hK K)))
            refine Mix.step2s (by first | rfl | simp [Region.wanted, yielded]) ?_
            iterate 3 (first | (refine Mix.stepS rfl fun K hK => ?_; go_simp; (with_reducible refine hK _ _ ?_); clear hK K) | (refine Mix.step0 fun K hK => ?_; go_simp; (try (go_bits; try go_simp)); first | ((with_reducible refine hK _ _ ?_); clear hK K) | ((try (simp only [IntWalk.iteOmega]; try go_simp)); (try go_bits); (with_reducible refine hK _ _ ?_); clear hK K)))
            iterate 1 (refine Mix.step0 fun K hK => ?_; go_simp; (try (go_bits; try go_simp)); first | ((with_reducible refine hK _ _ ?_); clear hK K) | ((try (simp only [IntWalk.iteOmega]; try go_simp)); (try go_bits); (with_reducible refine hK _ _ ?_); clear hK K))
            refine Mix.done ?_
            go_wp2_with fail
            refine Round.intro (2 * fl.length - (i + 1)) ?measure2 (by kernel_rfl) (hJ1 _ _ _ ?rel2)
            case' rel2 => (try dsimp only [nthV])
            case measure2 => omega
            case rel2 => exact ⟨i + 1, by go_num, hlt, rfl, hs⟩
          · have d2 : decide (0 ≤ x) = true := decide_eq_true (by omega)
            have ha := HWH.out.arc _ (HAI.out hR0)
            rw [HAT.out] at ha
            dsimp only at ha
            rw [← HX.out, ← HY.out] at ha
            obtain ⟨a1, a2⟩ := ha (by omega)
            have d3 : decide (y < 0) = false := decide_eq_false (by omega)
            have d4 : decide (x + TT < y) = false := decide_eq_false (by omega)
            clear hR0 hx0 a1 a2
            go_wp2_with fail
            refine Mix.region [0, 0, 0, 2, 0, 0, 0, 0, 0, 0, 0, 0, 0, 0, 0, 0, 0, 0, 0, 1, 1, 1, 1, 1, 1, 1, 1, 0, 0, 0, 2, 0, 0, 0, 0] (fun W : World => W.cell? ⟨gd, od + U, none⟩ = some (.int .i64 x) ∧ W.cell? ⟨gd, od + V, none⟩ = some (.int .i64 y)) (by kernel_rfl) (by kernel_rfl) hCW ?_
            simp only [List.zip_cons_cons, List.zip_nil_right]
            iterate 3 (refine Mix.step0 fun K hK => ?_; go_simp; (try (go_bits; try go_simp)); first | ((with_reducible refine hK _ _ ?_); clear hK K) | ((try (simp only [IntWalk.iteOmega]; try go_simp)); (try go_bits); (with_reducible refine hK _ _ ?_); clear hK K))
            refine Mix.step2n (by first | rfl | simp [Region.wanted, yielded]) fun K hK => ?_
            go_wp2_with fail
            refine (rroom_any _ a c es _ fl i _ (hs.drew.rdG h) (hs.drew.rd hf) (by omega)).mono ?_
            rintro en w5 ⟨rfl, hb⟩
            rw [HQ2.out]
            clear n0 n1 hCW
            replace hs := hs.drew.belowStep hb
            clear hb
            have n0 := cell_of (hs.cells 2 rfl) 0
            have n1 := cell_of (hs.cells 2 rfl) 1
            simp only [List.getElem?_toArray, List.getElem?_cons_zero, List.getElem?_cons_succ] at n0 n1
            obtain ⟨_, _, eqz, _, x2⟩ := ((hs.rdInts 0 rfl)).at U (by rw [HLD.out.1]; exact hU)
            injection eqz with eqz
            injection eqz with eqz eqo
            subst eqz
            subst eqo
            rw [show D.getD U 0 = x from HX.out.symm] at x2
            obtain ⟨_, _, eqz, _, x3⟩ := ((hs.rdInts 0 rfl)).at V (by rw [HLD.out.1]; exact hV)
            injection eqz with eqz
            injection eqz with eqz eqo
            subst eqz
            subst eqo
            rw [show D.getD V 0 = y from HY.out.symm] at x3
            have hCW := And.intro x2 x3
            clear x2 x3
            go_wp2_with fail
            refine Mix.post_mk (C := (fun W : World => W.cell? ⟨gd, od + U, none⟩ = some (.int .i64 x) ∧ W.cell? ⟨gd, od + V, none⟩ = some (.int .i64 y))) (by first | exact hCW | exact HCW.out _) (hK _ _ ?_)
            clear hK K
            iterate 2 (refine Mix.step0 fun K hK => ?_; go_simp; (try (go_bits; try go_simp)); first | ((with_reducible refine hK _ _ ?_); clear hK K) | ((try (simp only [IntWalk.iteOmega]; try go_simp)); (try go_bits); (with_reducible refine hK _ _ ?_); clear hK K))
            iterate 5 (first | (refine Mix.stepS rfl fun K hK => ?_; go_simp; (with_reducible refine hK _ _ ?_); clear hK K) | (refine Mix.step0 fun K hK => ?_; go_simp; (try (go_bits; try go_simp)); first | ((with_reducible refine hK _ _ ?_); clear hK K) | ((try (simp only [IntWalk.iteOmega]; try go_simp)); (try go_bits); (with_reducible refine hK _ _ ?_); clear hK K)))
            iterate 2 (refine Mix.step0 fun K hK => ?_; go_simp; (try (go_bits; try go_simp)); first | ((with_reducible refine hK _ _ ?_); clear hK K) | ((try (simp only [IntWalk.iteOmega]; try go_simp)); (try go_bits); (with_reducible refine hK _ _ ?_); clear hK K))
            iterate 6 (first | (refine Mix.stepS rfl fun K hK => ?_; go_simp; (with_reducible refine hK _ _ ?_); clear hK K) | (refine Mix.step0 fun K hK => ?_; go_simp; (try (go_bits; try go_simp)); first | ((with_reducible refine hK _ _ ?_); clear hK K) | ((try (simp only [IntWalk.iteOmega]; try go_simp)); (try go_bits); (with_reducible refine hK _ _ ?_); clear hK K)))
            (first | (refine Mix.stepS rfl fun K hK => ?_; go_simp; (with_reducible refine hK _ _ ?_); clear hK K) | (refine Mix.step1 fun K hK => ?_; go_simp; (try (go_bits; try go_simp)); first | ((with_reducible refine hK _ _ ?_); clear hK K) | ((try (simp only [IntWalk.iteOmega]; try go_simp)); (try go_bits); (with_reducible refine hK _ _ ?_); clear hK K)))
            (first | (refine Mix.stepS rfl fun K hK => ?_; go_simp; (with_reducible refine hK _ _ ?_); clear hK K) | (refine Mix.step1 fun K hK => ?_; go_simp; (try (go_bits; try go_simp)); first | ((with_reducible refine hK _ _ ?_); clear hK K) | ((try (simp only [IntWalk.iteOmega]; try go_simp)); (try go_bits); (with_reducible refine hK _ _ ?_); clear hK K)))
            (first | (refine Mix.stepS rfl fun K hK => ?_; go_simp; (with_reducible refine hK _ _ ?_); clear hK K) | (refine Mix.step1 fun K hK => ?_; go_simp; (try (go_bits; try go_simp)); first | ((with_reducible refine hK _ _ ?_); clear hK K) | ((try (simp only [IntWalk.iteOmega]; try go_simp)); (try go_bits); (with_reducible refine hK _ _ ?_); clear hK K)))
            (first | (refine Mix.stepS rfl fun K hK => ?_; go_simp; (with_reducible refine hK _ _ ?_); clear hK K) | (refine Mix.step1 fun K hK => ?_; go_simp; refine ⟨fun W => ?_, hK _ _ ?_⟩; (intro hW1; (try intro hW2); (try intro hW3); (try intro hW4); (try intro hW5); (try intro hW6); (try intro hW7); (try intro hW8); go_simp); clear hK K))
            (first | (refine Mix.stepS rfl fun K hK => ?_; go_simp; (with_reducible refine hK _ _ ?_); clear hK K) | (refine Mix.step1 fun K hK => ?_; go_simp; (try (go_bits; try go_simp)); first | ((with_reducible refine hK _ _ ?_); clear hK K) | ((try (simp only [IntWalk.iteOmega]; try go_simp)); (try go_bits); (with_reducible refine hK _ _ ?_); clear hK K)))
            (first | (refine Mix.stepS rfl fun K hK => ?_; go_simp; (with_reducible refine hK _ _ ?_); clear hK K) | (refine Mix.step1 fun K hK => ?_; go_simp; (try (go_bits; try go_simp)); first | ((with_reducible refine hK _ _ ?_); clear hK K) | ((try (simp only [IntWalk.iteOmega]; try go_simp)); (try go_bits); (with_reducible refine hK _ _ ?_); clear hK K)))
            (first | (refine Mix.stepS rfl fun K hK => ?_; go_simp; (with_reducible refine hK _ _ ?_); clear hK K) | (refine Mix.step1 fun K hK => ?_; go_simp; (try (go_bits; try go_simp)); first | ((with_reducible refine hK _ _ ?_); clear hK K) | ((try (simp only [IntWalk.iteOmega]; try go_simp)); (try go_bits); (with_reducible refine hK _ _ ?_); clear hK K)))
            (first | (refine Mix.stepS rfl fun K hK => ?_; go_simp; (with_reducible refine hK _ _ ?_); clear hK K) | (refine Mix.step1 fun K hK => ?_; go_simp; refine ⟨fun W => ?_, hK _ _ ?_⟩; (intro hW1; (try intro hW2); (try intro hW3); (try intro hW4); (try intro hW5); (try intro hW6); (try intro hW7); (try intro hW8); go_simp); clear hK K))
            iterate 3 (first | (refine Mix.stepS rfl fun K hK => ?_; go_simp; (with_reducible refine hK _ _ ?_); clear hK K) | (refine Mix.step0 fun K hK => ?_; go_simp; (try (go_bits; try go_simp)); first | ((with_reducible refine hK _ _ ?_); clear hK K) | ((try (simp only [IntWalk.iteOmega]; try go_simp)); (try go_bits); (with_reducible refine hK _ _ ?_); clear hK K)))
            refine Mix.step2n (by first | rfl | simp [Region.wanted, yielded]) fun K hK => ?_
            go_wp2_with fail
            refine (rlen_any _ a c es _ pot i _ (hs.rdG h) (hs.rd hp) HR.out hle HPB.out).mono ?_
            rintro en w6 ⟨rfl, hb⟩
            rw [← HTT.out]
            clear n0 n1 hCW
            replace hs := hs.belowStep hb
            clear hb
            obtain ⟨_, _, eqz, _, x2⟩ := ((hs.rdInts 0 rfl)).at U (by rw [HLD.out.1]; exact hU)
            injection eqz with eqz
            injection eqz with eqz eqo
            subst eqz
            subst eqo
            rw [show D.getD U 0 = x from HX.out.symm] at x2
            obtain ⟨_, _, eqz, _, x3⟩ := ((hs.rdInts 0 rfl)).at V (by rw [HLD.out.1]; exact hV)
            injection eqz with eqz
            injection eqz with eqz eqo
            subst eqz
            subst eqo
            rw [show D.getD V 0 = y from HY.out.symm] at x3
            have hCW := And.intro x2 x3
            clear x2 x3
            go_wp2_with fail
            refine Mix.post_mk (C := (fun W : World => W.cell? ⟨gd, od + U, none⟩ = some (.int .i64 x) ∧ W.cell? ⟨gd, od + V, none⟩ = some (.int .i64 y))) (by first | exact hCW | exact HCW.out _) (hK _ _ ?_)
            clear hK K
            iterate 3 (first | (refine Mix.stepS rfl fun K hK => ?_; go_simp; (with_reducible refine hK _ _ ?_); clear hK K) | (refine Mix.step0 fun K hK => ?_; go_simp; (try (go_bits; try go_simp)); first | ((with_reducible refine hK _ _ ?_); clear hK K) | ((try (simp only [IntWalk.iteOmega]; try go_simp)); (try go_bits); (with_reducible refine hK _ _ ?_); clear hK K)))
            iterate 1 (refine Mix.step0 fun K hK => ?_; go_simp; (try (go_bits; try go_simp)); first | ((with_reducible refine hK _ _ ?_); clear hK K) | ((try (simp only [IntWalk.iteOmega]; try go_simp)); (try go_bits); (with_reducible refine hK _ _ ?_); clear hK K))
            refine Mix.done ?_
            go_wp2_with fail
            refine Round.intro (2 * fl.length - (i + 1)) ?measure3 (by kernel_rfl) (hJ1 _ _ _ ?rel3)
            case' rel3 => (try dsimp only [nthV])
            case measure3 => omega
            case rel3 => exact ⟨i + 1, by go_num, hlt, rfl, hs⟩
        · have d1 : decide (0 < R) = false := decide_eq_false hR0
          clear hR0
          go_wp2_with fail
          refine Mix.region [0, 0, 0, 2, 0, 0, 0, 0, 0, 0, 0, 0, 0, 0, 0, 0, 0, 0, 0, 1, 1, 1, 1, 1, 1, 1, 1, 0, 0, 0, 2, 0, 0, 0, 0] (fun W : World => W.cell? ⟨gd, od + U, none⟩ = some (.int .i64 x) ∧ W.cell? ⟨gd, od + V, none⟩ = some (.int .i64 y)) (by kernel_rfl) (by kernel_rfl) hCW ?_
          simp only [List.zip_cons_cons, List.zip_nil_right]
          iterate 3 (refine Mix.step0 fun K hK => ?_; go_simp; (try (go_bits; try go_simp)); first | ((with_reducible refine hK _ _ ?_); clear hK K) | ((try (simp only [IntWalk.iteOmega]; try go_simp)); (try go_bits); (with_reducible refine hK _ _ ?_); clear hK K))
          refine Mix.step2n (by first | rfl | simp [Region.wanted, yielded]) fun K hK => ?_
          go_wp2_with fail
          refine (rroom_any _ a c es _ fl i _ (hs.drew.rdG h) (hs.drew.rd hf) (by omega)).mono ?_
          rintro en w5 ⟨rfl, hb⟩
          rw [HQ2.out]
          clear n0 n1 hCW
          replace hs := hs.drew.belowStep hb
          clear hb
          have n0 := cell_of (hs.cells 2 rfl) 0
          have n1 := cell_of (hs.cells 2 rfl) 1
          simp only [List.getElem?_toArray, List.getElem?_cons_zero, List.getElem?_cons_succ] at n0 n1
          obtain ⟨_, _, eqz, _, x2⟩ := ((hs.rdInts 0 rfl)).at U (by rw [HLD.out.1]; exact hU)
          injection eqz with eqz
          injection eqz with eqz eqo
          subst eqz
          subst eqo
          rw [show D.getD U 0 = x from HX.out.symm] at x2
          obtain ⟨_, _, eqz, _, x3⟩ := ((hs.rdInts 0 rfl)).at V (by rw [HLD.out.1]; exact hV)
          injection eqz with eqz
          injection eqz with eqz eqo
          subst eqz
          subst eqo
          rw [show D.getD V 0 = y from HY.out.symm] at x3
          have hCW := And.intro x2 x3
          clear x2 x3
          go_wp2_with fail
          refine Mix.post_mk (C := (fun W : World => W.cell? ⟨gd, od + U, none⟩ = some (.int .i64 x) ∧ W.cell? ⟨gd, od + V, none⟩ = some (.int .i64 y))) (by first | exact hCW | exact HCW.out _) (hK _ _ ?_)
          clear hK K
          iterate 2 (refine Mix.step0 fun K hK => ?_; go_simp; (try (go_bits; try go_simp)); first | ((with_reducible refine hK _ _ ?_); clear hK K) | ((try (simp only [IntWalk.iteOmega]; try go_simp)); (try go_bits); (with_reducible refine hK _ _ ?_); clear hK K))
          iterate 5 (first | (refine Mix.stepS rfl fun K hK => ?_; go_simp; (with_reducible refine hK _ _ ?_); clear hK K) | (refine Mix.step0 fun K hK => ?_; go_simp; (try (go_bits; try go_simp)); first | ((with_reducible refine hK _ _ ?_); clear hK K) | ((try (simp only [IntWalk.iteOmega]; try go_simp)); (try go_bits); (with_reducible refine hK _ _ ?_); clear hK K)))
          iterate 2 (refine Mix.step0 fun K hK => ?_; go_simp; (try (go_bits; try go_simp)); first | ((with_reducible refine hK _ _ ?_); clear hK K) | ((try (simp only [IntWalk.iteOmega]; try go_simp)); (try go_bits); (with_reducible refine hK _ _ ?_); clear hK K))
          iterate 6 (first | (refine Mix.stepS rfl fun K hK => ?_; go_simp; (with_reducible refine hK _ _ ?_); clear hK K) | (refine Mix.step0 fun K hK => ?_; go_simp; (try (go_bits; try go_simp)); first | ((with_reducible refine hK _ _ ?_); clear hK K) | ((try (simp only [IntWalk.iteOmega]; try go_simp)); (try go_bits); (with_reducible refine hK _ _ ?_); clear hK K)))
          (first | (refine Mix.stepS rfl fun K hK => ?_; go_simp; (with_reducible refine hK _ _ ?_); clear hK K) | (refine Mix.step1 fun K hK => ?_; go_simp; (try (go_bits; try go_simp)); first | ((with_reducible refine hK _ _ ?_); clear hK K) | ((try (simp only [IntWalk.iteOmega]; try go_simp)); (try go_bits); (with_reducible refine hK _ _ ?_); clear hK K)))
          (first | (refine Mix.stepS rfl fun K hK => ?_; go_simp; (with_reducible refine hK _ _ ?_); clear hK K) | (refine Mix.step1 fun K hK => ?_; go_simp; (try (go_bits; try go_simp)); first | ((with_reducible refine hK _ _ ?_); clear hK K) | ((try (simp only [IntWalk.iteOmega]; try go_simp)); (try go_bits); (with_reducible refine hK _ _ ?_); clear hK K)))
          (first | (refine Mix.stepS rfl fun K hK => ?_; go_simp; (with_reducible refine hK _ _ ?_); clear hK K) | (refine Mix.step1 fun K hK => ?_; go_simp; (try (go_bits; try go_simp)); first | ((with_reducible refine hK _ _ ?_); clear hK K) | ((try (simp only [IntWalk.iteOmega]; try go_simp)); (try go_bits); (with_reducible refine hK _ _ ?_); clear hK K)))
          (first | (refine Mix.stepS rfl fun K hK => ?_; go_simp; (with_reducible refine hK _ _ ?_); clear hK K) | (refine Mix.step1 fun K hK => ?_; go_simp; refine ⟨fun W => ?_, hK _ _ ?_⟩; (intro hW1; (try intro hW2); (try intro hW3); (try intro hW4); (try intro hW5); (try intro hW6); (try intro hW7); (try intro hW8); go_simp); clear hK K))
          (first | (refine Mix.stepS rfl fun K hK => ?_; go_simp; (with_reducible refine hK _ _ ?_); clear hK K) | (refine Mix.step1 fun K hK => ?_; go_simp; (try (go_bits; try go_simp)); first | ((with_reducible refine hK _ _ ?_); clear hK K) | ((try (simp only [IntWalk.iteOmega]; try go_simp)); (try go_bits); (with_reducible refine hK _ _ ?_); clear hK K)))
          (first | (refine Mix.stepS rfl fun K hK => ?_; go_simp; (with_reducible refine hK _ _ ?_); clear hK K) | (refine Mix.step1 fun K hK => ?_; go_simp; (try (go_bits; try go_simp)); first | ((with_reducible refine hK _ _ ?_); clear hK K) | ((try (simp only [IntWalk.iteOmega]; try go_simp)); (try go_bits); (with_reducible refine hK _ _ ?_); clear hK K)))
          (first | (refine Mix.stepS rfl fun K hK => ?_; go_simp; (with_reducible refine hK _ _ ?_); clear hK K) | (refine Mix.step1 fun K hK => ?_; go_simp; (try (go_bits; try go_simp)); first | ((with_reducible refine hK _ _ ?_); clear hK K) | ((try (simp only [IntWalk.iteOmega]; try go_simp)); (try go_bits); (with_reducible refine hK _ _ ?_); clear hK K)))
          (first | (refine Mix.stepS rfl fun K hK => ?_; go_simp; (with_reducible refine hK _ _ ?_); clear hK K) | (refine Mix.step1 fun K hK => ?_; go_simp; refine ⟨fun W => ?_, hK _ _ ?_⟩; (intro hW1; (try intro hW2); (try intro hW3); (try intro hW4); (try intro hW5); (try intro hW6); (try intro hW7); (try intro hW8); go_simp); clear hK K))
          iterate 3 (first | (refine Mix.stepS rfl fun K hK => ?_; go_simp; (with_reducible refine hK _ _ ?_); clear hK K) | (refine Mix.step0 fun K hK => ?_; go_simp; (try (go_bits; try go_simp)); first | ((with_reducible refine hK _ _ ?_); clear hK K) | ((try (simp only [IntWalk.iteOmega]; try go_simp)); (try go_bits); (with_reducible refine hK _ _ ?_); clear hK K)))
          refine Mix.step2s (by first | rfl | simp [Region.wanted, yielded]) ?_
          iterate 3 (first | (refine Mix.stepS rfl fun K hK => ?_; go_simp; (with_reducible refine hK _ _ ?_); clear hK K) | (refine Mix.step0 fun K hK => ?_; go_simp; (try (go_bits; try go_simp)); first | ((with_reducible refine hK _ _ ?_); clear hK K) | ((try (simp only [IntWalk.iteOmega]; try go_simp)); (try go_bits); (with_reducible refine hK _ _ ?_); clear hK K)))
          iterate 1 (refine Mix.step0 fun K hK => ?_; go_simp; (try (go_bits; try go_simp)); first | ((with_reducible refine hK _ _ ?_); clear hK K) | ((try (simp only [IntWalk.iteOmega]; try go_simp)); (try go_bits); (with_reducible refine hK _ _ ?_); clear hK K))
          refine Mix.done ?_
          go_wp2_with fail
          refine Round.intro (2 * fl.length - (i + 1)) ?measure4 (by kernel_rfl) (hJ1 _ _ _ ?rel4)
          case' rel4 => (try dsimp only [nthV])
          case measure4 => omega
          case rel4 => exact ⟨i + 1, by go_num, hlt, rfl, hs⟩
      · obtain rfl : i = 2 * fl.length := by omega
        go_wp2_with fail
        refine wp_loopM [none, none, none, none, none, none, none, none, none, none, some 10, none, none, none, none, none, none, none, some 18, none, none, none, none, none, none, none, none, none, none, none, none, none, none, none, none, none, none, none, none, none, none, none, none, none, none, none, none, none, none, none, none, none, none, none, none, none, none, none, none, none, none, none, none, none, none, none, none, none, none, none, none, none, none, none, none, none, none, none, none, none, none, none, none, none, none, none, none, none, none, none, none, none, none, none, none, none, none, none, none, none, none, none, none, none, none, none, none, none, none, none, some 110, some 111, some 112, some 113, some 114, some 115, some 116, some 117, some 118, some 119, some 120, some 121, some 122, some 123, none, none, none, none, none, none, none, none, none, none, none, none, none, none, none, none, none, none, none, none, none, none, none, none, none, none, none, none, none, none, none, none, none, none, none, none, none, none, none, none, none, none, none, none, none, none, none, none, none, none, none, none, none, none, none, none, none, none, none, none, none, none, none, none, none, none, none, none, none] (fun (r : Nat) (f : Nat → Value) (wr : World) => (fun (v : Value) => ∃ i : Nat, v = .int .i64 i ∧ i ≤ zs.length ∧ r = zs.length - i ∧ Sep w wr (tL b0 #[.int .i64 N, .slice a es.length c] (some ⟨gd, od, none⟩) ab cd cb N D B)) (f 18)) (zs.length) (by kernel_rfl) ?atStart5 ?round5
        case' atStart5 => (try dsimp only [nthV])
        case' round5 =>
          intro gk f wr l hl hrel J2 K2 hJ2 hK2
          (try simp only [mask] at hl)
          generalize f 18 = u18 at hl hrel
          subst hl
          (try dsimp only at hrel)
        case atStart5 => exact ⟨0, rfl, Nat.zero_le _, rfl, hs⟩
        case round5 =>
          clear hs
          obtain ⟨i, rfl, hi, rfl, hs⟩ := hrel
          by_cases hlt : i < zs.length
          · obtain ⟨u, hu, hun, hum⟩ := HFR.out i hlt
            obtain ⟨gx1, ox1, eqx1, _, x1⟩ := ((hs.rd hz)).at i hlt
            subst eqx1
            obtain ⟨_, _, eqz, _, x2⟩ := ((hs.rdInts 0 rfl)).at u (by rw [HLD.out.1]; exact hun)
            injection eqz with eqz
            injection eqz with eqz eqo
            subst eqz
            subst eqo
            rw [hu] at x1
            rw [show D.getD u 0 = 0 from (HWH.out.src_ u hun hum).1] at x2
            have hunI : (u : Int) < N := by omega
            clear hu hum
            go_wp2_with fail
            refine Round.intro (zs.length - (i + 1)) ?measure6 (by kernel_rfl) (hJ2 _ _ _ ?rel6)
            case' rel6 => (try dsimp only [nthV])
            case measure6 => omega
            case rel6 => exact ⟨i + 1, by go_num, hlt, rfl, hs⟩
          · obtain rfl : i = zs.length := by omega
            have n0 := cell_of (hs.cells 2 rfl) 0
            have n1 := cell_of (hs.cells 2 rfl) 1
            simp only [List.getElem?_toArray, List.getElem?_cons_zero, List.getElem?_cons_succ] at n0 n1
            by_cases hq0 : q < 0
            · have d1 : decide (q < 0) = true := decide_eq_true hq0
              clear hq0
              clear n1
              go_wp2_with fail
              refine (pworks_any _).mono ?_
              rintro en wz ⟨rfl, hb⟩
              go_wp2_with fail
              go_ret
              exact ⟨rfl, (hs.belowStep hb).below⟩
            · have d1 : decide (q < 0) = false := decide_eq_false hq0
              by_cases hq1 : (N : Int) ≤ q
              · have d2 : decide ((N : Int) ≤ q) = true := decide_eq_true hq1
                clear hq0 hq1
                clear n1
                go_wp2_with fail
                refine (pworks_any _).mono ?_
                rintro en wz ⟨rfl, hb⟩
                go_wp2_with fail
                go_ret
                exact ⟨rfl, (hs.belowStep hb).below⟩
              · have d2 : decide ((N : Int) ≤ q) = false := decide_eq_false hq1
                obtain ⟨u, rfl⟩ : ∃ u : Nat, q = u := ⟨q.toNat, by omega⟩
                have hu : u < N := by omega
                have hsz : zs.length ≤ 100 := by omega
                clear hq0 hq1
                go_upto_region 21 with fail
                refine Mix4.region (m := 9) [0, 0, 0, 0, 0, 0, 0, 0, 0, 2, 0, 0, 0, 0, 0, 0, 0] (fun dn v W => Sep w W (lsT zs u (tL b0 #[.int .i64 N, .slice a es.length c] (some ⟨gd, od, none⟩) ab cd cb N D B) dn v) ∧ LsF (.agg #[.int .i64 N, .slice a es.length c]) (.slice af fl.length cf) (.slice ap pot.length cp) (.slice az zs.length cz) u dn v) (by kernel_rfl) (by kernel_rfl) ?hJ ?hstep ?hfin
                case hJ =>
                  refine ⟨hs.drew, ?_⟩
                  constructor <;> (intro q; cases q)
                case hstep =>
                  clear n0 n1
                  intro i o ho him dn v W ρ hdn hdeps hcl hJ hev hbase hcst
                  obtain ⟨hsp, hF⟩ := hJ
                  rcases i with _ | _ | _ | _ | _ | _ | _ | _ | _ | i
                  all_goals first | omega | skip
                  · obtain rfl := Option.some.inj ho
                    have e5 := hbase 5 (by kernel_rfl) (by show (5 : Nat) < 193; decide)
                    have z2 := hsp.cells (b := b0) (cs := #[.int .i64 N, .slice a es.length c]) (E := 24) _ (lsT_at _ _ _ _ _ 2)
                    have n0 := cell_of z2 0
                    have n1 := cell_of z2 1
                    simp only [List.getElem?_toArray, List.getElem?_cons_zero, List.getElem?_cons_succ] at n0 n1
                    refine outR_of (v := (.agg #[.int .i64 N, .slice a es.length c])) (w' := W) ?_ ⟨by rw [lsT_same _ _ (by decide) (by decide) (by decide) (by decide)]; exact hsp, hF.more _ _ (by intro q; first | rfl | (exfalso; omega)) (by intro q; first | rfl | (exfalso; omega)) (by intro q; first | rfl | (exfalso; omega)) (by intro q; first | rfl | (exfalso; omega)) (by intro q; first | rfl | (exfalso; omega))⟩
                    unfold execOp
                    simp only [e5]
                    go_simp
                  · obtain rfl := Option.some.inj ho
                    have e5 := hbase 1 (by kernel_rfl) (by show (1 : Nat) < 193; decide)
                    refine outR_of (v := (.slice af fl.length cf)) (w' := W) ?_ ⟨by rw [lsT_same _ _ (by decide) (by decide) (by decide) (by decide)]; exact hsp, hF.more _ _ (by intro q; first | rfl | (exfalso; omega)) (by intro q; first | rfl | (exfalso; omega)) (by intro q; first | rfl | (exfalso; omega)) (by intro q; first | rfl | (exfalso; omega)) (by intro q; first | rfl | (exfalso; omega))⟩
                    unfold execOp
                    simp only [e5]
                    go_simp
                  · obtain rfl := Option.some.inj ho
                    have e5 := hbase 2 (by kernel_rfl) (by show (2 : Nat) < 193; decide)
                    refine outR_of (v := (.slice ap pot.length cp)) (w' := W) ?_ ⟨by rw [lsT_same _ _ (by decide) (by decide) (by decide) (by decide)]; exact hsp, hF.more _ _ (by intro q; first | rfl | (exfalso; omega)) (by intro q; first | rfl | (exfalso; omega)) (by intro q; first | rfl | (exfalso; omega)) (by intro q; first | rfl | (exfalso; omega)) (by intro q; first | rfl | (exfalso; omega))⟩
                    unfold execOp
                    simp only [e5]
                    go_simp
                  · have d5 : dn 5 = false := by
                      cases hq : dn 5
                      · rfl
                      · have := hcl 5 _ rfl hq { on := 3, ground := .data } (by simp) (by rfl)
                        rw [hdn] at this; cases this
                    obtain rfl := Option.some.inj ho
                    have hs2 := hsp.litInts .i64 3 [] (by simp [maxLen])
                    simp only [List.map_nil, List.length_nil] at hs2
                    refine outR_of (v := .slice (some ⟨W.heap.size, 0, none⟩) 0 0) (w' := W.alloc (.cells #[] 3)) ?_ ⟨?_, hF.more _ _ (by intro q; first | rfl | (exfalso; omega)) (by intro q; first | rfl | (exfalso; omega)) (by intro q; first | rfl | (exfalso; omega)) (by intro q; first | rfl | (exfalso; omega)) (by intro q; first | rfl | (exfalso; omega))⟩
                    · unfold execOp
                      go_simp
                    · have e : lsT zs u (tL b0 #[.int .i64 N, .slice a es.length c] (some ⟨gd, od, none⟩) ab cd cb N D B) (Mix3.more dn 3) (Mix3.updV v 3 (.slice (some ⟨W.heap.size, 0, none⟩) 0 0)) = intsT .i64 3 (.slice (some ⟨W.heap.size, 0, none⟩) 0 0) [] :: lsT zs u (tL b0 #[.int .i64 N, .slice a es.length c] (some ⟨gd, od, none⟩) ab cd cb N D B) dn v := by
                        simp [lsT, lsP, Mix3.more, Mix3.updV, d5, hdn]
                      rw [e]
                      exact hs2
                  · obtain rfl := Option.some.inj ho
                    have e5 := hbase 3 (by kernel_rfl) (by show (3 : Nat) < 193; decide)
                    refine outR_of (v := (.slice az zs.length cz)) (w' := W) ?_ ⟨by rw [lsT_same _ _ (by decide) (by decide) (by decide) (by decide)]; exact hsp, hF.more _ _ (by intro q; first | rfl | (exfalso; omega)) (by intro q; first | rfl | (exfalso; omega)) (by intro q; first | rfl | (exfalso; omega)) (by intro q; first | rfl | (exfalso; omega)) (by intro q; first | rfl | (exfalso; omega))⟩
                    unfold execOp
                    simp only [e5]
                    go_simp
                  · have d8 : dn 8 = false := by
                      cases hq : dn 8
                      · rfl
                      · have := hcl 8 _ rfl hq { on := 5, ground := .data } (by simp) (by rfl)
                        rw [hdn] at this; cases this
                    have d3 : dn 3 = true := hdeps { on := 3, ground := .data } (by rw [← Option.some.inj ho]; simp) (by rfl)
                    have d4 : dn 4 = true := hdeps { on := 4, ground := .data } (by rw [← Option.some.inj ho]; simp) (by rfl)
                    have e1' := hev 137 3 (by kernel_rfl) d3 (by show (137 : Nat) < 193; decide)
                    have e2' := (hev 138 4 (by kernel_rfl) d4 (by show (138 : Nat) < 193; decide)).trans (hF.f4 d4)
                    obtain ⟨v', W', hr', hs2⟩ := exec_appRd (P := Try.prog) (ρ := ρ) (w := W) o (.tmp 137) (.tmp 138) 26 (by rw [← Option.some.inj ho]) 3 j0 _ 8 Try.underlying26 hj0 hy0 hy1 hy2 rfl (v 3) [] .i64 _ zs hsp 0 (by simp [lsT, lsP, d3, hdn]) (hsp.rd hz) e1' e2' (by simp [maxLen]; omega) (by simp; omega)
                    refine outR_of hr' ⟨?_, hF.more _ _ (by intro q; first | rfl | (exfalso; omega)) (by intro q; first | rfl | (exfalso; omega)) (by intro q; first | rfl | (exfalso; omega)) (by intro q; first | rfl | (exfalso; omega)) (by intro q; first | rfl | (exfalso; omega))⟩
                    have e : lsT zs u (tL b0 #[.int .i64 N, .slice a es.length c] (some ⟨gd, od, none⟩) ab cd cb N D B) (Mix3.more dn 5) (Mix3.updV v 5 v') = (lsT zs u (tL b0 #[.int .i64 N, .slice a es.length c] (some ⟨gd, od, none⟩) ab cd cb N D B) dn v).set 0 (intsT .i64 3 v' ([] ++ zs)) := by
                      simp [lsT, lsP, Mix3.more, Mix3.updV, d3, d8, hdn]
                    rw [e]
                    exact hs2
                  · obtain rfl := Option.some.inj ho
                    have e5 := hbase 4 (by kernel_rfl) (by show (4 : Nat) < 193; decide)
                    refine outR_of (v := (.int .i64 u)) (w' := W) ?_ ⟨by rw [lsT_same _ _ (by decide) (by decide) (by decide) (by decide)]; exact hsp, hF.more _ _ (by intro q; first | rfl | (exfalso; omega)) (by intro q; first | rfl | (exfalso; omega)) (by intro q; first | rfl | (exfalso; omega)) (by intro q; first | rfl | (exfalso; omega)) (by intro q; first | rfl | (exfalso; omega))⟩
                    unfold execOp
                    simp only [e5]
                    go_simp
                  · have d8 : dn 8 = false := by
                      cases hq : dn 8
                      · rfl
                      · have := hcl 8 _ rfl hq { on := 7, ground := .data } (by simp) (by rfl)
                        rw [hdn] at this; cases this
                    obtain rfl := Option.some.inj ho
                    have d6 : dn 6 = true := hdeps { on := 6, ground := .data } (by simp) (by rfl)
                    have e1' := (hev 140 6 (by kernel_rfl) d6 (by show (140 : Nat) < 193; decide)).trans (hF.f6 d6)
                    have hs2 := hsp.litInts .i64 3 [(u : Int)] (by simp [maxLen])
                    simp only [List.map_cons, List.map_nil, List.length_cons, List.length_nil, Nat.reduceAdd, World.size_alloc] at hs2
                    refine outR_of (v := .slice (some ⟨W.heap.size, 0, none⟩) 1 1) (w' := W.alloc (.cells #[.int .i64 u] 3)) ?_ ⟨?_, hF.more _ _ (by intro q; first | rfl | (exfalso; omega)) (by intro q; first | rfl | (exfalso; omega)) (by intro q; first | rfl | (exfalso; omega)) (by intro q; first | rfl | (exfalso; omega)) (by intro q; first | rfl | (exfalso; omega))⟩
                    · unfold execOp
                      simp only [List.map_toArray, List.map_cons, List.map_nil, e1']
                      go_simp
                    · refine hs2.perm ?_
                      cases d3 : dn 3 <;> cases d5 : dn 5
                      · simp [lsT, lsP, Mix3.more, Mix3.updV, d3, d5, d8, hdn]
                      · simp [lsT, lsP, Mix3.more, Mix3.updV, d3, d5, d8, hdn]
                        exact List.Perm.swap _ _ _
                      · simp [lsT, lsP, Mix3.more, Mix3.updV, d3, d5, d8, hdn]
                        exact List.Perm.swap _ _ _
                      · simp [lsT, lsP, Mix3.more, Mix3.updV, d3, d5, d8, hdn]
                        exact List.Perm.swap _ _ _
                  · have d5 : dn 5 = true := hdeps { on := 5, ground := .data } (by rw [← Option.some.inj ho]; simp) (by rfl)
                    have d7 : dn 7 = true := hdeps { on := 7, ground := .data } (by rw [← Option.some.inj ho]; simp) (by rfl)
                    have e1' := hev 139 5 (by kernel_rfl) d5 (by show (139 : Nat) < 193; decide)
                    have e2' := hev 141 7 (by kernel_rfl) d7 (by show (141 : Nat) < 193; decide)
                    have el : lsT zs u (tL b0 #[.int .i64 N, .slice a es.length c] (some ⟨gd, od, none⟩) ab cd cb N D B) dn v = intsT .i64 3 (v 5) zs :: intsT .i64 3 (v 7) [(u : Int)] :: tL b0 #[.int .i64 N, .slice a es.length c] (some ⟨gd, od, none⟩) ab cd cb N D B := by
                      simp [lsT, lsP, d5, d7, hdn]
                    rw [el] at hsp
                    obtain ⟨v', W', hr', hs2⟩ := exec_appRd (P := Try.prog) (ρ := ρ) (w := W) o (.tmp 139) (.tmp 141) 26 (by rw [← Option.some.inj ho]) 3 j0 _ 8 Try.underlying26 hj0 hy0 hy1 hy2 rfl (v 5) zs .i64 _ [(u : Int)] hsp 0 rfl (hsp.rdInts 1 rfl) e1' e2' (by simp [maxLen]; omega) (by simp; omega)
                    refine outR_of hr' ⟨?_, hF.more _ _ (by intro q; first | rfl | (exfalso; omega)) (by intro q; first | rfl | (exfalso; omega)) (by intro q; first | rfl | (exfalso; omega)) (by intro q; first | rfl | (exfalso; omega)) (by intro q; first | rfl | (exfalso; omega))⟩
                    have e : lsT zs u (tL b0 #[.int .i64 N, .slice a es.length c] (some ⟨gd, od, none⟩) ab cd cb N D B) (Mix3.more dn 8) (Mix3.updV v 8 v') = intsT .i64 3 v' (zs ++ [(u : Int)]) :: tL b0 #[.int .i64 N, .slice a es.length c] (some ⟨gd, od, none⟩) ab cd cb N D B := by
                      simp [lsT, lsP, Mix3.more, Mix3.updV, d5, d7]
                    rw [e]
                    exact hs2.drop1
                case hfin =>
                  clear n0 n1
                  intro v W hJ
                  obtain ⟨hsp, hF⟩ := hJ
                  have q0 := hF.f0 rfl
                  have q1 := hF.f1 rfl
                  have q2 := hF.f2 rfl
                  have q4 := hF.f4 rfl
                  have q6 := hF.f6 rfl
                  replace hsp : Sep w W (intsT .i64 3 (v 8) (zs ++ [(u : Int)]) :: tL b0 #[.int .i64 N, .slice a es.length c] (some ⟨gd, od, none⟩) ab cd cb N D B) := hsp
                  refine ⟨fun _ => True, trivial, ?_⟩
                  simp only [Mix3.actD, Mix3.apD, q0, q1, q2, q4, q6, Nat.zero_add, Nat.reduceAdd, show ∀ a b, Nat.blt a b = decide (a < b) from fun a b => by rw [Bool.eq_iff_iff, Nat.blt_eq, decide_eq_true_eq], Nat.reduceLT, decide_true, decide_false, if_true, Bool.false_eq_true, if_false, List.setIfInBounds_toArray, List.set_cons_zero, List.set_cons_succ]
                  clear q0 q1 q2 q4 q6 hF hs
                  generalize v 8 = y8 at hsp ⊢
                  generalize v 3 = y3
                  generalize v 5 = y5
                  generalize v 7 = y7
                  clear v
                  have HF2 := Lib.hid (show fromB N (zs ++ [(u : Int)]) = true by
                    have := HFB.out
                    simp only [fromB, Bool.and_eq_true, List.all_append, List.all_cons, List.all_nil, Bool.and_true] at this ⊢
                    exact ⟨⟨this.1, nodeI_iff.2 ⟨by omega, by omega⟩⟩, by simp⟩)
                  simp only [List.zip_cons_cons, List.zip_nil_right, List.drop_succ_cons, List.drop_zero]
                  refine Mix.step2n (by first | rfl | simp [Region.wanted, yielded]) fun K hK => ?_
                  go_wp2_with fail
                  refine (ways_any _ a c es _ _ _ fl pot (zs ++ [(u : Int)]) _ (hsp.rdG h) (hsp.rd hf) (hsp.rd hp) (hsp.rdInts 0 rfl) (by simp; omega)).mono ?_
                  intro en w6 hP
                  rcases hP with ⟨HF0, _, _⟩ | ⟨_, D2, B2, vd2, vb2, hws2, rfl, k1⟩
                  · exfalso
                    rw [HFIT.out, Int.toNat_natCast, HF2.out] at HF0
                    cases HF0
                  obtain ⟨ad2, cd2, rfl⟩ := (k1.rdInts 0 rfl).shape
                  obtain ⟨ab2, cb2, rfl⟩ := (k1.rdInts 1 rfl).shape
                  rw [Int.toNat_natCast] at hws2
                  rw [hws2.lD, hws2.lB] at k1 ⊢
                  have hs6 := hsp.join k1
                  clear hsp k1
                  simp only [List.cons_append, List.nil_append] at hs6
                  obtain ⟨g2, o2, eq2, _, _⟩ := (hs6.rdInts 0 rfl).at 0 (by rw [hws2.lD]; omega)
                  subst eq2
                  obtain ⟨H2, hwh2⟩ := hws2.wh (by omega)
                  have HWH2 := Lib.hid hwh2
                  have HLD2 := Lib.hid hws2.lD
                  have HMORE := Lib.hid (fun v (hv : v < N) (h0 : 0 ≤ g D v) => HWS.out.more hws2 (fun s hs => by
                    unfold fromN at hs ⊢
                    rw [List.map_append]
                    exact List.mem_append_left _ hs) hv h0)
                  clear hws2 hwh2
                  go_wp2_with fail
                  refine Mix.post_mk (C := (fun _ => True)) trivial (hK _ _ ?_)
                  clear hK K
                  iterate 7 (refine Mix.step0 fun K hK => ?_; go_simp; (try (go_bits; try go_simp)); first | ((with_reducible refine hK _ _ ?_); clear hK K) | ((try (simp only [IntWalk.iteOmega]; try go_simp)); (try go_bits); (with_reducible refine hK _ _ ?_); clear hK K))
                  refine Mix.done ?_
                  have hs := hs6
                  clear hs6
                  have n0 := cell_of (hs.cells 5 rfl) 0
                  have n1 := cell_of (hs.cells 5 rfl) 1
                  simp only [List.getElem?_toArray, List.getElem?_cons_zero, List.getElem?_cons_succ] at n0 n1
                  obtain ⟨_, _, eqz, _, x1⟩ := ((hs.rdInts 0 rfl)).at u (by rw [HLD2.out]; exact hu)
                  injection eqz with eqz
                  injection eqz with eqz eqo
                  subst eqz
                  subst eqo
                  rw [show D2.getD u 0 = 0 from (HWH2.out.src_ u hu (by unfold fromN; rw [List.map_append]; exact List.mem_append_right _ (by simp))).1] at x1
                  have huI : (u : Int) < N := by omega
                  go_wp2_with fail
                  clear x1 n0 n1
                  refine wp_loopM [none, none, none, none, none, none, none, none, none, none, some 10, none, none, none, none, none, none, none, none, none, none, none, some 22, none, none, none, none, none, none, none, none, none, none, none, none, none, none, none, none, none, none, none, none, none, none, none, none, none, none, none, none, none, none, none, none, none, none, none, none, none, none, none, none, none, none, none, none, none, none, none, none, none, none, none, none, none, none, none, none, none, none, none, none, none, none, none, none, none, none, none, none, none, none, none, none, none, none, none, none, none, none, none, none, none, none, none, none, none, none, none, none, none, none, none, none, none, none, none, none, none, none, none, none, none, none, none, none, none, none, none, none, none, none, none, none, none, none, none, none, none, none, none, none, none, none, none, none, none, none, none, none, none, none, none, none, none, none, none, none, none, none, none, none, some 163, some 164, some 165, some 166, some 167, some 168, some 169, some 170, some 171, some 172, some 173, some 174, some 175, some 176, some 177, some 178, some 179, some 180, some 181, some 182, some 183, some 184, some 185, some 186, some 187, some 188, some 189, some 190, some 191, none] (fun (r : Nat) (f : Nat → Value) (wr : World) => (fun (v : Value) => ∃ k : Nat, v = .int .i64 k ∧ k ≤ N ∧ r = N - k ∧ Sep w wr (intsT .i64 2 (.slice (some ⟨g2, o2, none⟩) N cd2) D2 :: intsT .i64 3 (.slice ab2 N cb2) B2 :: intsT .i64 3 y8 (zs ++ [(u : Int)]) :: tL b0 #[.int .i64 N, .slice a es.length c] (some ⟨gd, od, none⟩) ab cd cb N D B)) (f 22)) (N) (by kernel_rfl) ?atStart7 ?round7
                  case' atStart7 => (try dsimp only [nthV])
                  case' round7 =>
                    intro gk f wr l hl hrel J3 K3 hJ3 hK3
                    (try simp only [mask] at hl)
                    generalize f 22 = u22 at hl hrel
                    subst hl
                    (try dsimp only at hrel)
                  case atStart7 => exact ⟨0, rfl, Nat.zero_le _, rfl, hs⟩
                  case round7 =>
                    clear hs
                    obtain ⟨k, rfl, hk, rfl, hs⟩ := hrel
                    have n0 := cell_of (hs.cells 5 rfl) 0
                    have n1 := cell_of (hs.cells 5 rfl) 1
                    simp only [List.getElem?_toArray, List.getElem?_cons_zero, List.getElem?_cons_succ] at n0 n1
                    by_cases hkt : k < N
                    · obtain ⟨_, _, eqz, _, x1⟩ := ((hs.rdInts 0 rfl)).at k (by rw [HLD2.out]; exact hkt)
                      injection eqz with eqz
                      injection eqz with eqz eqo
                      subst eqz
                      subst eqo
                      obtain ⟨_, _, eqz, _, x2⟩ := ((hs.rdInts 3 rfl)).at k (by rw [HLD.out.1]; exact hkt)
                      injection eqz with eqz
                      injection eqz with eqz eqo
                      subst eqz
                      subst eqo
                      have hmr := HMORE.out k hkt
                      obtain ⟨x, hx⟩ : ∃ x, x = g D k := ⟨_, rfl⟩
                      obtain ⟨y, hy⟩ : ∃ y, y = g D2 k := ⟨_, rfl⟩
                      rw [show D2.getD k 0 = y from hy.symm] at x1
                      rw [show D.getD k 0 = x from hx.symm] at x2
                      rw [← hx, ← hy] at hmr
                      clear hx hy
                      by_cases hx0 : 0 ≤ x
                      · have d3 : decide (0 ≤ x) = true := decide_eq_true hx0
                        obtain ⟨m1, m2⟩ := hmr hx0
                        have d4 : decide (y < 0) = false := decide_eq_false (by omega)
                        have d5 : decide (x < y) = false := decide_eq_false (by omega)
                        clear hx0 hmr m1 m2
                        go_wp2_with fail
                        refine Mix.region [0, 0, 0, 0, 0, 0, 0, 0, 0, 0, 0, 0, 0, 0, 0, 0, 0, 0, 0, 0, 0, 0, 0] (fun _ => True) (by kernel_rfl) (by kernel_rfl) trivial ?_
                        simp only [List.zip_cons_cons, List.zip_nil_right]
                        iterate 6 (refine Mix.step0 fun K hK => ?_; go_simp; (try (go_bits; try go_simp)); first | ((with_reducible refine hK _ _ ?_); clear hK K) | ((try (simp only [IntWalk.iteOmega]; try go_simp)); (try go_bits); (with_reducible refine hK _ _ ?_); clear hK K))
                        iterate 16 (first | (refine Mix.stepS rfl fun K hK => ?_; go_simp; (with_reducible refine hK _ _ ?_); clear hK K) | (refine Mix.step0 fun K hK => ?_; go_simp; (try (go_bits; try go_simp)); first | ((with_reducible refine hK _ _ ?_); clear hK K) | ((try (simp only [IntWalk.iteOmega]; try go_simp)); (try go_bits); (with_reducible refine hK _ _ ?_); clear hK K)))
                        iterate 1 (refine Mix.step0 fun K hK => ?_; go_simp; (try (go_bits; try go_simp)); first | ((with_reducible refine hK _ _ ?_); clear hK K) | ((try (simp only [IntWalk.iteOmega]; try go_simp)); (try go_bits); (with_reducible refine hK _ _ ?_); clear hK K))
                        refine Mix.done ?_
                        go_wp2_with fail
                        refine Round.intro (N - (k + 1)) ?measure8 (by kernel_rfl) (hJ3 _ _ _ ?rel8)
                        case' rel8 => (try dsimp only [nthV])
                        case measure8 => omega
                        case rel8 => exact ⟨k + 1, by go_num, hkt, rfl, hs.drew⟩
                      · have d3 : decide (0 ≤ x) = false := decide_eq_false hx0
                        clear hx0 hmr
                        go_wp2_with fail
                        refine Mix.region [0, 0, 0, 0, 0, 0, 0, 0, 0, 0, 0, 0, 0, 0, 0, 0, 0, 0, 0, 0, 0, 0, 0] (fun _ => True) (by kernel_rfl) (by kernel_rfl) trivial ?_
                        simp only [List.zip_cons_cons, List.zip_nil_right]
                        iterate 6 (refine Mix.step0 fun K hK => ?_; go_simp; (try (go_bits; try go_simp)); first | ((with_reducible refine hK _ _ ?_); clear hK K) | ((try (simp only [IntWalk.iteOmega]; try go_simp)); (try go_bits); (with_reducible refine hK _ _ ?_); clear hK K))
                        iterate 16 (first | (refine Mix.stepS rfl fun K hK => ?_; go_simp; (with_reducible refine hK _ _ ?_); clear hK K) | (refine Mix.step0 fun K hK => ?_; go_simp; (try (go_bits; try go_simp)); first | ((with_reducible refine hK _ _ ?_); clear hK K) | ((try (simp only [IntWalk.iteOmega]; try go_simp)); (try go_bits); (with_reducible refine hK _ _ ?_); clear hK K)))
                        iterate 1 (refine Mix.step0 fun K hK => ?_; go_simp; (try (go_bits; try go_simp)); first | ((with_reducible refine hK _ _ ?_); clear hK K) | ((try (simp only [IntWalk.iteOmega]; try go_simp)); (try go_bits); (with_reducible refine hK _ _ ?_); clear hK K))
                        refine Mix.done ?_
                        go_wp2_with fail
                        refine Round.intro (N - (k + 1)) ?measure9 (by kernel_rfl) (hJ3 _ _ _ ?rel9)
                        case' rel9 => (try dsimp only [nthV])
                        case measure9 => omega
                        case rel9 => exact ⟨k + 1, by go_num, hkt, rfl, hs.drew⟩
                    · obtain rfl : k = N := by omega
                      go_wp2_with fail
                      go_wp2_with fail
                      refine (pworks_any _).mono ?_
                      rintro en wz ⟨rfl, hb⟩
                      go_wp2_with fail
                      go_ret
                      exact ⟨rfl, (hs.belowStep hb).below⟩
end Go.Proofs.Ytfafecgnjjkagaa
