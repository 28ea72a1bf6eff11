/-
  PathsRaise, walked.
-/
import Derived.Test.YtfafecgnjjkagaaPTightW
import Derived.Test.YtfafecgnjjkagaaRA
namespace Go.Proofs.Ytfafecgnjjkagaa
open Go Go.RowKit Go.Mem Go.NetP Go.RestP Go.CertP Go.PathP Go.Shelf
/-- What lies there while the law looks at what it raised. -/
def uL (gu N cu : Nat) (U : List Int) (b0 : Nat) (cs : Array Value) (ad ab : Option Addr) (cd cb : Nat) (D B : List Int) : List Thing :=
  intsT .i64 2 (.slice (some ⟨gu, 0, none⟩) N cu) U :: tL b0 cs ad ab cd cb N D B
set_option maxRecDepth 100000 in
set_option maxHeartbeats 6000000 in
theorem pathsRaise_any (n : Int) (a : Option Addr) (c : Nat) (es : List Ed) (vf : Value) (fl : List Int) (vp : Value) (pot : List Int) (vz : Value) (zs : List Int) (w : World) (h : RdG edR w (.slice a es.length c) es) (hf : Rd .i64 w vf fl) (hp : Rd .i64 w vp pot) (hz : Rd .i64 w vz zs) :
    Calls Try.prog 4 #[.agg #[.int .i64 n, .slice a es.length c], vf, vp, vz] w fun en w' => en = .returned (.bool true) ∧ Below w.heap.size w w' := by
  have hlf := hf.le'
  have hlz := hz.le'
  obtain ⟨i0, hi0, hz0, hz1, hz2⟩ := info_parts Try.infoI64w
  obtain ⟨af, cf, rfl⟩ := hf.shape
  obtain ⟨ap, cp, rfl⟩ := hp.shape
  obtain ⟨az, cz, rfl⟩ := hz.shape
  have hs := (Sep.start w).newCells #[.int .i64 n, .slice a es.length c] 24
  by_cases h1 : fewN n es.length = false
  · have HF := Lib.hid h1
    clear h1
    go_enter Try.func4, Try.ntmps4
    go_wp2_with fail
    refine (few_any n a es.length c _ h.le').mono ?_
    rintro en w1 ⟨rfl, hb⟩
    rw [HF.out]
    replace hs := hs.belowStep hb
    clear hb
    have n0 := cell_of (hs.cells 0 rfl) 0
    have n1 := cell_of (hs.cells 0 rfl) 1
    simp only [List.getElem?_toArray, List.getElem?_cons_zero, List.getElem?_cons_succ] at n0 n1
    go_wp2_with fail
    refine (pworks_any _).mono ?_
    rintro en wz ⟨rfl, hb⟩
    go_wp2_with fail
    go_ret
    exact ⟨rfl, (hs.belowStep hb).below⟩
  have HF := Lib.hid (show fewN n es.length = true by simpa using h1)
  clear h1
  by_cases h2 : 100 < zs.length
  · have d2 : decide (100 < (zs.length : Int)) = true := decide_eq_true (by omega)
    go_enter Try.func4, Try.ntmps4
    go_wp2_with fail
    refine (few_any n a es.length c _ h.le').mono ?_
    rintro en w1 ⟨rfl, hb⟩
    rw [HF.out]
    replace hs := hs.belowStep hb
    clear hb
    have n0 := cell_of (hs.cells 0 rfl) 0
    have n1 := cell_of (hs.cells 0 rfl) 1
    simp only [List.getElem?_toArray, List.getElem?_cons_zero, List.getElem?_cons_succ] at n0 n1
    go_wp2_with fail
    refine (pworks_any _).mono ?_
    rintro en wz ⟨rfl, hb⟩
    go_wp2_with fail
    go_ret
    exact ⟨rfl, (hs.belowStep hb).below⟩
  have d2 : decide (100 < (zs.length : Int)) = false := decide_eq_false (by omega)
  cases hfit : fitsB n es fl pot
  · have HFIT := Lib.hid hfit
    clear h2 hfit
    go_enter Try.func4, Try.ntmps4
    go_wp2_with fail
    refine (few_any n a es.length c _ h.le').mono ?_
    rintro en w1 ⟨rfl, hb⟩
    rw [HF.out]
    replace hs := hs.belowStep hb
    clear hb
    have n0 := cell_of (hs.cells 0 rfl) 0
    have n1 := cell_of (hs.cells 0 rfl) 1
    simp only [List.getElem?_toArray, List.getElem?_cons_zero, List.getElem?_cons_succ] at n0 n1
    go_wp2_with fail
    refine (rfits_any n a c es _ fl _ pot _ (hs.rdG h) (hs.rd hf) (hs.rd hp)).mono ?_
    rintro en w2 ⟨rfl, hb⟩
    rw [HFIT.out]
    clear n0 n1
    replace hs := hs.belowStep hb
    clear hb
    go_wp2_with fail
    refine (pworks_any _).mono ?_
    rintro en wz ⟨rfl, hb⟩
    go_wp2_with fail
    go_ret
    exact ⟨rfl, (hs.belowStep hb).below⟩
  have HFIT := Lib.hid hfit
  clear hfit
  go_enter Try.func4, Try.ntmps4
  go_wp2_with fail
  refine (few_any n a es.length c _ h.le').mono ?_
  rintro en w1 ⟨rfl, hb⟩
  rw [HF.out]
  replace hs := hs.belowStep hb
  clear hb
  have n0 := cell_of (hs.cells 0 rfl) 0
  have n1 := cell_of (hs.cells 0 rfl) 1
  simp only [List.getElem?_toArray, List.getElem?_cons_zero, List.getElem?_cons_succ] at n0 n1
  go_wp2_with fail
  refine (rfits_any n a c es _ fl _ pot _ (hs.rdG h) (hs.rd hf) (hs.rd hp)).mono ?_
  rintro en w2 ⟨rfl, hb⟩
  rw [HFIT.out]
  clear n0 n1
  replace hs := hs.belowStep hb
  clear hb
  have n0 := cell_of (hs.cells 0 rfl) 0
  have n1 := cell_of (hs.cells 0 rfl) 1
  simp only [List.getElem?_toArray, List.getElem?_cons_zero, List.getElem?_cons_succ] at n0 n1
  go_wp2_with fail
  refine (ways_any n a c es _ _ _ fl pot zs _ (hs.rdG h) (hs.rd hf) (hs.rd hp) (hs.rd hz) (by omega)).mono ?_
  intro en w3 hP
  rcases hP with ⟨_, rfl, hb⟩ | ⟨HT, D, B, vd, vb, hws, rfl, k1⟩
  · clear n0 n1
    replace hs := hs.belowStep hb
    clear hb
    go_wp2_with fail
    refine (pworks_any _).mono ?_
    rintro en wz ⟨rfl, hb⟩
    go_wp2_with fail
    go_ret
    exact ⟨rfl, (hs.belowStep hb).below⟩
  · simp only [Bool.and_eq_true] at HT
    obtain ⟨hfit, hfrom⟩ := HT
    obtain ⟨hw, hr, hp', _⟩ := fits_parts hfit
    obtain ⟨hn1, hn40, hes, _, _⟩ := right_cap hr
    obtain ⟨N, rfl⟩ : ∃ N : Nat, n = N := ⟨n.toNat, by omega⟩
    rw [Int.toNat_natCast] at hws hfrom
    obtain ⟨H, hwh⟩ := hws.wh (by omega)
    obtain ⟨ad, cd, rfl⟩ := (k1.rdInts 0 rfl).shape
    obtain ⟨ab, cb, rfl⟩ := (k1.rdInts 1 rfl).shape
    rw [hws.lD, hws.lB] at k1 ⊢
    obtain ⟨gd, od, eq0, _, _⟩ := (k1.rdInts 0 rfl).at 0 (by rw [hws.lD]; omega)
    subst eq0
    obtain ⟨gb, ob, eq0, _, _⟩ := (k1.rdInts 1 rfl).at 0 (by rw [hws.lB]; omega)
    subst eq0
    obtain ⟨b0, hb0⟩ : ∃ b0, b0 = w.heap.size := ⟨_, rfl⟩
    rw [← hb0] at hs ⊢
    clear hb0 n0 n1
    replace hs : Sep w w3 (tL b0 #[.int .i64 N, .slice a es.length c] (some ⟨gd, od, none⟩) (some ⟨gb, ob, none⟩) cd cb N D B) := hs.join k1
    clear k1
    have HWH := Lib.hid hwh
    have HWS := Lib.hid hws
    have HMX := Lib.hid (fun v (hv : v < N) => hws.dmax hfit hwh hv)
    have HARC := Lib.hid (fun m (hm : m < 2 * es.length) => arc_at hfit hm)
    have HMEM := Lib.hid (fun (x : Ar) => (arcs_mem (es := es) (fl := fl) (pot := pot) (m := 2 * es.length) (a := x)).1)
    have HR := Lib.hid hr
    have HLD := Lib.hid (show D.length = N ∧ B.length = N from ⟨hws.lD, hws.lB⟩)
    have HPL := Lib.hid (show pot.length = N from (pot_at hfit).1)
    have HPB := Lib.hid (show ∀ u : Nat, -1099511627776 ≤ g pot u ∧ g pot u ≤ 1099511627776 from (pot_at hfit).2)
    have e1 : ((N : Int) != (N : Int)) = false := by simp
    have hN : N ≤ 40 := by omega
    have hN1 : 1 ≤ N := by omega
    have hfe : fl.length = es.length := by simp only [withinB, Bool.and_eq_true, decide_eq_true_eq] at hw; omega
    have HFE := Lib.hid hfe
    have hf200 : fl.length ≤ 200 := by omega
    clear hwh hws hfit hfrom hw hr hp' d2 hn1 hn40 hfe
    have n0 := cell_of (hs.cells 2 rfl) 0
    have n1 := cell_of (hs.cells 2 rfl) 1
    simp only [List.getElem?_toArray, List.getElem?_cons_zero, List.getElem?_cons_succ] at n0 n1
    go_wp2_with fail
    clear n0 n1
    refine wp_loopM [none, none, none, none, none, none, none, none, some 8, none, none, none, some 12, some 13, none, none, none, none, none, none, none, none, none, none, none, none, none, none, none, none, none, none, none, none, none, none, none, none, none, none, none, none, none, none, none, none, none, none, none, none, none, none, none, none, none, none, none, none, none, none, none, none, some 62, some 63, some 64, some 65, some 66, some 67, some 68, some 69, some 70, some 71, some 72, some 73, some 74, some 75, some 76, some 77, some 78, some 79, some 80, some 81, some 82, some 83, some 84, some 85, some 86, none, none, none, none, none, none, none, none, none, none, none, none, none, none, none, none, none, none, none, none, none, none, none, none, none, none, none, none, none, none, none, none, none, none, none, none, none, none, none, none, none, none, none, none, none, none, none, none, none, none, none, none, none, none, none, none, none, none, none, none, none, none, none, none, none, none, none, none, none, none, none, none, none, none, none, none, none, none, none, none, none, none, none, none, none, none, none, none, none, none, none, none, none, none, none, none, none, none, none, none, none, none, none, none, none, none, none, none, none, none, none, none, none, none, none, none, none, none, none, none, none, none, none, none] (fun (r : Nat) (f : Nat → Value) (wr : World) => (fun (vm v : Value) => ∃ i : Nat, vm = .int .i64 (mostN D i) ∧ v = .int .i64 i ∧ i ≤ N ∧ r = N - i ∧ Hid (∀ u, u < i → -1073741824 ≤ g pot u ∧ g pot u ≤ 1073741824) ∧ Sep w wr (tL b0 #[.int .i64 N, .slice a es.length c] (some ⟨gd, od, none⟩) (some ⟨gb, ob, none⟩) cd cb N D B)) (f 12) (f 13)) (N) (by kernel_rfl) ?atStart1 ?round1
    case' atStart1 => (try dsimp only [nthV])
    case' round1 =>
      intro gk f wr l hl hrel J1 K1 hJ1 hK1
      (try simp only [mask] at hl)
      generalize f 12 = u12 at hl hrel
      generalize f 13 = u13 at hl hrel
      subst hl
      (try dsimp only at hrel)
    case atStart1 => exact ⟨0, rfl, rfl, Nat.zero_le _, rfl, Lib.hid (fun u hu => by omega), hs⟩
    case round1 =>
      clear hs
      obtain ⟨i, rfl, rfl, hi, rfl, HSM, hs⟩ := hrel
      have n0 := cell_of (hs.cells 2 rfl) 0
      have n1 := cell_of (hs.cells 2 rfl) 1
      simp only [List.getElem?_toArray, List.getElem?_cons_zero, List.getElem?_cons_succ] at n0 n1
      by_cases hlt : i < N
      · obtain ⟨_, _, eqz, _, x1⟩ := ((hs.rdInts 0 rfl)).at i (by rw [HLD.out.1]; exact hlt)
        injection eqz with eqz
        injection eqz with eqz eqo
        subst eqz
        subst eqo
        obtain ⟨gx2, ox2, eqx2, _, x2⟩ := ((hs.rd hp)).at i (by rw [HPL.out]; exact hlt)
        subst eqx2
        have hpl := HPL.out
        have hip : (i : Int) < pot.length := by omega
        have hm1 := mostN_succ (D := D) (k := i) (by rw [HLD.out.1]; exact hlt)
        obtain ⟨x, hx⟩ : ∃ x, x = g D i := ⟨_, rfl⟩
        rw [show D.getD i 0 = x from hx.symm] at x1
        rw [← hx] at hm1
        obtain ⟨p, hpp⟩ : ∃ p, p = g pot i := ⟨_, rfl⟩
        rw [show pot.getD i 0 = p from hpp.symm] at x2
        have HPP := Lib.hid hpp
        obtain ⟨m, hmm⟩ : ∃ m, m = mostN D i := ⟨_, rfl⟩
        rw [← hmm] at hm1 ⊢
        have HM1 := Lib.hid hm1
        clear hpl hx hpp hm1 hmm
        by_cases hb1 : 1073741824 < p
        · have d1 : decide (1073741824 < p) = true := decide_eq_true hb1
          clear hb1
          by_cases hmx : 0 ≤ m - x
          · go_wp2_with fail
            refine (pworks_any _).mono ?_
            rintro en wz ⟨rfl, hb⟩
            go_wp2_with fail
            go_ret
            exact ⟨rfl, (hs.belowStep hb).below⟩
          · go_wp2_with fail
            refine (pworks_any _).mono ?_
            rintro en wz ⟨rfl, hb⟩
            go_wp2_with fail
            go_ret
            exact ⟨rfl, (hs.belowStep hb).below⟩
        · have d1 : decide (1073741824 < p) = false := decide_eq_false hb1
          by_cases hb2 : p < -1073741824
          · have d3 : decide (p < -1073741824) = true := decide_eq_true hb2
            clear hb1 hb2
            by_cases hmx : 0 ≤ m - x
            · go_wp2_with fail
              refine (pworks_any _).mono ?_
              rintro en wz ⟨rfl, hb⟩
              go_wp2_with fail
              go_ret
              exact ⟨rfl, (hs.belowStep hb).below⟩
            · go_wp2_with fail
              refine (pworks_any _).mono ?_
              rintro en wz ⟨rfl, hb⟩
              go_wp2_with fail
              go_ret
              exact ⟨rfl, (hs.belowStep hb).below⟩
          · have d3 : decide (p < -1073741824) = false := decide_eq_false hb2
            have HSM2 := Lib.hid (show ∀ u, u < i + 1 → -1073741824 ≤ g pot u ∧ g pot u ≤ 1073741824 from fun u hu => by
              by_cases e : u = i
              · subst e; rw [← HPP.out]; omega
              · exact HSM.out u (by omega))
            clear hb1 hb2
            by_cases hmx : 0 ≤ m - x
            · have HE := Lib.hid (show m = mostN D (i + 1) by rw [HM1.out]; omega)
              go_wp2_with fail
              refine Round.intro (N - (i + 1)) ?measure2 (by kernel_rfl) (hJ1 _ _ _ ?rel2)
              case' rel2 => (try dsimp only [nthV])
              case measure2 => omega
              case rel2 => exact ⟨i + 1, by rw [← HE.out], by go_num, hlt, rfl, HSM2, hs⟩
            · have HE := Lib.hid (show x = mostN D (i + 1) by rw [HM1.out]; omega)
              go_wp2_with fail
              refine Round.intro (N - (i + 1)) ?measure3 (by kernel_rfl) (hJ1 _ _ _ ?rel3)
              case' rel3 => (try dsimp only [nthV])
              case measure3 => omega
              case rel3 => exact ⟨i + 1, by rw [← HE.out], by go_num, hlt, rfl, HSM2, hs⟩
      · obtain rfl : i = N := by omega
        have HRF := Lib.hid (raise_fits HFIT.out HSM.out HWS.out rfl)
        have HMB := Lib.hid (show 0 ≤ mostN D i ∧ mostN D i ≤ 85761907376568 ∧ ∀ v, v < i → g D v ≤ mostN D i from by
          obtain ⟨q1, q2⟩ := mostN_le D i (by rw [HLD.out.1]; omega)
          exact ⟨q1, mostN_bound D _ (by omega) (fun v hv => (HMX.out v (by rw [← HLD.out.1]; exact hv)).2) i (by rw [HLD.out.1]; omega), q2⟩)
        obtain ⟨M, hM⟩ : ∃ M, M = mostN D i := ⟨_, rfl⟩
        rw [← hM] at HRF HMB ⊢
        clear hM
        clear hi
        have hsa := hs.litInts .i64 2 [] (by simp [maxLen])
        simp only [List.map_cons, List.map_nil, List.length_cons, List.length_nil, Nat.reduceAdd, World.size_alloc] at hsa
        have hpl := HPL.out
        go_wp2_with (at_builtin; refine wpList_appRd rfl (.tmp 87) (.tmp 88) 25 rfl 2 i0 _ 8 Try.underlying25 hi0 hz0 hz1 hz2 rfl _ [] .i64 _ pot hsa 0 rfl (hsa.rd hp) rfl rfl ?c3 ?c4 ?grow)
        case c3 => (try simp); (try simp only [maxLen]); (try omega)
        case c4 => (try simp); (try simp only [maxLen]); (try omega)
        case grow =>
          intro vo w4 hs2
          (try simp only [List.set_cons_zero, List.nil_append] at hs2)
          clear hs hsa n0 n1
          obtain ⟨gu, cu, rfl, _, _, _⟩ := (hs2.ints 0 rfl).get 0 (by omega)
          rw [hpl] at hs2 ⊢
          replace hs2 : Sep w w4 (uL gu i cu (raiseK pot D M 0) b0 #[.int .i64 i, .slice a es.length c] (some ⟨gd, od, none⟩) (some ⟨gb, ob, none⟩) cd cb D B) := by rw [raiseK_zero]; exact hs2
          clear hpl
          have hs := hs2
          clear hs2
          go_wp2_with fail
          refine wp_loopM [none, none, none, none, none, none, none, none, none, none, none, none, none, none, none, some 15, none, none, none, none, none, none, none, none, none, none, none, none, none, none, none, none, none, none, none, none, none, none, none, none, none, none, none, none, none, none, none, none, none, none, none, none, none, none, none, none, none, none, none, none, none, none, none, none, none, none, none, none, none, none, none, none, none, none, none, none, none, none, none, none, none, none, none, none, none, none, none, none, none, none, some 90, some 91, some 92, some 93, some 94, some 95, some 96, some 97, some 98, some 99, some 100, some 101, some 102, some 103, some 104, some 105, some 106, some 107, some 108, some 109, some 110, some 111, some 112, some 113, some 114, some 115, some 116, some 117, none, none, none, none, none, none, none, none, none, none, none, none, none, none, none, none, none, none, none, none, none, none, none, none, none, none, none, none, none, none, none, none, none, none, none, none, none, none, none, none, none, none, none, none, none, none, none, none, none, none, none, none, none, none, none, none, none, none, none, none, none, none, none, none, none, none, none, none, none, none, none, none, none, none, none, none, none, none, none, none, none, none, none, none, none, none, none, none, none, none, none, none, none] (fun (r : Nat) (f : Nat → Value) (wr : World) => (fun (v : Value) => ∃ k : Nat, v = .int .i64 k ∧ k ≤ i ∧ r = i - k ∧ Sep w wr (uL gu i cu (raiseK pot D M k) b0 #[.int .i64 i, .slice a es.length c] (some ⟨gd, od, none⟩) (some ⟨gb, ob, none⟩) cd cb D B)) (f 15)) (i) (by kernel_rfl) ?atStart4 ?round4
          case' atStart4 => (try dsimp only [nthV])
          case' round4 =>
            intro gk f wr l hl hrel J2 K2 hJ2 hK2
            (try simp only [mask] at hl)
            generalize f 15 = u15 at hl hrel
            subst hl
            (try dsimp only at hrel)
          case atStart4 => exact ⟨0, rfl, Nat.zero_le _, rfl, hs⟩
          case round4 =>
            clear hs
            obtain ⟨k, rfl, hk, rfl, hs⟩ := hrel
            have n0 := cell_of (hs.cells 3 rfl) 0
            have n1 := cell_of (hs.cells 3 rfl) 1
            simp only [List.getElem?_toArray, List.getElem?_cons_zero, List.getElem?_cons_succ] at n0 n1
            by_cases hlt : k < i
            · obtain ⟨_, _, eqz, _, x1⟩ := ((hs.rdInts 1 rfl)).at k (by rw [HLD.out.1]; exact hlt)
              injection eqz with eqz
              injection eqz with eqz eqo
              subst eqz
              subst eqo
              obtain ⟨g', cg', eg, _, hcR, hfz⟩ := (hs.ints 0 rfl).get k (by rw [raiseK_len, HPL.out]; exact hlt)
              injection eg with eg q1 q2
              injection eg with eg
              injection eg with eg
              subst eg
              have x2 := hcR k (by rw [raiseK_len, HPL.out]; exact hlt)
              clear q1 q2 hcR
              rw [show (raiseK pot D M k).getD k 0 = g pot k by
                have := raiseK_at (pot := pot) (D := D) (m := M) (k := k) (v := k) (by rw [HPL.out]; exact hlt)
                rw [if_neg (by omega)] at this
                exact this] at x2
              obtain ⟨p1, p2⟩ := HSM.out k hlt
              obtain ⟨m1, m2⟩ := HMX.out k hlt
              obtain ⟨mm1, mm2, _⟩ := HMB.out
              have HRS := Lib.hid (raiseK_succ (pot := pot) (D := D) (m := M) (k := k) (by rw [HPL.out]; exact hlt))
              obtain ⟨x, hx⟩ : ∃ x, x = g D k := ⟨_, rfl⟩
              rw [show D.getD k 0 = x from hx.symm] at x1
              obtain ⟨p, hpp⟩ : ∃ p, p = g pot k := ⟨_, rfl⟩
              have HRV := Lib.hid (show raise pot D M k = p + if x < 0 then M else x by unfold raise; rw [← hx, ← hpp])
              rw [← hx] at m1 m2
              rw [← hpp] at p1 p2 x2
              clear hx hpp
              by_cases hx0 : x < 0
              · have d1 : decide (x < 0) = true := decide_eq_true hx0
                have HV := Lib.hid (show (raiseK pot D M k).set k (p + M) = raiseK pot D M (k + 1) by rw [← HRS.out, HRV.out, if_pos hx0])
                clear hx0
                go_wp2_with fail
                have hs2 := hs.setInts (j := k) 0 rfl (p + M)
                clear hs x1 x2 hfz n0 n1
                refine Round.intro (i - (k + 1)) ?measure5 (by kernel_rfl) (hJ2 _ _ _ ?rel5)
                case' rel5 => (try dsimp only [nthV])
                case measure5 => omega
                case rel5 => exact ⟨k + 1, by go_num, hlt, rfl, by rw [← HV.out]; exact hs2⟩
              · have d1 : decide (x < 0) = false := decide_eq_false hx0
                have HV := Lib.hid (show (raiseK pot D M k).set k (p + x) = raiseK pot D M (k + 1) by rw [← HRS.out, HRV.out, if_neg hx0])
                clear hx0
                go_wp2_with fail
                refine Mix.region [0, 0, 0, 0, 0, 0, 0, 0, 0, 0, 2] (fun _ => True) (by kernel_rfl) (by kernel_rfl) trivial ?_
                simp only [List.zip_cons_cons, List.zip_nil_right]
                iterate 10 (refine Mix.step0 fun K hK => ?_; go_simp; (try (go_bits; try go_simp)); first | ((with_reducible refine hK _ _ ?_); clear hK K) | ((try (simp only [IntWalk.iteOmega]; try go_simp)); (try go_bits); (with_reducible refine hK _ _ ?_); clear hK K))
                refine Mix.step2n (by first | rfl | simp [Region.wanted, yielded]) fun K hK => ?_
                go_wp2_with fail
                have hs2 := (hs.setInts (j := k) 0 rfl (p + x)).drew
                clear hs x1 x2 hfz n0 n1
                refine Mix.post_mk (C := (fun _ => True)) trivial (hK _ _ ?_)
                clear hK K
                refine Mix.done ?_
                go_wp2_with fail
                refine Round.intro (i - (k + 1)) ?measure6 (by kernel_rfl) (hJ2 _ _ _ ?rel6)
                case' rel6 => (try dsimp only [nthV])
                case measure6 => omega
                case rel6 => exact ⟨k + 1, by go_num, hlt, rfl, by rw [← HV.out]; exact hs2⟩
            · obtain rfl : k = i := by omega
              obtain ⟨UP, hUP⟩ : ∃ UP, UP = raiseK pot D M k := ⟨_, rfl⟩
              rw [← hUP] at hs HRF
              have hupl : UP.length = k := by rw [hUP, raiseK_len, HPL.out]
              have HUL := Lib.hid hupl
              clear hUP hupl
              have HRW := Lib.hid (fits_parts HRF.out.1).2.2.1
              go_wp2_with fail
              refine (rfits_any _ a c es _ fl _ UP _ (hs.rdG h) (hs.rd hf) (by have := hs.rdInts 0 rfl; exact this)).mono ?_
              rintro en w5 ⟨rfl, hb⟩
              rw [HRF.out.1]
              clear n0 n1
              replace hs := hs.belowStep hb
              clear hb
              go_wp2_with fail
              refine wp_loopM [none, none, none, none, none, none, none, none, some 8, none, none, none, none, none, none, none, some 16, some 17, some 18, some 19, some 20, some 21, none, none, none, none, none, none, none, none, none, none, none, none, none, none, none, none, none, none, none, none, none, none, none, none, none, none, none, none, none, none, none, none, none, none, none, none, none, none, none, none, none, none, none, none, none, none, none, none, none, none, none, none, none, none, none, none, none, none, none, none, none, none, none, none, none, none, none, none, none, none, none, none, none, none, none, none, none, none, none, none, none, none, none, none, none, none, none, none, none, none, none, none, none, none, none, none, none, none, none, none, none, some 123, some 124, some 125, some 126, some 127, some 128, some 129, some 130, some 131, some 132, some 133, some 134, some 135, some 136, some 137, some 138, some 139, some 140, some 141, some 142, some 143, some 144, some 145, some 146, some 147, some 148, some 149, some 150, some 151, some 152, some 153, some 154, some 155, some 156, some 157, some 158, some 159, some 160, some 161, some 162, some 163, some 164, some 165, some 166, some 167, some 168, some 169, some 170, some 171, some 172, some 173, some 174, some 175, some 176, some 177, some 178, some 179, some 180, some 181, some 182, some 183, some 184, some 185, some 186, some 187, some 188, some 189, some 190, some 191, some 192, some 193, some 194, some 195, some 196, some 197, some 198, some 199, some 200, some 201, some 202, some 203, some 204, some 205, some 206, some 207, some 208, some 209, none] (fun (r : Nat) (f : Nat → Value) (wr : World) => (fun (v : Value) => ∃ j : Nat, v = .int .i64 j ∧ j ≤ k ∧ r = k - j ∧ Sep w wr (uL gu k cu UP b0 #[.int .i64 k, .slice a es.length c] (some ⟨gd, od, none⟩) (some ⟨gb, ob, none⟩) cd cb D B)) (f 16)) (k) (by kernel_rfl) ?atStart7 ?round7
              case' atStart7 => (try dsimp only [nthV])
              case' round7 =>
                intro gk f wr l hl hrel J3 K3 hJ3 hK3
                (try simp only [mask] at hl)
                generalize f 16 = u16 at hl hrel
                subst hl
                (try dsimp only at hrel)
              case atStart7 => exact ⟨0, rfl, Nat.zero_le _, rfl, hs⟩
              case round7 =>
                clear hs
                obtain ⟨j, rfl, hj, rfl, hs⟩ := hrel
                have n0 := cell_of (hs.cells 3 rfl) 0
                have n1 := cell_of (hs.cells 3 rfl) 1
                simp only [List.getElem?_toArray, List.getElem?_cons_zero, List.getElem?_cons_succ] at n0 n1
                by_cases hjt : j < k
                · clear n1
                  go_wp2_with fail
                  clear n0
                  refine wp_loopM [none, none, none, none, none, none, none, none, some 8, none, none, none, none, none, none, none, none, some 17, some 18, some 19, some 20, some 21, none, none, none, none, none, none, none, none, none, none, none, none, none, none, none, none, none, none, none, none, none, none, none, none, none, none, none, none, none, none, none, none, none, none, none, none, none, none, none, none, none, none, none, none, none, none, none, none, none, none, none, none, none, none, none, none, none, none, none, none, none, none, none, none, none, none, none, none, none, none, none, none, none, none, none, none, none, none, none, none, none, none, none, none, none, none, none, none, none, none, none, none, none, none, none, none, none, none, none, none, none, none, none, none, none, none, none, none, some 130, some 131, some 132, some 133, some 134, some 135, some 136, some 137, some 138, some 139, some 140, some 141, some 142, some 143, some 144, some 145, some 146, some 147, some 148, some 149, some 150, some 151, some 152, some 153, some 154, some 155, some 156, some 157, some 158, some 159, some 160, some 161, some 162, some 163, some 164, some 165, some 166, some 167, some 168, some 169, some 170, some 171, some 172, some 173, some 174, some 175, some 176, some 177, some 178, some 179, some 180, some 181, some 182, some 183, some 184, none, none, none, none, none, none, none, none, none, none, none, none, none, none, none, none, none, none, none, none, none, none, none, none, none, none] (fun (r : Nat) (f : Nat → Value) (wq : World) => (fun (vu v : Value) => ∃ u q : Nat, vu = .int .i64 u ∧ v = .int .i64 q ∧ u < k ∧ r = k - q ∧ Hid (g H u + q = g H j ∧ (g D u < 0 ↔ g D j < 0)) ∧ Sep w wq (uL gu k cu UP b0 #[.int .i64 k, .slice a es.length c] (some ⟨gd, od, none⟩) (some ⟨gb, ob, none⟩) cd cb D B)) (f 17) (f 18)) (k) (by kernel_rfl) ?atStart8 ?round8
                  case' atStart8 => (try dsimp only [nthV])
                  case' round8 =>
                    intro gk f wr l hl hrel J4 K4 hJ4 hK4
                    (try simp only [mask] at hl)
                    generalize f 17 = u17 at hl hrel
                    generalize f 18 = u18 at hl hrel
                    subst hl
                    (try dsimp only at hrel)
                  case atStart8 => exact ⟨j, 0, rfl, rfl, hjt, rfl, Lib.hid ⟨by omega, Iff.rfl⟩, hs⟩
                  case round8 =>
                    clear hs
                    obtain ⟨u, q, rfl, rfl, hu, rfl, HU, hs⟩ := hrel
                    have hqk : q < k := by
                      have h1 := HU.out.1
                      have h2 := HWH.out.hop u hu
                      have h3 := HWH.out.hop j hjt
                      omega
                    have n0 := cell_of (hs.cells 3 rfl) 0
                    have n1 := cell_of (hs.cells 3 rfl) 1
                    simp only [List.getElem?_toArray, List.getElem?_cons_zero, List.getElem?_cons_succ] at n0 n1
                    obtain ⟨_, _, eqz, _, x1⟩ := ((hs.rdInts 2 rfl)).at u (by rw [HLD.out.2]; exact hu)
                    injection eqz with eqz
                    injection eqz with eqz eqo
                    subst eqz
                    subst eqo
                    obtain ⟨b, hbk⟩ : ∃ b, b = g B u := ⟨_, rfl⟩
                    rw [show B.getD u 0 = b from hbk.symm] at x1
                    have HBK := Lib.hid hbk
                    clear hbk
                    have huI : (u : Int) < k := by omega
                    by_cases hb0 : b < 0
                    · have d1 : decide (0 ≤ b) = false := decide_eq_false (by omega)
                      obtain ⟨y0, y1⟩ := HWH.out.none_ u hu (by rw [← HBK.out]; exact hb0)
                      have hiff := HU.out.2
                      obtain ⟨y, hy⟩ : ∃ y, y = g D u := ⟨_, rfl⟩
                      obtain ⟨x, hx⟩ : ∃ x, x = g D j := ⟨_, rfl⟩
                      obtain ⟨_, _, eqz, _, x2⟩ := ((hs.rdInts 1 rfl)).at u (by rw [HLD.out.1]; exact hu)
                      injection eqz with eqz
                      injection eqz with eqz eqo
                      subst eqz
                      subst eqo
                      rw [show D.getD u 0 = y from hy.symm] at x2
                      obtain ⟨_, _, eqz, _, x3⟩ := ((hs.rdInts 1 rfl)).at j (by rw [HLD.out.1]; exact hjt)
                      injection eqz with eqz
                      injection eqz with eqz eqo
                      subst eqz
                      subst eqo
                      rw [show D.getD j 0 = x from hx.symm] at x3
                      rw [← hy] at y0
                      rw [← hy, ← hx] at hiff
                      have d2 : decide (0 < y) = false := decide_eq_false (by omega)
                      clear y1 hy hx
                      by_cases hy1 : y < 0
                      · have d4 : decide (y < 0) = true := decide_eq_true hy1
                        have d5 : decide (x < 0) = true := decide_eq_true (hiff.1 hy1)
                        clear hb0 y0 hiff hy1
                        go_wp2_with fail
                        refine Mix.region [0, 0, 0, 0, 0, 0, 0, 0, 0, 0, 0, 0, 0, 0, 0, 0, 0, 0, 0, 0, 0, 0, 0, 0, 0] (fun _ => True) (by kernel_rfl) (by kernel_rfl) trivial ?_
                        simp only [List.zip_cons_cons, List.zip_nil_right]
                        iterate 6 (refine Mix.step0 fun K hK => ?_; go_simp; (try (go_bits; try go_simp)); first | ((with_reducible refine hK _ _ ?_); clear hK K) | ((try (simp only [IntWalk.iteOmega]; try go_simp)); (try go_bits); (with_reducible refine hK _ _ ?_); clear hK K))
                        iterate 5 (first | (refine Mix.stepS rfl fun K hK => ?_; go_simp; (with_reducible refine hK _ _ ?_); clear hK K) | (refine Mix.step0 fun K hK => ?_; go_simp; (try (go_bits; try go_simp)); first | ((with_reducible refine hK _ _ ?_); clear hK K) | ((try (simp only [IntWalk.iteOmega]; try go_simp)); (try go_bits); (with_reducible refine hK _ _ ?_); clear hK K)))
                        iterate 2 (refine Mix.step0 fun K hK => ?_; go_simp; (try (go_bits; try go_simp)); first | ((with_reducible refine hK _ _ ?_); clear hK K) | ((try (simp only [IntWalk.iteOmega]; try go_simp)); (try go_bits); (with_reducible refine hK _ _ ?_); clear hK K))
                        iterate 11 (first | (refine Mix.stepS rfl fun K hK => ?_; go_simp; (with_reducible refine hK _ _ ?_); clear hK K) | (refine Mix.step0 fun K hK => ?_; go_simp; (try (go_bits; try go_simp)); first | ((with_reducible refine hK _ _ ?_); clear hK K) | ((try (simp only [IntWalk.iteOmega]; try go_simp)); (try go_bits); (with_reducible refine hK _ _ ?_); clear hK K)))
                        iterate 1 (refine Mix.step0 fun K hK => ?_; go_simp; (try (go_bits; try go_simp)); first | ((with_reducible refine hK _ _ ?_); clear hK K) | ((try (simp only [IntWalk.iteOmega]; try go_simp)); (try go_bits); (with_reducible refine hK _ _ ?_); clear hK K))
                        refine Mix.done ?_
                        go_wp2_with fail
                        refine Round.intro (k - (j + 1)) ?measure9 (by kernel_rfl) (hJ3 _ _ _ ?rel9)
                        case' rel9 => (try dsimp only [nthV])
                        case measure9 => omega
                        case rel9 => exact ⟨j + 1, by go_num, hjt, rfl, hs.drew⟩
                      · have d4 : decide (y < 0) = false := decide_eq_false hy1
                        have d5 : decide (x < 0) = false := decide_eq_false (fun q => hy1 (hiff.2 q))
                        clear hb0 y0 hiff hy1
                        go_wp2_with fail
                        refine Mix.region [0, 0, 0, 0, 0, 0, 0, 0, 0, 0, 0, 0, 0, 0, 0, 0, 0, 0, 0, 0, 0, 0, 0, 0, 0] (fun _ => True) (by kernel_rfl) (by kernel_rfl) trivial ?_
                        simp only [List.zip_cons_cons, List.zip_nil_right]
                        iterate 6 (refine Mix.step0 fun K hK => ?_; go_simp; (try (go_bits; try go_simp)); first | ((with_reducible refine hK _ _ ?_); clear hK K) | ((try (simp only [IntWalk.iteOmega]; try go_simp)); (try go_bits); (with_reducible refine hK _ _ ?_); clear hK K))
                        iterate 5 (first | (refine Mix.stepS rfl fun K hK => ?_; go_simp; (with_reducible refine hK _ _ ?_); clear hK K) | (refine Mix.step0 fun K hK => ?_; go_simp; (try (go_bits; try go_simp)); first | ((with_reducible refine hK _ _ ?_); clear hK K) | ((try (simp only [IntWalk.iteOmega]; try go_simp)); (try go_bits); (with_reducible refine hK _ _ ?_); clear hK K)))
                        iterate 2 (refine Mix.step0 fun K hK => ?_; go_simp; (try (go_bits; try go_simp)); first | ((with_reducible refine hK _ _ ?_); clear hK K) | ((try (simp only [IntWalk.iteOmega]; try go_simp)); (try go_bits); (with_reducible refine hK _ _ ?_); clear hK K))
                        iterate 11 (first | (refine Mix.stepS rfl fun K hK => ?_; go_simp; (with_reducible refine hK _ _ ?_); clear hK K) | (refine Mix.step0 fun K hK => ?_; go_simp; (try (go_bits; try go_simp)); first | ((with_reducible refine hK _ _ ?_); clear hK K) | ((try (simp only [IntWalk.iteOmega]; try go_simp)); (try go_bits); (with_reducible refine hK _ _ ?_); clear hK K)))
                        iterate 1 (refine Mix.step0 fun K hK => ?_; go_simp; (try (go_bits; try go_simp)); first | ((with_reducible refine hK _ _ ?_); clear hK K) | ((try (simp only [IntWalk.iteOmega]; try go_simp)); (try go_bits); (with_reducible refine hK _ _ ?_); clear hK K))
                        refine Mix.done ?_
                        go_wp2_with fail
                        refine Round.intro (k - (j + 1)) ?measure10 (by kernel_rfl) (hJ3 _ _ _ ?rel10)
                        case' rel10 => (try dsimp only [nthV])
                        case measure10 => omega
                        case rel10 => exact ⟨j + 1, by go_num, hjt, rfl, hs.drew⟩
                    · have d1 : decide (0 ≤ b) = true := decide_eq_true (by omega)
                      obtain ⟨A, hA, r1, r2, r3, r4, r5, r6⟩ := HWH.out.some_ u hu (by rw [← HBK.out]; omega)
                      have hz0 := HRF.out.2 A hA r3 (by rw [r2]; exact r5)
                      obtain ⟨m, hm, hroom, rfl⟩ := HMEM.out A hA
                      obtain ⟨U, V, C, R, q1, q2, q3, q4, hU, hV, q5, q6, q7, q8, q9, q10⟩ := HARC.out m hm
                      rw [q8] at r1 r2 r3 r5 r6 hz0
                      dsimp only at r1 r2 r3 r5 r6 hz0
                      subst r2
                      rw [← HBK.out] at r1
                      subst r1
                      have HQ1 := Lib.hid q1
                      have HQ2 := Lib.hid q2
                      have hfe := HFE.out
                      have hR : 0 < R := by omega
                      have d2 : decide (2 * (fl.length : Int) ≤ (m : Int)) = false := decide_eq_false (by omega)
                      have d3 : decide (R ≤ 0) = false := decide_eq_false (by omega)
                      have HZ := Lib.hid hz0
                      have HNX := Lib.hid (show g H U + ((q + 1 : Nat) : Int) = g H j ∧ (g D U < 0 ↔ g D j < 0) from by
                        obtain ⟨h1, h2⟩ := HU.out
                        exact ⟨by omega, by omega⟩)
                      have e9 : ((V : Int) != (V : Int)) = false := by simp
                      clear q1 q2 q3 q7 q8 q9 q10 r3 r4 r5 r6 hz0 hA hroom hb0 hfe hR
                      go_wp2_with fail
                      refine Mix.region [0, 0, 0, 0, 0, 0, 0, 0, 0, 0, 0, 0, 0, 0, 0, 2, 0, 0, 0, 0, 0, 0, 0, 0, 0, 2, 0, 0] (fun _ => True) (by kernel_rfl) (by kernel_rfl) trivial ?_
                      simp only [List.zip_cons_cons, List.zip_nil_right]
                      iterate 9 (refine Mix.step0 fun K hK => ?_; go_simp; (try (go_bits; try go_simp)); first | ((with_reducible refine hK _ _ ?_); clear hK K) | ((try (simp only [IntWalk.iteOmega]; try go_simp)); (try go_bits); (with_reducible refine hK _ _ ?_); clear hK K))
                      iterate 6 (first | (refine Mix.stepS rfl fun K hK => ?_; go_simp; (with_reducible refine hK _ _ ?_); clear hK K) | (refine Mix.step0 fun K hK => ?_; go_simp; (try (go_bits; try go_simp)); first | ((with_reducible refine hK _ _ ?_); clear hK K) | ((try (simp only [IntWalk.iteOmega]; try go_simp)); (try go_bits); (with_reducible refine hK _ _ ?_); clear hK K)))
                      refine Mix.step2n (by first | rfl | simp [Region.wanted, yielded]) fun K hK => ?_
                      go_wp2_with fail
                      refine (rroom_any _ a c es _ fl m _ (hs.drew.rdG h) (hs.drew.rd hf) (by omega)).mono ?_
                      rintro en w6 ⟨rfl, hb⟩
                      rw [HQ2.out]
                      clear n0 n1 x1
                      replace hs := hs.drew.belowStep hb
                      clear hb
                      have n0 := cell_of (hs.cells 3 rfl) 0
                      have n1 := cell_of (hs.cells 3 rfl) 1
                      simp only [List.getElem?_toArray, List.getElem?_cons_zero, List.getElem?_cons_succ] at n0 n1
                      obtain ⟨_, _, eqz, _, x1⟩ := ((hs.rdInts 2 rfl)).at V (by rw [HLD.out.2]; exact hV)
                      injection eqz with eqz
                      injection eqz with eqz eqo
                      subst eqz
                      subst eqo
                      rw [show B.getD V 0 = (m : Int) from HBK.out.symm] at x1
                      go_wp2_with fail
                      refine Mix.post_mk (C := (fun _ => True)) trivial (hK _ _ ?_)
                      clear hK K
                      iterate 1 (first | (refine Mix.stepS rfl fun K hK => ?_; go_simp; (with_reducible refine hK _ _ ?_); clear hK K) | (refine Mix.step0 fun K hK => ?_; go_simp; (try (go_bits; try go_simp)); first | ((with_reducible refine hK _ _ ?_); clear hK K) | ((try (simp only [IntWalk.iteOmega]; try go_simp)); (try go_bits); (with_reducible refine hK _ _ ?_); clear hK K)))
                      iterate 2 (refine Mix.step0 fun K hK => ?_; go_simp; (try (go_bits; try go_simp)); first | ((with_reducible refine hK _ _ ?_); clear hK K) | ((try (simp only [IntWalk.iteOmega]; try go_simp)); (try go_bits); (with_reducible refine hK _ _ ?_); clear hK K))
                      iterate 6 (first | (refine Mix.stepS rfl fun K hK => ?_; go_simp; (with_reducible refine hK _ _ ?_); clear hK K) | (refine Mix.step0 fun K hK => ?_; go_simp; (try (go_bits; try go_simp)); first | ((with_reducible refine hK _ _ ?_); clear hK K) | ((try (simp only [IntWalk.iteOmega]; try go_simp)); (try go_bits); (with_reducible refine hK _ _ ?_); clear hK K)))
                      refine Mix.step2n (by first | rfl | simp [Region.wanted, yielded]) fun K hK => ?_
                      go_wp2_with fail
                      refine (rlen_any _ a c es _ UP m _ (hs.rdG h) (hs.rdInts 0 rfl) HR.out hm HRW.out).mono ?_
                      rintro en w7 ⟨rfl, hb⟩
                      rw [HZ.out]
                      clear n0 n1 x1
                      replace hs := hs.belowStep hb
                      clear hb
                      have n0 := cell_of (hs.cells 3 rfl) 0
                      have n1 := cell_of (hs.cells 3 rfl) 1
                      simp only [List.getElem?_toArray, List.getElem?_cons_zero, List.getElem?_cons_succ] at n0 n1
                      obtain ⟨_, _, eqz, _, x1⟩ := ((hs.rdInts 2 rfl)).at V (by rw [HLD.out.2]; exact hV)
                      injection eqz with eqz
                      injection eqz with eqz eqo
                      subst eqz
                      subst eqo
                      rw [show B.getD V 0 = (m : Int) from HBK.out.symm] at x1
                      go_wp2_with fail
                      refine Mix.post_mk (C := (fun _ => True)) trivial (hK _ _ ?_)
                      clear hK K
                      iterate 1 (first | (refine Mix.stepS rfl fun K hK => ?_; go_simp; (with_reducible refine hK _ _ ?_); clear hK K) | (refine Mix.step0 fun K hK => ?_; go_simp; (try (go_bits; try go_simp)); first | ((with_reducible refine hK _ _ ?_); clear hK K) | ((try (simp only [IntWalk.iteOmega]; try go_simp)); (try go_bits); (with_reducible refine hK _ _ ?_); clear hK K)))
                      iterate 1 (refine Mix.step0 fun K hK => ?_; go_simp; (try (go_bits; try go_simp)); first | ((with_reducible refine hK _ _ ?_); clear hK K) | ((try (simp only [IntWalk.iteOmega]; try go_simp)); (try go_bits); (with_reducible refine hK _ _ ?_); clear hK K))
                      refine Mix.done ?_
                      go_wp2_with fail
                      refine Mix.region [0, 0, 0, 0, 0, 2, 0, 0, 0, 0, 0, 0, 0] (fun _ => True) (by kernel_rfl) (by kernel_rfl) trivial ?_
                      simp only [List.zip_cons_cons, List.zip_nil_right]
                      iterate 5 (refine Mix.step0 fun K hK => ?_; go_simp; (try (go_bits; try go_simp)); first | ((with_reducible refine hK _ _ ?_); clear hK K) | ((try (simp only [IntWalk.iteOmega]; try go_simp)); (try go_bits); (with_reducible refine hK _ _ ?_); clear hK K))
                      refine Mix.step2n (by first | rfl | simp [Region.wanted, yielded]) fun K hK => ?_
                      go_wp2_with fail
                      refine (rends_any _ a c es m _ (hs.drew.rdG h) (by omega)).mono ?_
                      rintro en w8 ⟨rfl, hb⟩
                      rw [HQ1.out]
                      clear n0 n1 x1
                      replace hs := hs.drew.belowStep hb
                      clear hb
                      go_wp2_with fail
                      refine Mix.post_mk (C := (fun _ => True)) trivial (hK _ _ ?_)
                      clear hK K
                      iterate 7 (refine Mix.step0 fun K hK => ?_; go_simp; (try (go_bits; try go_simp)); first | ((with_reducible refine hK _ _ ?_); clear hK K) | ((try (simp only [IntWalk.iteOmega]; try go_simp)); (try go_bits); (with_reducible refine hK _ _ ?_); clear hK K))
                      refine Mix.done ?_
                      go_wp2_with fail
                      refine Round.intro (k - (q + 1)) ?measure11 (by kernel_rfl) (hJ4 _ _ _ ?rel11)
                      case' rel11 => (try dsimp only [nthV])
                      case measure11 => omega
                      case rel11 => exact ⟨U, q + 1, rfl, by go_num, hU, rfl, HNX, hs⟩
                · obtain rfl : j = k := by omega
                  go_wp2_with fail
                  go_wp2_with fail
                  refine (pworks_any _).mono ?_
                  rintro en wz ⟨rfl, hb⟩
                  go_wp2_with fail
                  go_ret
                  exact ⟨rfl, (hs.belowStep hb).below⟩
end Go.Proofs.Ytfafecgnjjkagaa
