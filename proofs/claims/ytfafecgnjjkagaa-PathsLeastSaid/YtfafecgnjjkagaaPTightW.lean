/-
  PathsTight, walked.
-/
import Derived.Test.YtfafecgnjjkagaaPWk
import Derived.Test.YtfafecgnjjkagaaRA
namespace Go.PathP
open Go Go.Mem Go.NetP Go.RestP Go.CertP
theorem from_at {n : Nat} {zs : List Int} (h : fromB n zs = true) {k : Nat} (hk : k < zs.length) : ∃ u : Nat, zs.getD k 0 = u ∧ u < n ∧ u ∈ fromN zs := by
  have e : zs.getD k 0 = zs[k] := by rw [List.getD_eq_getElem?_getD, List.getElem?_eq_getElem hk]; rfl
  simp only [fromB, Bool.and_eq_true] at h
  have hm := List.getElem_mem hk
  have := nodeI_iff.1 (List.all_eq_true.1 h.1 _ hm)
  rw [e]
  refine ⟨zs[k].toNat, by omega, by omega, List.mem_map.2 ⟨_, hm, rfl⟩⟩
/-- An arc of what fits, with its numbers. -/
theorem arc_at {N : Nat} {es : List Ed} {fl pot : List Int} (h : fitsB N es fl pot = true) {m : Nat} (hm : m < 2 * es.length) :
    ∃ (U V : Nat) (C R : Int), endsV N es m = ((U : Int), (V : Int), C) ∧ roomV N es fl m = R ∧ roomE es fl m = R ∧ 0 ≤ R ∧ U < N ∧ V < N ∧ -1000 ≤ C ∧ C ≤ 1000 ∧ lenA es pot m = C + g pot U - g pot V ∧ PathP.arcAt es pot m = ⟨m, U, V, C + g pot U - g pot V⟩ ∧ (0 < R → PathP.arcAt es pot m ∈ arcsL es fl pot) ∧ hasB es.length (m : Int) = true := by
  obtain ⟨hw, hr, hp, _⟩ := fits_parts h
  have hh : hasB es.length (m : Int) = true := by rw [hasB_iff]; omega
  obtain ⟨h1, h2, h3, h4⟩ := ends_node hr hm
  have e1 : ((endsE es m).1.toNat : Int) = (endsE es m).1 := by omega
  have e2 : ((endsE es m).2.1.toNat : Int) = (endsE es m).2.1 := by omega
  have hl : lenA es pot m = (endsE es m).2.2 + g pot (endsE es m).1.toNat - g pot (endsE es m).2.1.toNat := rfl
  refine ⟨(endsE es m).1.toNat, (endsE es m).2.1.toNat, (endsE es m).2.2, roomE es fl m, ?_, room_in hw hh, rfl, ?_, by omega, by omega, h3, h4, hl, ?_, fun h0 => arcs_mem.2 ⟨m, hm, h0, rfl⟩, hh⟩
  · rw [ends_in hw hh, e1, e2]
  · exact (room_bound hw hh).1
  · unfold PathP.arcAt; rw [hl]
theorem pot_at {N : Nat} {es : List Ed} {fl pot : List Int} (h : fitsB N es fl pot = true) : pot.length = N ∧ ∀ u : Nat, -1099511627776 ≤ g pot u ∧ g pot u ≤ 1099511627776 := by
  obtain ⟨_, _, hp, _⟩ := fits_parts h
  obtain ⟨h1, h2⟩ := pot_cap hp
  exact ⟨by omega, h2⟩
theorem WS.dmax {N : Nat} {es : List Ed} {fl pot D H B : List Int} {src : Nat → Prop} (h : fitsB N es fl pot = true) (hws : WS (arcsL es fl pot) src N maxL D B) (hh : WH (arcsL es fl pot) src N D H B) {v : Nat} (hv : v < N) : -1 ≤ g D v ∧ g D v ≤ 85761907376568 := by
  have hn := (right_cap (fits_parts h).2.1)
  have := hh.max v hv maxL hws.net.l1 (by unfold maxL; omega)
  have := hh.low v hv
  unfold maxL at *
  omega
end Go.PathP
namespace Go.Proofs.Ytfafecgnjjkagaa
open Go Go.RowKit Go.Mem Go.NetP Go.RestP Go.CertP Go.PathP Go.Shelf
/-- What lies there while the law looks. -/
def tL (b0 : Nat) (cs : Array Value) (ad ab : Option Addr) (cd cb N : Nat) (D B : List Int) : List Thing :=
  [intsT .i64 2 (.slice ad N cd) D, intsT .i64 3 (.slice ab N cb) B, cellsT b0 cs 24]
set_option maxRecDepth 100000 in
set_option maxHeartbeats 6000000 in
theorem pathsTight_any (n : Int) (a : Option Addr) (c : Nat) (es : List Ed) (vf : Value) (fl : List Int) (vp : Value) (pot : List Int) (vz : Value) (zs : List Int) (w : World) (h : RdG edR w (.slice a es.length c) es) (hf : Rd .i64 w vf fl) (hp : Rd .i64 w vp pot) (hz : Rd .i64 w vz zs) :
    Calls Try.prog 6 #[.agg #[.int .i64 n, .slice a es.length c], vf, vp, vz] w fun en w' => en = .returned (.bool true) ∧ Below w.heap.size w w' := by
  have hle := h.le'
  have hlz := hz.le'
  obtain ⟨af, cf, rfl⟩ := hf.shape
  obtain ⟨ap, cp, rfl⟩ := hp.shape
  obtain ⟨az, cz, rfl⟩ := hz.shape
  have hs := (Sep.start w).newCells #[.int .i64 n, .slice a es.length c] 24
  have n0 := cell_of (hs.cells 0 rfl) 0
  have n1 := cell_of (hs.cells 0 rfl) 1
  simp only [List.getElem?_toArray, List.getElem?_cons_zero, List.getElem?_cons_succ] at n0 n1
  by_cases h1 : 40 < n
  · have d1 : decide (40 < n) = true := decide_eq_true h1
    go_enter Try.func6, Try.ntmps6
    go_wp2_with fail
    refine (pworks_any _).mono ?_
    rintro en wz ⟨rfl, hb⟩
    go_wp2_with fail
    go_ret
    exact ⟨rfl, (hs.belowStep hb).below⟩
  have d1 : decide (40 < n) = false := decide_eq_false h1
  by_cases h2 : 100 < es.length
  · have d2 : decide (100 < (es.length : Int)) = true := decide_eq_true (by omega)
    go_enter Try.func6, Try.ntmps6
    go_wp2_with fail
    refine (pworks_any _).mono ?_
    rintro en wz ⟨rfl, hb⟩
    go_wp2_with fail
    go_ret
    exact ⟨rfl, (hs.belowStep hb).below⟩
  have d2 : decide (100 < (es.length : Int)) = false := decide_eq_false (by omega)
  by_cases h3 : 50 < zs.length
  · have d3 : decide (50 < (zs.length : Int)) = true := decide_eq_true (by omega)
    go_enter Try.func6, Try.ntmps6
    go_wp2_with fail
    refine (pworks_any _).mono ?_
    rintro en wz ⟨rfl, hb⟩
    go_wp2_with fail
    go_ret
    exact ⟨rfl, (hs.belowStep hb).below⟩
  have d3 : decide (50 < (zs.length : Int)) = false := decide_eq_false (by omega)
  go_enter Try.func6, Try.ntmps6
  go_wp2_with fail
  refine (ways_any n a c es _ _ _ fl pot zs _ (hs.rdG h) (hs.rd hf) (hs.rd hp) (hs.rd hz) (by omega)).mono ?_
  intro en w2 hP
  rcases hP with ⟨HF, rfl, hb⟩ | ⟨HT, D, B, vd, vb, hws, rfl, k1⟩
  · clear n0 n1 HF
    replace hs := hs.belowStep hb
    clear hb
    go_wp2_with fail
    refine (pworks_any _).mono ?_
    rintro en wz ⟨rfl, hb⟩
    go_wp2_with fail
    go_ret
    exact ⟨rfl, (hs.belowStep hb).below⟩
  · simp only [Bool.and_eq_true] at HT
    obtain ⟨hfit, hfrom⟩ := HT
    obtain ⟨hw, hr, hp', _⟩ := fits_parts hfit
    obtain ⟨hn1, hn40, hes, _, _⟩ := right_cap hr
    obtain ⟨N, rfl⟩ : ∃ N : Nat, n = N := ⟨n.toNat, by omega⟩
    rw [Int.toNat_natCast] at hws hfrom
    obtain ⟨H, hwh⟩ := hws.wh (by omega)
    obtain ⟨ad, cd, rfl⟩ := (k1.rdInts 0 rfl).shape
    obtain ⟨ab, cb, rfl⟩ := (k1.rdInts 1 rfl).shape
    rw [hws.lD, hws.lB] at k1 ⊢
    obtain ⟨b0, hb0⟩ : ∃ b0, b0 = w.heap.size := ⟨_, rfl⟩
    rw [← hb0] at hs ⊢
    clear hb0 n0 n1
    replace hs : Sep w w2 (tL b0 #[.int .i64 N, .slice a es.length c] ad ab cd cb N D B) := hs.join k1
    clear k1
    have HWH := Lib.hid hwh
    have HMX := Lib.hid (fun v (hv : v < N) => hws.dmax hfit hwh hv)
    have HARC := Lib.hid (fun m (hm : m < 2 * es.length) => arc_at hfit hm)
    have HPOT := Lib.hid (pot_at hfit)
    have HLD := Lib.hid (show D.length = N ∧ B.length = N from ⟨hws.lD, hws.lB⟩)
    have HNE := Lib.hid hws.net
    have HFR := Lib.hid (fun k (hk : k < zs.length) => from_at hfrom hk)
    have HFIT := Lib.hid hfit
    have HMEM := Lib.hid (fun (x : Ar) => (arcs_mem (es := es) (fl := fl) (pot := pot) (m := 2 * es.length) (a := x)).1)
    have e1 : ((N : Int) != (N : Int)) = false := by simp
    have hN : N ≤ 40 := by omega
    clear hwh hws hfit hfrom hw hr hp' d1 d2 d3 h1 h2 h3 hn1 hn40
    have n0 := cell_of (hs.cells 2 rfl) 0
    have n1 := cell_of (hs.cells 2 rfl) 1
    simp only [List.getElem?_toArray, List.getElem?_cons_zero, List.getElem?_cons_succ] at n0 n1
    go_wp2_with fail
    refine (pfits_any _ a c es _ _ fl pot _ (hs.rdG h) (hs.rd hf) (hs.rd hp)).mono ?_
    rintro en w3 ⟨rfl, hb⟩
    rw [HFIT.out]
    clear n0 n1
    replace hs := hs.belowStep hb
    clear hb
    have n0 := cell_of (hs.cells 2 rfl) 0
    have n1 := cell_of (hs.cells 2 rfl) 1
    simp only [List.getElem?_toArray, List.getElem?_cons_zero, List.getElem?_cons_succ] at n0 n1
    go_wp2_with fail
    clear n0 n1
    refine wp_loopM [none, none, none, none, none, none, none, none, some 8, none, none, none, some 12, none, none, none, none, none, none, none, none, none, none, none, none, none, none, none, none, none, none, none, none, none, none, none, none, none, none, none, none, none, none, none, none, none, none, none, none, none, none, none, none, none, none, none, none, none, none, none, none, none, none, none, none, none, none, none, none, none, none, none, none, none, none, some 75, some 76, some 77, some 78, some 79, some 80, some 81, some 82, some 83, some 84, some 85, some 86, some 87, some 88, some 89, some 90, some 91, some 92, some 93, some 94, some 95, some 96, some 97, some 98, none, none, none, none, none, none, none, none, none, none, none, none, none, none, none, none, none, none, none, none, none, none, none, none, none, none, none, none, none, none, none, none, none, none, none, none, none, none, none, none, none, none, none, none, none, none, none, none, none, none, none, none, none, none, none, none, none, none, none, none, none, none, none, none, none, none, none, none, none, none, none, none, none, none, none, none, none, none, none, none, none, none, none, none, none, none, none, none, none, none, none, none, none, none, none, none, none, none, none, none, none, none, none, none, none, none, none, none, none, none, none, none, none, none, none, none, none, none, none, none, none, none, none, none, none] (fun (r : Nat) (f : Nat → Value) (wr : World) => (fun (v : Value) => ∃ i : Nat, v = .int .i64 i ∧ i ≤ zs.length ∧ r = zs.length - i ∧ Sep w wr (tL b0 #[.int .i64 N, .slice a es.length c] ad ab cd cb N D B)) (f 12)) (zs.length) (by kernel_rfl) ?atStart1 ?round1
    case' atStart1 => (try dsimp only [nthV])
    case' round1 =>
      intro gk f wr l hl hrel J1 K1 hJ1 hK1
      (try simp only [mask] at hl)
      generalize f 12 = u12 at hl hrel
      subst hl
      (try dsimp only at hrel)
    case atStart1 => exact ⟨0, rfl, Nat.zero_le _, rfl, hs⟩
    case round1 =>
      clear hs
      obtain ⟨i, rfl, hi, rfl, hs⟩ := hrel
      by_cases hlt : i < zs.length
      · obtain ⟨u, hu, hun, hum⟩ := HFR.out i hlt
        obtain ⟨gx1, ox1, eqx1, _, x1⟩ := ((hs.rd hz)).at i hlt
        subst eqx1
        obtain ⟨gx2, ox2, eqx2, _, x2⟩ := ((hs.rdInts 0 rfl)).at u (by rw [HLD.out.1]; exact hun)
        subst eqx2
        obtain ⟨gx3, ox3, eqx3, _, x3⟩ := ((hs.rdInts 1 rfl)).at u (by rw [HLD.out.2]; exact hun)
        subst eqx3
        rw [hu] at x1
        rw [show D.getD u 0 = 0 from (HWH.out.src_ u hun hum).1] at x2
        rw [show B.getD u 0 = -1 from (HWH.out.src_ u hun hum).2] at x3
        have hunI : (u : Int) < N := by omega
        clear hu hum
        go_wp2_with fail
        refine Round.intro (zs.length - (i + 1)) ?measure2 (by kernel_rfl) (hJ1 _ _ _ ?rel2)
        case' rel2 => (try dsimp only [nthV])
        case measure2 => omega
        case rel2 => exact ⟨i + 1, by go_num, hlt, rfl, hs⟩
      · obtain rfl : i = zs.length := by omega
        go_wp2_with fail
        refine wp_loopM [none, none, none, none, none, none, none, none, some 8, none, none, none, none, some 13, some 14, some 15, some 16, none, none, none, none, none, none, none, none, none, none, none, none, none, none, none, none, none, none, none, none, none, none, none, none, none, none, none, none, none, none, none, none, none, none, none, none, none, none, none, none, none, none, none, none, none, none, none, none, none, none, none, none, none, none, none, none, none, none, none, none, none, none, none, none, none, none, none, none, none, none, none, none, none, none, none, none, none, none, none, none, none, none, some 99, some 100, some 101, some 102, some 103, some 104, some 105, some 106, some 107, some 108, some 109, some 110, some 111, some 112, some 113, some 114, some 115, some 116, some 117, some 118, some 119, some 120, some 121, some 122, some 123, some 124, some 125, some 126, some 127, some 128, some 129, some 130, some 131, some 132, some 133, some 134, some 135, some 136, some 137, some 138, some 139, some 140, some 141, some 142, some 143, some 144, some 145, some 146, some 147, some 148, some 149, some 150, some 151, some 152, some 153, none, none, none, none, none, none, none, none, none, none, none, none, none, none, none, none, none, none, none, none, none, none, none, none, none, none, none, none, none, none, none, none, none, none, none, none, none, none, none, none, none, none, none, none, none, none, none, none, none, none, none, none, none, none, none, none, none, none, none, none, none, none, none, none, none, none, none, none, none, none] (fun (r : Nat) (f : Nat → Value) (wr : World) => (fun (v : Value) => ∃ i : Nat, v = .int .i64 i ∧ i ≤ 2 * es.length ∧ r = 2 * es.length - i ∧ Sep w wr (tL b0 #[.int .i64 N, .slice a es.length c] ad ab cd cb N D B)) (f 13)) (2 * es.length) (by kernel_rfl) ?atStart3 ?round3
        case' atStart3 => (try dsimp only [nthV])
        case' round3 =>
          intro gk f wr l hl hrel J2 K2 hJ2 hK2
          (try simp only [mask] at hl)
          generalize f 13 = u13 at hl hrel
          subst hl
          (try dsimp only at hrel)
        case atStart3 => exact ⟨0, rfl, Nat.zero_le _, rfl, hs⟩
        case round3 =>
          clear hs
          obtain ⟨i, rfl, hi, rfl, hs⟩ := hrel
          have n0 := cell_of (hs.cells 2 rfl) 0
          have n1 := cell_of (hs.cells 2 rfl) 1
          simp only [List.getElem?_toArray, List.getElem?_cons_zero, List.getElem?_cons_succ] at n0 n1
          by_cases hlt : i < 2 * es.length
          · obtain ⟨U, V, C, R, q1, q2, q3, q4, hU, hV, q5, q6, q7, q8, q9, q10⟩ := HARC.out i hlt
            have HQ1 := Lib.hid q1
            have HQ2 := Lib.hid q2
            have HAI := Lib.hid q9
            have HAT := Lib.hid q8
            obtain ⟨p1, p2⟩ := HPOT.out.2 U
            obtain ⟨p3, p4⟩ := HPOT.out.2 V
            obtain ⟨P, hP⟩ : ∃ P, P = g pot U := ⟨_, rfl⟩
            obtain ⟨Q, hQ⟩ : ∃ Q, Q = g pot V := ⟨_, rfl⟩
            obtain ⟨x, hx⟩ : ∃ x, x = g D U := ⟨_, rfl⟩
            obtain ⟨y, hy⟩ : ∃ y, y = g D V := ⟨_, rfl⟩
            obtain ⟨m1, m2⟩ := HMX.out U hU
            obtain ⟨m3, m4⟩ := HMX.out V hV
            rw [← hP] at p1 p2 HAT
            rw [← hQ] at p3 p4 HAT
            rw [← hx] at m1 m2
            rw [← hy] at m3 m4
            have HX := Lib.hid hx
            have HY := Lib.hid hy
            have HPP := Lib.hid hP
            have HQQ := Lib.hid hQ
            clear q1 q2 q3 q7 q8 q9 hx hy hP hQ q10
            go_wp2_with fail
            refine (endsX_any _ a c es i _ (hs.rdG h) (by omega)).mono ?_
            rintro en w4 ⟨rfl, hb⟩
            rw [HQ1.out]
            clear n0 n1
            replace hs := hs.belowStep hb
            clear hb
            have n0 := cell_of (hs.cells 2 rfl) 0
            have n1 := cell_of (hs.cells 2 rfl) 1
            simp only [List.getElem?_toArray, List.getElem?_cons_zero, List.getElem?_cons_succ] at n0 n1
            go_wp2_with fail
            refine (roomX_any _ a c es _ fl i _ (hs.rdG h) (hs.rd hf) (by omega)).mono ?_
            rintro en w5 ⟨rfl, hb⟩
            rw [HQ2.out]
            clear n0 n1
            replace hs := hs.belowStep hb
            clear hb
            obtain ⟨gx2, ox2, eqx2, _, x2⟩ := ((hs.rdInts 0 rfl)).at U (by rw [HLD.out.1]; exact hU)
            subst eqx2
            rw [show D.getD U 0 = x from HX.out.symm] at x2
            have hUI : (U : Int) < N := by omega
            have hVI : (V : Int) < N := by omega
            by_cases hR0 : R = 0
            · have d1 : (R == 0) = true := beq_iff_eq.2 hR0
              clear hR0
              go_wp2_with fail
              refine Round.intro (2 * es.length - (i + 1)) ?measure4 (by kernel_rfl) (hJ2 _ _ _ ?rel4)
              case' rel4 => (try dsimp only [nthV])
              case measure4 => omega
              case rel4 => exact ⟨i + 1, by go_num, hlt, rfl, hs⟩
            · have d1 : (R == 0) = false := beq_eq_false_iff_ne.2 hR0
              by_cases hx0 : x < 0
              · have d2 : decide (x < 0) = true := decide_eq_true hx0
                clear hR0 hx0
                go_wp2_with fail
                refine Round.intro (2 * es.length - (i + 1)) ?measure5 (by kernel_rfl) (hJ2 _ _ _ ?rel5)
                case' rel5 => (try dsimp only [nthV])
                case measure5 => omega
                case rel5 => exact ⟨i + 1, by go_num, hlt, rfl, hs⟩
              · have d2 : decide (x < 0) = false := decide_eq_false hx0
                have ha := HWH.out.arc _ (HAI.out (by omega))
                rw [HAT.out] at ha
                dsimp only at ha
                rw [← HX.out, ← HY.out] at ha
                obtain ⟨a1, a2⟩ := ha (by omega)
                have d3 : decide (y < 0) = false := decide_eq_false (by omega)
                have d4 : decide (x + C + P - Q < y) = false := decide_eq_false (by omega)
                have hv : (hs.rdInts 0 rfl).len = (hs.rdInts 0 rfl).len := rfl
                obtain ⟨_, _, eqz, _, x3⟩ := (hs.rdInts 0 rfl).at V (by rw [HLD.out.1]; exact hV)
                injection eqz with eqz
                injection eqz with eqz eqo
                subst eqz
                subst eqo
                rw [show D.getD V 0 = y from HY.out.symm] at x3
                obtain ⟨gx4, ox4, eqx4, _, x4⟩ := ((hs.rd hp)).at U (by rw [HPOT.out.1]; exact hU)
                subst eqx4
                obtain ⟨_, _, eqz, _, x5⟩ := (hs.rd hp).at V (by rw [HPOT.out.1]; exact hV)
                injection eqz with eqz
                injection eqz with eqz eqo
                subst eqz
                subst eqo
                rw [show pot.getD U 0 = P from HPP.out.symm] at x4
                rw [show pot.getD V 0 = Q from HQQ.out.symm] at x5
                have hpl : pot.length = N := HPOT.out.1
                have hUP : (U : Int) < pot.length := by omega
                have hVP : (V : Int) < pot.length := by omega
                clear hR0 hx0 a1 a2 hpl hv
                go_wp2_with fail
                refine Mix.region [0, 0, 0, 0, 0, 0, 0, 0, 0, 0, 0, 0, 0, 0, 0, 0, 0, 0, 0, 0, 0, 0, 0, 0, 0, 0, 0, 0] (fun _ => True) (by kernel_rfl) (by kernel_rfl) trivial ?_
                simp only [List.zip_cons_cons, List.zip_nil_right]
                iterate 6 (refine Mix.step0 fun K hK => ?_; go_simp; (try (go_bits; try go_simp)); first | ((with_reducible refine hK _ _ ?_); clear hK K) | ((try (simp only [IntWalk.iteOmega]; try go_simp)); (try go_bits); (with_reducible refine hK _ _ ?_); clear hK K))
                iterate 21 (first | (refine Mix.stepS rfl fun K hK => ?_; go_simp; (with_reducible refine hK _ _ ?_); clear hK K) | (refine Mix.step0 fun K hK => ?_; go_simp; (try (go_bits; try go_simp)); first | ((with_reducible refine hK _ _ ?_); clear hK K) | ((try (simp only [IntWalk.iteOmega]; try go_simp)); (try go_bits); (with_reducible refine hK _ _ ?_); clear hK K)))
                iterate 1 (refine Mix.step0 fun K hK => ?_; go_simp; (try (go_bits; try go_simp)); first | ((with_reducible refine hK _ _ ?_); clear hK K) | ((try (simp only [IntWalk.iteOmega]; try go_simp)); (try go_bits); (with_reducible refine hK _ _ ?_); clear hK K))
                refine Mix.done ?_
                go_wp2_with fail
                refine Round.intro (2 * es.length - (i + 1)) ?measure6 (by kernel_rfl) (hJ2 _ _ _ ?rel6)
                case' rel6 => (try dsimp only [nthV])
                case measure6 => omega
                case rel6 => exact ⟨i + 1, by go_num, hlt, rfl, hs.drew⟩
          · obtain rfl : i = 2 * es.length := by omega
            go_wp2_with fail
            clear n0 n1
            refine wp_loopM [none, none, none, none, none, none, none, none, some 8, none, none, none, none, none, none, none, none, some 17, some 18, some 19, some 20, none, none, none, none, none, none, none, none, none, none, none, none, none, none, none, none, none, none, none, none, none, none, none, none, none, none, none, none, none, none, none, none, none, none, none, none, none, none, none, none, none, none, none, none, none, none, none, none, none, none, none, none, none, none, none, none, none, none, none, none, none, none, none, none, none, none, none, none, none, none, none, none, none, none, none, none, none, none, none, none, none, none, none, none, none, none, none, none, none, none, none, none, none, none, none, none, none, none, none, none, none, none, none, none, none, none, none, none, none, none, none, none, none, none, none, none, none, none, none, none, none, none, none, none, none, none, none, none, none, none, none, none, none, some 154, some 155, some 156, some 157, some 158, some 159, some 160, some 161, some 162, some 163, some 164, some 165, some 166, some 167, some 168, some 169, some 170, some 171, some 172, some 173, some 174, some 175, some 176, some 177, some 178, some 179, some 180, some 181, some 182, some 183, some 184, some 185, some 186, some 187, some 188, some 189, some 190, some 191, some 192, some 193, some 194, some 195, some 196, some 197, some 198, some 199, some 200, some 201, some 202, some 203, some 204, some 205, some 206, some 207, some 208, some 209, some 210, some 211, some 212, some 213, some 214, some 215, some 216, some 217, some 218, some 219, some 220, some 221, some 222, none] (fun (r : Nat) (f : Nat → Value) (wr : World) => (fun (v : Value) => ∃ i : Nat, v = .int .i64 i ∧ i ≤ N ∧ r = N - i ∧ Sep w wr (tL b0 #[.int .i64 N, .slice a es.length c] ad ab cd cb N D B)) (f 17)) (N) (by kernel_rfl) ?atStart7 ?round7
            case' atStart7 => (try dsimp only [nthV])
            case' round7 =>
              intro gk f wr l hl hrel J3 K3 hJ3 hK3
              (try simp only [mask] at hl)
              generalize f 17 = u17 at hl hrel
              subst hl
              (try dsimp only at hrel)
            case atStart7 => exact ⟨0, rfl, Nat.zero_le _, rfl, hs⟩
            case round7 =>
              clear hs
              obtain ⟨k, rfl, hk, rfl, hs⟩ := hrel
              have n0 := cell_of (hs.cells 2 rfl) 0
              have n1 := cell_of (hs.cells 2 rfl) 1
              simp only [List.getElem?_toArray, List.getElem?_cons_zero, List.getElem?_cons_succ] at n0 n1
              by_cases hlt : k < N
              · obtain ⟨gx1, ox1, eqx1, _, x1⟩ := ((hs.rdInts 1 rfl)).at k (by rw [HLD.out.2]; exact hlt)
                subst eqx1
                obtain ⟨gx2, ox2, eqx2, _, x2⟩ := ((hs.rdInts 0 rfl)).at k (by rw [HLD.out.1]; exact hlt)
                subst eqx2
                obtain ⟨y, hy⟩ : ∃ y, y = g D k := ⟨_, rfl⟩
                rw [show D.getD k 0 = y from hy.symm] at x2
                have HY := Lib.hid hy
                obtain ⟨b, hbk⟩ : ∃ b, b = g B k := ⟨_, rfl⟩
                rw [show B.getD k 0 = b from hbk.symm] at x1
                have HBK := Lib.hid hbk
                clear hy hbk
                by_cases hb0 : b < 0
                · have d1 : decide (b < 0) = true := decide_eq_true hb0
                  have hy0 := (HWH.out.none_ k hlt (by rw [← HBK.out]; exact hb0)).1
                  rw [← HY.out] at hy0
                  have d2 : decide (0 < y) = false := decide_eq_false (by omega)
                  clear hb0 hy0
                  go_wp2_with fail
                  refine Round.intro (N - (k + 1)) ?measure8 (by kernel_rfl) (hJ3 _ _ _ ?rel8)
                  case' rel8 => (try dsimp only [nthV])
                  case measure8 => omega
                  case rel8 => exact ⟨k + 1, by go_num, hlt, rfl, hs⟩
                · have d1 : decide (b < 0) = false := decide_eq_false hb0
                  obtain ⟨A, hA, r1, r2, r3, r4, r5, _⟩ := HWH.out.some_ k hlt (by rw [← HBK.out]; omega)
                  obtain ⟨m, hm, hroom, rfl⟩ := HMEM.out A hA
                  obtain ⟨U, V, C, R, q1, q2, q3, q4, hU, hV, q5, q6, q7, q8, q9, q10⟩ := HARC.out m hm
                  rw [q8] at r1 r2 r3 r5
                  dsimp only at r1 r2 r3 r5
                  subst r2
                  rw [← HBK.out] at r1
                  subst r1
                  have HQ1 := Lib.hid q1
                  have HQ2 := Lib.hid q2
                  have hR : R ≠ 0 := by omega
                  obtain ⟨p1, p2⟩ := HPOT.out.2 U
                  obtain ⟨p3, p4⟩ := HPOT.out.2 V
                  obtain ⟨P, hP⟩ : ∃ P, P = g pot U := ⟨_, rfl⟩
                  obtain ⟨Q, hQ⟩ : ∃ Q, Q = g pot V := ⟨_, rfl⟩
                  obtain ⟨x, hx⟩ : ∃ x, x = g D U := ⟨_, rfl⟩
                  obtain ⟨m1, m2⟩ := HMX.out U hU
                  obtain ⟨m3, m4⟩ := HMX.out V hlt
                  rw [← hP] at p1 p2 r5
                  rw [← hQ] at p3 p4 r5
                  rw [← hx] at m1 m2 r3 r5
                  rw [← HY.out] at m3 m4 r5
                  have HX := Lib.hid hx
                  have HPP := Lib.hid hP
                  have HQQ := Lib.hid hQ
                  have d2 : (R == 0) = false := beq_eq_false_iff_ne.2 hR
                  have d3 : decide (x < 0) = false := decide_eq_false (by omega)
                  have d4 : (y != x + C + P - Q) = false := by
                    have : y = x + C + P - Q := by omega
                    rw [this]; simp
                  have e9 : ((V : Int) != (V : Int)) = false := by simp
                  have hUI : (U : Int) < N := by omega
                  have hVI : (V : Int) < N := by omega
                  have hpl : pot.length = N := HPOT.out.1
                  have hUP : (U : Int) < pot.length := by omega
                  have hVP : (V : Int) < pot.length := by omega
                  clear q1 q2 q3 q7 q8 q9 hx hP hQ q10 r3 r4 r5 hR hA hroom hb0 hpl
                  go_wp2_with fail
                  refine Mix.region [0, 0, 0, 0, 0, 2, 0, 0, 0, 0, 0, 0, 0] (fun _ => True) (by kernel_rfl) (by kernel_rfl) trivial ?_
                  simp only [List.zip_cons_cons, List.zip_nil_right]
                  iterate 5 (refine Mix.step0 fun K hK => ?_; go_simp; (try (go_bits; try go_simp)); first | ((with_reducible refine hK _ _ ?_); clear hK K) | ((try (simp only [IntWalk.iteOmega]; try go_simp)); (try go_bits); (with_reducible refine hK _ _ ?_); clear hK K))
                  refine Mix.step2n (by first | rfl | simp [Region.wanted, yielded]) fun K hK => ?_
                  go_wp2_with fail
                  refine (endsX_any _ a c es m _ (hs.drew.rdG h) (by omega)).mono ?_
                  rintro en w4 ⟨rfl, hb⟩
                  rw [HQ1.out]
                  clear n0 n1
                  replace hs := hs.drew.belowStep hb
                  clear hb
                  go_wp2_with fail
                  refine Mix.post_mk (C := (fun _ => True)) trivial (hK _ _ ?_)
                  clear hK K
                  iterate 7 (refine Mix.step0 fun K hK => ?_; go_simp; (try (go_bits; try go_simp)); first | ((with_reducible refine hK _ _ ?_); clear hK K) | ((try (simp only [IntWalk.iteOmega]; try go_simp)); (try go_bits); (with_reducible refine hK _ _ ?_); clear hK K))
                  refine Mix.done ?_
                  clear x1 x2
                  obtain ⟨_, _, eqz, _, x1⟩ := (hs.rdInts 1 rfl).at V (by rw [HLD.out.2]; exact hV)
                  injection eqz with eqz
                  injection eqz with eqz eqo
                  subst eqz
                  subst eqo
                  rw [show B.getD V 0 = (m : Int) from HBK.out.symm] at x1
                  have n0 := cell_of (hs.cells 2 rfl) 0
                  have n1 := cell_of (hs.cells 2 rfl) 1
                  simp only [List.getElem?_toArray, List.getElem?_cons_zero, List.getElem?_cons_succ] at n0 n1
                  go_wp2_with fail
                  refine Mix.region [0, 0, 0, 0, 0, 0, 0, 0, 0, 0, 2, 0, 0, 0, 0, 0, 0, 0, 0, 0, 0, 0, 0, 0, 0, 0, 0, 0, 0, 0, 0, 0, 0, 0, 0, 0, 0, 0, 0, 0, 0, 0, 0] (fun _ => True) (by kernel_rfl) (by kernel_rfl) trivial ?_
                  simp only [List.zip_cons_cons, List.zip_nil_right]
                  iterate 4 (refine Mix.step0 fun K hK => ?_; go_simp; (try (go_bits; try go_simp)); first | ((with_reducible refine hK _ _ ?_); clear hK K) | ((try (simp only [IntWalk.iteOmega]; try go_simp)); (try go_bits); (with_reducible refine hK _ _ ?_); clear hK K))
                  iterate 6 (first | (refine Mix.stepS rfl fun K hK => ?_; go_simp; (with_reducible refine hK _ _ ?_); clear hK K) | (refine Mix.step0 fun K hK => ?_; go_simp; (try (go_bits; try go_simp)); first | ((with_reducible refine hK _ _ ?_); clear hK K) | ((try (simp only [IntWalk.iteOmega]; try go_simp)); (try go_bits); (with_reducible refine hK _ _ ?_); clear hK K)))
                  refine Mix.step2n (by first | rfl | simp [Region.wanted, yielded]) fun K hK => ?_
                  go_wp2_with fail
                  refine (roomX_any _ a c es _ fl m _ (hs.drew.rdG h) (hs.drew.rd hf) (by omega)).mono ?_
                  rintro en w5 ⟨rfl, hb⟩
                  rw [HQ2.out]
                  clear n0 n1 x1
                  replace hs := hs.drew.belowStep hb
                  clear hb
                  obtain ⟨_, _, eqz, _, x3⟩ := (hs.rdInts 0 rfl).at V (by rw [HLD.out.1]; exact hV)
                  injection eqz with eqz
                  injection eqz with eqz eqo
                  subst eqz
                  subst eqo
                  rw [show D.getD V 0 = y from HY.out.symm] at x3
                  obtain ⟨_, _, eqz, _, x2⟩ := (hs.rdInts 0 rfl).at U (by rw [HLD.out.1]; exact hU)
                  injection eqz with eqz
                  injection eqz with eqz eqo
                  subst eqz
                  subst eqo
                  rw [show D.getD U 0 = x from HX.out.symm] at x2
                  obtain ⟨gx4, ox4, eqx4, _, x4⟩ := ((hs.rd hp)).at U (by rw [HPOT.out.1]; exact hU)
                  subst eqx4
                  obtain ⟨_, _, eqz, _, x5⟩ := (hs.rd hp).at V (by rw [HPOT.out.1]; exact hV)
                  injection eqz with eqz
                  injection eqz with eqz eqo
                  subst eqz
                  subst eqo
                  rw [show pot.getD U 0 = P from HPP.out.symm] at x4
                  rw [show pot.getD V 0 = Q from HQQ.out.symm] at x5
                  go_wp2_with fail
                  refine Mix.post_mk (C := (fun _ => True)) trivial (hK _ _ ?_)
                  clear hK K
                  iterate 1 (first | (refine Mix.stepS rfl fun K hK => ?_; go_simp; (with_reducible refine hK _ _ ?_); clear hK K) | (refine Mix.step0 fun K hK => ?_; go_simp; (try (go_bits; try go_simp)); first | ((with_reducible refine hK _ _ ?_); clear hK K) | ((try (simp only [IntWalk.iteOmega]; try go_simp)); (try go_bits); (with_reducible refine hK _ _ ?_); clear hK K)))
                  iterate 2 (refine Mix.step0 fun K hK => ?_; go_simp; (try (go_bits; try go_simp)); first | ((with_reducible refine hK _ _ ?_); clear hK K) | ((try (simp only [IntWalk.iteOmega]; try go_simp)); (try go_bits); (with_reducible refine hK _ _ ?_); clear hK K))
                  iterate 5 (first | (refine Mix.stepS rfl fun K hK => ?_; go_simp; (with_reducible refine hK _ _ ?_); clear hK K) | (refine Mix.step0 fun K hK => ?_; go_simp; (try (go_bits; try go_simp)); first | ((with_reducible refine hK _ _ ?_); clear hK K) | ((try (simp only [IntWalk.iteOmega]; try go_simp)); (try go_bits); (with_reducible refine hK _ _ ?_); clear hK K)))
                  iterate 2 (refine Mix.step0 fun K hK => ?_; go_simp; (try (go_bits; try go_simp)); first | ((with_reducible refine hK _ _ ?_); clear hK K) | ((try (simp only [IntWalk.iteOmega]; try go_simp)); (try go_bits); (with_reducible refine hK _ _ ?_); clear hK K))
                  iterate 21 (first | (refine Mix.stepS rfl fun K hK => ?_; go_simp; (with_reducible refine hK _ _ ?_); clear hK K) | (refine Mix.step0 fun K hK => ?_; go_simp; (try (go_bits; try go_simp)); first | ((with_reducible refine hK _ _ ?_); clear hK K) | ((try (simp only [IntWalk.iteOmega]; try go_simp)); (try go_bits); (with_reducible refine hK _ _ ?_); clear hK K)))
                  iterate 1 (refine Mix.step0 fun K hK => ?_; go_simp; (try (go_bits; try go_simp)); first | ((with_reducible refine hK _ _ ?_); clear hK K) | ((try (simp only [IntWalk.iteOmega]; try go_simp)); (try go_bits); (with_reducible refine hK _ _ ?_); clear hK K))
                  refine Mix.done ?_
                  go_wp2_with fail
                  refine Round.intro (N - (V + 1)) ?measure9 (by kernel_rfl) (hJ3 _ _ _ ?rel9)
                  case' rel9 => (try dsimp only [nthV])
                  case measure9 => omega
                  case rel9 => exact ⟨V + 1, by go_num, hlt, rfl, hs⟩
              · obtain rfl : k = N := by omega
                go_wp2_with fail
                go_wp2_with fail
                refine (pworks_any _).mono ?_
                rintro en wz ⟨rfl, hb⟩
                go_wp2_with fail
                go_ret
                exact ⟨rfl, (hs.belowStep hb).below⟩
end Go.Proofs.Ytfafecgnjjkagaa
