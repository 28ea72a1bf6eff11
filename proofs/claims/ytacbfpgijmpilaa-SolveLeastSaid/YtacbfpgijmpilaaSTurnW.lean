/-
  The reference's turn, walked.
-/
import Derived.Test.YtacbfpgijmpilaaST
import Derived.Test.YtacbfpgijmpilaaSW2
import Derived.Test.YtacbfpgijmpilaaRA
import Derived.Test.YtacbfpgijmpilaaSF
set_option linter.unusedVariables false
set_option linter.unusedSimpArgs false
namespace Go.SolveP
open Go Go.Mem Go.NetP Go.RestP Go.CertP Go.PathP
def byI (N i : Nat) : List Int := (List.range N).map fun j => if j < i then -1 else 0
theorem byI_zero (N : Nat) : byI N 0 = List.replicate N 0 := by
  refine List.ext_getElem (by simp [byI]) fun j h1 h2 => ?_
  simp [byI]
theorem byI_len (N i : Nat) : (byI N i).length = N := by simp [byI]
theorem byI_end (N : Nat) : byI N N = List.replicate N (-1) := by
  refine List.ext_getElem (by simp [byI]) fun j h1 h2 => ?_
  have : j < N := by simpa [byI] using h1
  simp [byI, this]
theorem byI_set (N i : Nat) : (byI N i).set i (-1) = byI N (i + 1) := by
  refine List.ext_getElem (by simp [byI]) fun j h1 h2 => ?_
  rw [List.getElem_set]
  simp only [byI, List.getElem_map, List.getElem_range]
  by_cases e : i = j
  · subst e; simp
  · rw [if_neg e]
    by_cases q : j < i
    · rw [if_pos q, if_pos (by omega)]
    · rw [if_neg q, if_neg (by omega)]
theorem relaxT_is {es : List Ed} {fl : List Int} {S : TS} {m U V : Nat} {C R : Int} (he : endsE es m = ((U : Int), (V : Int), C)) (hr : roomE es fl m = R) :
    relaxT es fl S m = if g S.d U + C < g S.d V ∧ 0 < R then ⟨S.d.set V (g S.d U + C), S.b.set V m, V⟩ else S := by
  unfold relaxT
  rw [he, hr]
  simp only [Int.toNat_natCast]
theorem RD.mid2 {es : List Ed} {fl : List Int} {N r : Nat} {S : TS} (h : RD es fl N r S) (hr : rightB N es = true) (hN : r ≤ N) (m : Nat) (hm : m ≤ 2 * es.length) :
    (roundT es fl m { S with l := -1 }).d.length = N ∧ (roundT es fl m { S with l := -1 }).b.length = N ∧ ∀ v, v < N → -16400000 ≤ g (roundT es fl m { S with l := -1 }).d v ∧ g (roundT es fl m { S with l := -1 }).d v ≤ 0 := by
  obtain ⟨h1, _, h3⟩ := h.mid hr hN m hm
  obtain ⟨c1, c2, c3, _⟩ := right_cap hr
  refine ⟨h1.ld, h1.lb, fun v hv => ⟨?_, h1.low v hv⟩⟩
  have := h3 v hv
  have q1 : (1000 * (2 * es.length) : Int) ≤ 400000 := by omega
  have q2 : (1000 * (2 * es.length) * (r + 1) : Int) ≤ 400000 * 41 := Int.mul_le_mul q1 (by omega) (by omega) (by omega)
  have q3 : (400000 * 41 : Int) = 16400000 := by decide
  omega
/-- Numbers as the program has them. -/
def intsOf (P : List Nat) : List Int := P.map fun (x : Nat) => (x : Int)
theorem intsOf_len (P : List Nat) : (intsOf P).length = P.length := by simp [intsOf]
theorem intsOf_turn {es : List Ed} {b : List Int} {u i a : Nat} (h : g b (parN es b u i) = a) : intsOf (turnP es b u i) ++ [(a : Int)] = intsOf (turnP es b u (i + 1)) := by
  rw [turnP_succ, h, Int.toNat_natCast]
  unfold intsOf
  rw [List.map_append]; rfl
theorem arc_u {es : List Ed} {a U V : Nat} {C : Int} (h : endsE es a = ((U : Int), (V : Int), C)) : (acAt es a).u = U := by
  unfold acAt; rw [h]; simp
/-- What turn answers. -/
def TurnD (N : Nat) (es : List Ed) (fl : List Int) (P : List Nat) : Prop :=
  (P = [] ∧ ∃ pot, checkB N es fl pot = true) ∨ (P ≠ [] ∧ (∀ x ∈ P, hasA es fl x) ∧ (∃ u, RT es u P u) ∧ (P.map fun x => x / 2).Nodup)
end Go.SolveP
namespace Go.Proofs.Ytacbfpgijmpilaa
open Go Go.RowKit Go.Mem Go.NetP Go.RestP Go.CertP Go.PathP Go.SolveP
set_option maxRecDepth 100000 in
set_option maxHeartbeats 4000000 in
theorem turn_any (N : Nat) (a : Option Addr) (c : Nat) (es : List Ed) (vf : Value) (fl : List Int) (w : World) (h : RdG edR w (.slice a es.length c) es) (h' : Rd .i64 w vf fl) (hf : flowsB N es fl = true) :
    Calls Try.prog 24 #[.agg #[.int .i64 N, .slice a es.length c], vf] w fun en w' => ∃ v P, TurnD N es fl P ∧ en = .returned v ∧ Sep w w' [intsT .i64 3 v (intsOf P)] := by
  obtain ⟨i0, hi0, hz0, hz1, hz2⟩ := info_parts Try.infoI64v
  obtain ⟨j0, hj0, hy0, hy1, hy2⟩ := info_parts Try.infoIntv
  have hw := (flows_iff.1 hf).1
  have hr := (within_cap hw).2.1
  have hfl : fl.length = es.length := (within_cap hw).1
  obtain ⟨hn1, hn40, hes, _, _⟩ := right_cap hr
  obtain ⟨a', c', rfl⟩ := h'.shape
  rw [hfl] at h' ⊢
  clear hfl
  have HW := Lib.hid hw
  have HR := Lib.hid hr
  have HF := Lib.hid hf
  clear hw hr hf
  have hs := (Sep.start w).newCells #[.int .i64 N, .slice a es.length c] 24
  obtain ⟨B1, hB⟩ : ∃ B1, B1 = w.heap.size := ⟨_, rfl⟩
  rw [← hB] at hs
  have n0 := cell_of (hs.cells 0 rfl) 0
  have n1 := cell_of (hs.cells 0 rfl) 1
  simp only [List.getElem?_toArray, List.getElem?_cons_zero, List.getElem?_cons_succ] at n0 n1
  go_enter Try.func24, Try.ntmps24
  go_upto_region 1 with fail
  (try rw [← hB])
  clear hB
  go_wp2_with (at_make; refine wpList_makeInts rfl (.tmp 19) (.tmp 19) 27 rfl 2 i0 .i64 8 Try.underlying27 hi0 hz0 hz1 hz2 N .i64 .i64 rfl rfl hs ?m1 ?m2 ?m3)
  case m1 => unfold maxLen; omega
  case m2 => omega
  case m3 =>
    intro w1 gd hs1
    clear hs n0 n1
    have hs := hs1
    clear hs1
    have n0 := cell_of (hs.cells 1 rfl) 0
    have n1 := cell_of (hs.cells 1 rfl) 1
    simp only [List.getElem?_toArray, List.getElem?_cons_zero, List.getElem?_cons_succ] at n0 n1
    go_wp2_with (at_make; refine wpList_makeInts rfl (.tmp 22) (.tmp 22) 54 rfl 3 j0 .i64 8 Try.underlying54 hj0 hy0 hy1 hy2 N .i64 .i64 rfl rfl hs ?m4 ?m5 ?m6)
    case m4 => unfold maxLen; omega
    case m5 => omega
    case m6 =>
      intro w2 gb hs2
      clear hs n0 n1
      go_wp2_with fail
      refine wp_loopM [none, none, none, none, none, none, none, some 7, none, none, none, none, none, none, none, none, none, none, none, none, none, none, none, none, some 24, some 25, some 26, some 27, some 28, some 29, some 30, some 31, some 32, none, none, none, none, none, none, none, none, none, none, none, none, none, none, none, none, none, none, none, none, none, none, none, none, none, none, none, none, none, none, none, none, none, none, none, none, none, none, none, none, none, none, none, none, none, none, none, none, none, none, none, none, none, none, none, none, none, none, none, none, none, none, none, none, none, none, none, none, none, none, none, none, none, none, none, none, none, none, none, none, none, none, none, none, none, none, none, none, none, none, none, none, none] (fun (r : Nat) (f : Nat → Value) (wr : World) => (fun (v : Value) => ∃ i : Nat, v = .int .i64 i ∧ i ≤ N ∧ r = N - i ∧ Sep w wr [intsT .i64 3 (.slice (some ⟨gb, 0, none⟩) N N) (byI N i), intsT .i64 2 (.slice (some ⟨gd, 0, none⟩) N N) (List.replicate N 0), cellsT B1 #[.int .i64 N, .slice a es.length c] 24]) (f 7)) (N) (by kernel_rfl) ?atStart1 ?round1
      case' atStart1 => (try dsimp only [nthV])
      case' round1 =>
        intro gk f wr l hl hrel J1 K1 hJ1 hK1
        (try simp only [mask] at hl)
        generalize f 7 = u7 at hl hrel
        subst hl
        (try dsimp only at hrel)
      case atStart1 => exact ⟨0, rfl, Nat.zero_le _, rfl, by rw [byI_zero]; exact hs2⟩
      case round1 =>
        clear hs2
        obtain ⟨i, rfl, hi, rfl, hs⟩ := hrel
        have n0 := cell_of (hs.cells 2 rfl) 0
        have n1 := cell_of (hs.cells 2 rfl) 1
        simp only [List.getElem?_toArray, List.getElem?_cons_zero, List.getElem?_cons_succ] at n0 n1
        by_cases hlt : i < N
        · have HS := Lib.hid (byI_set N i)
          obtain ⟨g', cg', eg, _, hcR, xf⟩ := (hs.ints 0 rfl).get i (by rw [byI_len]; exact hlt)
          injection eg with eg q1 q2
          injection eg with eg
          injection eg with eg
          subst eg
          have x1 := hcR i (by rw [byI_len]; exact hlt)
          clear q1 q2 hcR
          have hiI : (i : Int) < N := by omega
          go_wp2_with fail
          have hs2 := hs.setInts (j := i) 0 rfl (-1)
          (try simp only [List.set_cons_zero, List.set_cons_succ] at hs2)
          rw [HS.out] at hs2
          refine Round.intro (N - (i + 1)) ?measure2 (by kernel_rfl) (hJ1 _ _ _ ?rel2)
          case' rel2 => (try dsimp only [nthV])
          case measure2 => omega
          case rel2 => exact ⟨i + 1, by go_num, hlt, rfl, hs2⟩
        · obtain rfl : N = i := by omega
          rw [byI_end] at hs
          clear hlt hi
          go_wp2_with fail
          clear n0 n1
          refine wp_loopM [none, none, none, none, some 4, none, none, none, some 8, some 9, some 10, some 11, some 12, some 13, none, none, none, none, none, none, none, none, none, none, none, none, none, none, none, none, none, none, none, some 33, some 34, some 35, some 36, some 37, some 38, some 39, some 40, some 41, some 42, some 43, some 44, some 45, some 46, some 47, some 48, some 49, some 50, some 51, some 52, some 53, some 54, some 55, some 56, some 57, some 58, some 59, some 60, some 61, some 62, some 63, some 64, some 65, some 66, some 67, some 68, some 69, some 70, some 71, some 72, some 73, some 74, some 75, some 76, some 77, some 78, some 79, some 80, some 81, some 82, some 83, some 84, some 85, some 86, none, none, none, none, none, none, none, none, none, none, none, none, none, none, none, none, none, none, none, none, none, none, none, none, none, none, none, none, none, none, none, none, none, none, none, none, none, none, none] (fun (k : Nat) (f : Nat → Value) (wr : World) => (fun (v vl vo : Value) => ∃ (r : Nat) (S : TS), v = .int .i64 r ∧ vl = .int .i64 S.l ∧ vo = .slice none 0 0 ∧ r ≤ N + 1 ∧ k = N + 1 - r ∧ Hid (RD es fl N r S) ∧ Sep w wr [intsT .i64 3 (.slice (some ⟨gb, 0, none⟩) N N) S.b, intsT .i64 2 (.slice (some ⟨gd, 0, none⟩) N N) S.d, cellsT B1 #[.int .i64 N, .slice a es.length c] 24]) (f 9) (f 8) (f 4)) (N + 1) (by kernel_rfl) ?atStart3 ?round3
          case' atStart3 => (try dsimp only [nthV])
          case' round3 =>
            intro gk f wr l hl hrel J2 K2 hJ2 hK2
            (try simp only [mask] at hl)
            generalize f 9 = u9 at hl hrel
            generalize f 8 = u8 at hl hrel
            generalize f 4 = u4 at hl hrel
            subst hl
            (try dsimp only at hrel)
          case atStart3 => exact ⟨0, ⟨List.replicate N 0, List.replicate N (-1), -1⟩, rfl, rfl, rfl, Nat.zero_le _, rfl, Lib.hid (RD.start N), hs⟩
          case round3 =>
            clear hs
            obtain ⟨r, S, rfl, rfl, rfl, hrN, rfl, HRD, hs⟩ := hrel
            have n0 := cell_of (hs.cells 2 rfl) 0
            have n1 := cell_of (hs.cells 2 rfl) 1
            simp only [List.getElem?_toArray, List.getElem?_cons_zero, List.getElem?_cons_succ] at n0 n1
            by_cases hlt : r ≤ N
            · have hltI : (r : Int) ≤ N := by omega
              have HMID := Lib.hid (fun m hm => HRD.out.mid2 HR.out hlt m hm)
              have HNONE := Lib.hid (fun hl => HRD.out.none HR.out HF.out hlt hl)
              have HNEXT := Lib.hid (fun hl => HRD.out.next HR.out hlt hl)
              have hs2 : Sep w wr [intsT .i64 3 (.slice (some ⟨gb, 0, none⟩) N N) (roundT es fl 0 { S with l := -1 }).b, intsT .i64 2 (.slice (some ⟨gd, 0, none⟩) N N) (roundT es fl 0 { S with l := -1 }).d, cellsT B1 #[.int .i64 N, .slice a es.length c] 24] := hs
              have HL0 := Lib.hid (show (roundT es fl 0 { S with l := -1 }).l = -1 from rfl)
              obtain ⟨S0, hS0⟩ : ∃ S0, S0 = { S with l := -1 } := ⟨_, rfl⟩
              have HSD := Lib.hid (show S0.d = S.d by rw [hS0])
              rw [← hS0] at HMID HNONE HNEXT hs2 HL0
              clear hs hS0 HRD
              go_wp2_with fail
              clear n0 n1
              refine wp_loopM [none, none, none, none, none, none, none, none, some 8, none, some 10, some 11, some 12, some 13, none, none, none, none, none, none, none, none, none, none, none, none, none, none, none, none, none, none, none, none, none, none, none, none, none, some 39, some 40, some 41, some 42, some 43, some 44, some 45, some 46, some 47, some 48, some 49, some 50, some 51, some 52, some 53, some 54, some 55, some 56, some 57, some 58, some 59, some 60, some 61, some 62, some 63, some 64, some 65, some 66, some 67, some 68, some 69, some 70, some 71, some 72, some 73, some 74, some 75, some 76, some 77, some 78, some 79, some 80, some 81, some 82, some 83, some 84, none, none, none, none, none, none, none, none, none, none, none, none, none, none, none, none, none, none, none, none, none, none, none, none, none, none, none, none, none, none, none, none, none, none, none, none, none, none, none, none, none] (fun (k2 : Nat) (f : Nat → Value) (wq : World) => (fun (v vl : Value) => ∃ (m : Nat) (T : TS), v = .int .i64 m ∧ vl = .int .i64 T.l ∧ m ≤ 2 * es.length ∧ k2 = 2 * es.length - m ∧ Hid (T = roundT es fl m S0) ∧ Sep w wq [intsT .i64 3 (.slice (some ⟨gb, 0, none⟩) N N) T.b, intsT .i64 2 (.slice (some ⟨gd, 0, none⟩) N N) T.d, cellsT B1 #[.int .i64 N, .slice a es.length c] 24]) (f 10) (f 8)) (2 * es.length) (by kernel_rfl) ?atStart4 ?round4
              case' atStart4 => (try dsimp only [nthV])
              case' round4 =>
                intro gk f wr l hl hrel J3 K3 hJ3 hK3
                (try simp only [mask] at hl)
                generalize f 10 = u10 at hl hrel
                generalize f 8 = u8 at hl hrel
                subst hl
                (try dsimp only at hrel)
              case atStart4 => exact ⟨0, roundT es fl 0 S0, rfl, by rw [HL0.out], Nat.zero_le _, rfl, Lib.hid rfl, hs2⟩
              case round4 =>
                clear hs2
                obtain ⟨m, T, rfl, rfl, hm, rfl, HT, hs⟩ := hrel
                have n0 := cell_of (hs.cells 2 rfl) 0
                have n1 := cell_of (hs.cells 2 rfl) 1
                simp only [List.getElem?_toArray, List.getElem?_cons_zero, List.getElem?_cons_succ] at n0 n1
                by_cases hmt : m < 2 * es.length
                · have hmI : (m : Int) < 2 * es.length := by omega
                  obtain ⟨U, V, C, R, q1, q2, q3, q4, q5, hU, hV, q6, q7, q8⟩ := arc_is HW.out hmt
                  obtain ⟨hTd, hTb, hTv⟩ := HMID.out m hm
                  rw [← HT.out] at hTd hTb hTv
                  obtain ⟨b1, b2⟩ := hTv U hU
                  obtain ⟨b3, b4⟩ := hTv V hV
                  have HRL := Lib.hid (relaxT_is (fl := fl) (S := T) q8 q3)
                  have HQ1 := Lib.hid q1
                  have HQ2 := Lib.hid q2
                  have HTD := Lib.hid hTd
                  have HTB := Lib.hid hTb
                  have HNX := Lib.hid (show ∀ T', relaxT es fl T m = T' → T' = roundT es fl (m + 1) S0 from fun T' e => by rw [roundT_succ, ← HT.out, e])
                  clear q1 q2 q3 q8 hTv hTd hTb
                  obtain ⟨x, hx⟩ : ∃ x, x = g T.d U := ⟨_, rfl⟩
                  obtain ⟨y, hy⟩ : ∃ y, y = g T.d V := ⟨_, rfl⟩
                  rw [← hx] at b1 b2 HRL
                  rw [← hy] at b3 b4 HRL
                  have HX := Lib.hid (show T.d.getD U 0 = x from hx.symm)
                  have HY := Lib.hid (show T.d.getD V 0 = y from hy.symm)
                  have hUI : (U : Int) < N := by omega
                  have hVI : (V : Int) < N := by omega
                  clear hx hy
                  go_wp2_with fail
                  refine (rends_any N a c es m _ (hs.rdG h) (by omega)).mono ?_
                  rintro en w4 ⟨rfl, hb⟩
                  rw [HQ1.out]
                  replace hs := hs.belowStep hb
                  clear hb n0 n1
                  have n0 := cell_of (hs.cells 2 rfl) 0
                  have n1 := cell_of (hs.cells 2 rfl) 1
                  simp only [List.getElem?_toArray, List.getElem?_cons_zero, List.getElem?_cons_succ] at n0 n1
                  by_cases h2 : 0 < R
                  · have d2 : decide (0 < R) = true := decide_eq_true h2
                    by_cases h1 : x + C < y
                    · have d1 : decide (x + C < y) = true := decide_eq_true h1
                      rw [if_pos ⟨h1, h2⟩] at HRL
                      clear h1 h2
                      go_wp2_with fail
                      refine Mix.region [0, 0, 0, 2, 0, 0, 0, 0, 0, 0, 0, 0, 0, 0, 0, 0, 0, 0] (fun _ => True) (by kernel_rfl) (by kernel_rfl) trivial ?_
                      simp only [List.zip_cons_cons, List.zip_nil_right]
                      iterate 3 (refine Mix.step0 fun K hK => ?_; go_simp; (try (go_bits; try go_simp)); first | ((with_reducible refine hK _ _ ?_); clear hK K) | ((try (simp only [IntWalk.iteOmega]; try go_simp)); (try go_bits); (with_reducible refine hK _ _ ?_); clear hK K))
                      refine Mix.step2n (by first | rfl | simp [Region.wanted, yielded]) fun K hK => ?_
                      go_wp2_with fail
                      refine (rroom_any N a c es _ fl m _ (hs.drew.rdG h) (hs.drew.rd h') (by omega)).mono ?_
                      rintro en w5 ⟨rfl, hb⟩
                      rw [HQ2.out]
                      replace hs := hs.drew.belowStep hb
                      clear hb n0 n1
                      have n0 := cell_of (hs.cells 2 rfl) 0
                      have n1 := cell_of (hs.cells 2 rfl) 1
                      simp only [List.getElem?_toArray, List.getElem?_cons_zero, List.getElem?_cons_succ] at n0 n1
                      obtain ⟨g', cg', eg, _, hcR, xf1⟩ := (hs.ints 1 rfl).get U (by rw [HTD.out]; exact hU)
                      injection eg with eg q1 q2
                      injection eg with eg
                      injection eg with eg
                      subst eg
                      have x1 := hcR U (by rw [HTD.out]; exact hU)
                      clear q1 q2 hcR
                      rw [HX.out] at x1
                      obtain ⟨g', cg', eg, _, hcR, xf⟩ := (hs.ints 1 rfl).get V (by rw [HTD.out]; exact hV)
                      injection eg with eg q1 q2
                      injection eg with eg
                      injection eg with eg
                      subst eg
                      have x2 := hcR V (by rw [HTD.out]; exact hV)
                      clear q1 q2 hcR
                      rw [HY.out] at x2
                      clear xf1
                      clear n0 n1 xf
                      go_wp2_with fail
                      refine Mix.post_mk (C := (fun _ => True)) trivial (hK _ _ ?_)
                      clear hK K
                      iterate 2 (refine Mix.step0 fun K hK => ?_; go_simp; (try (go_bits; try go_simp)); first | ((with_reducible refine hK _ _ ?_); clear hK K) | ((try (simp only [IntWalk.iteOmega]; try go_simp)); (try go_bits); (with_reducible refine hK _ _ ?_); clear hK K))
                      iterate 11 (first | (refine Mix.stepS rfl fun K hK => ?_; go_simp; (with_reducible refine hK _ _ ?_); clear hK K) | (refine Mix.step0 fun K hK => ?_; go_simp; (try (go_bits; try go_simp)); first | ((with_reducible refine hK _ _ ?_); clear hK K) | ((try (simp only [IntWalk.iteOmega]; try go_simp)); (try go_bits); (with_reducible refine hK _ _ ?_); clear hK K)))
                      iterate 1 (refine Mix.step0 fun K hK => ?_; go_simp; (try (go_bits; try go_simp)); first | ((with_reducible refine hK _ _ ?_); clear hK K) | ((try (simp only [IntWalk.iteOmega]; try go_simp)); (try go_bits); (with_reducible refine hK _ _ ?_); clear hK K))
                      refine Mix.done ?_
                      go_upto_region 17 with fail
                      clear x1 x2
                      have n0 := cell_of (hs.cells 2 rfl) 0
                      have n1 := cell_of (hs.cells 2 rfl) 1
                      simp only [List.getElem?_toArray, List.getElem?_cons_zero, List.getElem?_cons_succ] at n0 n1
                      obtain ⟨g', cg', eg, _, hcR, xf1⟩ := (hs.ints 1 rfl).get U (by rw [HTD.out]; exact hU)
                      injection eg with eg q1 q2
                      injection eg with eg
                      injection eg with eg
                      subst eg
                      have x1 := hcR U (by rw [HTD.out]; exact hU)
                      clear q1 q2 hcR
                      rw [HX.out] at x1
                      obtain ⟨g', cg', eg, _, hcR, xf⟩ := (hs.ints 1 rfl).get V (by rw [HTD.out]; exact hV)
                      injection eg with eg q1 q2
                      injection eg with eg
                      injection eg with eg
                      subst eg
                      have x2 := hcR V (by rw [HTD.out]; exact hV)
                      clear q1 q2 hcR
                      rw [HY.out] at x2
                      clear xf1
                      go_upto_region 18 with fail
                      have hs2 := hs.setInts (j := V) 1 rfl (x + C)
                      (try simp only [List.set_cons_zero, List.set_cons_succ] at hs2)
                      clear hs n0 n1 x1 x2 xf
                      generalize World.setCell _ _ _ = W7 at hs2 ⊢
                      have hs := hs2
                      clear hs2
                      obtain ⟨g', cg', eg, _, hcR, xf⟩ := (hs.ints 0 rfl).get V (by rw [HTB.out]; exact hV)
                      injection eg with eg q1 q2
                      injection eg with eg
                      injection eg with eg
                      subst eg
                      have x3 := hcR V (by rw [HTB.out]; exact hV)
                      clear q1 q2 hcR
                      go_upto_region 19 with fail
                      have hs2 := hs.setInts (j := V) 0 rfl m
                      (try simp only [List.set_cons_zero, List.set_cons_succ] at hs2)
                      clear hs x3 xf
                      generalize World.setCell _ _ _ = W8 at hs2 ⊢
                      go_wp2_with fail
                      refine Round.intro (2 * es.length - (m + 1)) ?measure5 (by kernel_rfl) (hJ3 _ _ _ ?rel5)
                      case' rel5 => (try dsimp only [nthV])
                      case measure5 => omega
                      case rel5 => exact ⟨m + 1, ⟨T.d.set V (x + C), T.b.set V m, V⟩, by go_num, rfl, hmt, rfl, Lib.hid (HNX.out _ HRL.out), hs2⟩
                    · have d1 : decide (x + C < y) = false := decide_eq_false h1
                      rw [if_neg (fun q => h1 q.1)] at HRL
                      clear h1 h2
                      go_wp2_with fail
                      refine Mix.region [0, 0, 0, 2, 0, 0, 0, 0, 0, 0, 0, 0, 0, 0, 0, 0, 0, 0] (fun _ => True) (by kernel_rfl) (by kernel_rfl) trivial ?_
                      simp only [List.zip_cons_cons, List.zip_nil_right]
                      iterate 3 (refine Mix.step0 fun K hK => ?_; go_simp; (try (go_bits; try go_simp)); first | ((with_reducible refine hK _ _ ?_); clear hK K) | ((try (simp only [IntWalk.iteOmega]; try go_simp)); (try go_bits); (with_reducible refine hK _ _ ?_); clear hK K))
                      refine Mix.step2n (by first | rfl | simp [Region.wanted, yielded]) fun K hK => ?_
                      go_wp2_with fail
                      refine (rroom_any N a c es _ fl m _ (hs.drew.rdG h) (hs.drew.rd h') (by omega)).mono ?_
                      rintro en w5 ⟨rfl, hb⟩
                      rw [HQ2.out]
                      replace hs := hs.drew.belowStep hb
                      clear hb n0 n1
                      have n0 := cell_of (hs.cells 2 rfl) 0
                      have n1 := cell_of (hs.cells 2 rfl) 1
                      simp only [List.getElem?_toArray, List.getElem?_cons_zero, List.getElem?_cons_succ] at n0 n1
                      obtain ⟨g', cg', eg, _, hcR, xf1⟩ := (hs.ints 1 rfl).get U (by rw [HTD.out]; exact hU)
                      injection eg with eg q1 q2
                      injection eg with eg
                      injection eg with eg
                      subst eg
                      have x1 := hcR U (by rw [HTD.out]; exact hU)
                      clear q1 q2 hcR
                      rw [HX.out] at x1
                      obtain ⟨g', cg', eg, _, hcR, xf⟩ := (hs.ints 1 rfl).get V (by rw [HTD.out]; exact hV)
                      injection eg with eg q1 q2
                      injection eg with eg
                      injection eg with eg
                      subst eg
                      have x2 := hcR V (by rw [HTD.out]; exact hV)
                      clear q1 q2 hcR
                      rw [HY.out] at x2
                      clear xf1
                      clear n0 n1 xf
                      go_wp2_with fail
                      refine Mix.post_mk (C := (fun _ => True)) trivial (hK _ _ ?_)
                      clear hK K
                      iterate 2 (refine Mix.step0 fun K hK => ?_; go_simp; (try (go_bits; try go_simp)); first | ((with_reducible refine hK _ _ ?_); clear hK K) | ((try (simp only [IntWalk.iteOmega]; try go_simp)); (try go_bits); (with_reducible refine hK _ _ ?_); clear hK K))
                      iterate 11 (first | (refine Mix.stepS rfl fun K hK => ?_; go_simp; (with_reducible refine hK _ _ ?_); clear hK K) | (refine Mix.step0 fun K hK => ?_; go_simp; (try (go_bits; try go_simp)); first | ((with_reducible refine hK _ _ ?_); clear hK K) | ((try (simp only [IntWalk.iteOmega]; try go_simp)); (try go_bits); (with_reducible refine hK _ _ ?_); clear hK K)))
                      iterate 1 (refine Mix.step0 fun K hK => ?_; go_simp; (try (go_bits; try go_simp)); first | ((with_reducible refine hK _ _ ?_); clear hK K) | ((try (simp only [IntWalk.iteOmega]; try go_simp)); (try go_bits); (with_reducible refine hK _ _ ?_); clear hK K))
                      refine Mix.done ?_
                      go_wp2_with fail
                      refine Round.intro (2 * es.length - (m + 1)) ?measure6 (by kernel_rfl) (hJ3 _ _ _ ?rel6)
                      case' rel6 => (try dsimp only [nthV])
                      case measure6 => omega
                      case rel6 => exact ⟨m + 1, T, by go_num, rfl, hmt, rfl, Lib.hid (HNX.out _ HRL.out), hs⟩
                  · have d2 : decide (0 < R) = false := decide_eq_false h2
                    rw [if_neg (fun q => h2 q.2)] at HRL
                    clear h2
                    go_wp2_with fail
                    refine Mix.region [0, 0, 0, 2, 0, 0, 0, 0, 0, 0, 0, 0, 0, 0, 0, 0, 0, 0] (fun _ => True) (by kernel_rfl) (by kernel_rfl) trivial ?_
                    simp only [List.zip_cons_cons, List.zip_nil_right]
                    iterate 3 (refine Mix.step0 fun K hK => ?_; go_simp; (try (go_bits; try go_simp)); first | ((with_reducible refine hK _ _ ?_); clear hK K) | ((try (simp only [IntWalk.iteOmega]; try go_simp)); (try go_bits); (with_reducible refine hK _ _ ?_); clear hK K))
                    refine Mix.step2n (by first | rfl | simp [Region.wanted, yielded]) fun K hK => ?_
                    go_wp2_with fail
                    refine (rroom_any N a c es _ fl m _ (hs.drew.rdG h) (hs.drew.rd h') (by omega)).mono ?_
                    rintro en w5 ⟨rfl, hb⟩
                    rw [HQ2.out]
                    replace hs := hs.drew.belowStep hb
                    clear hb n0 n1
                    have n0 := cell_of (hs.cells 2 rfl) 0
                    have n1 := cell_of (hs.cells 2 rfl) 1
                    simp only [List.getElem?_toArray, List.getElem?_cons_zero, List.getElem?_cons_succ] at n0 n1
                    obtain ⟨g', cg', eg, _, hcR, xf1⟩ := (hs.ints 1 rfl).get U (by rw [HTD.out]; exact hU)
                    injection eg with eg q1 q2
                    injection eg with eg
                    injection eg with eg
                    subst eg
                    have x1 := hcR U (by rw [HTD.out]; exact hU)
                    clear q1 q2 hcR
                    rw [HX.out] at x1
                    obtain ⟨g', cg', eg, _, hcR, xf⟩ := (hs.ints 1 rfl).get V (by rw [HTD.out]; exact hV)
                    injection eg with eg q1 q2
                    injection eg with eg
                    injection eg with eg
                    subst eg
                    have x2 := hcR V (by rw [HTD.out]; exact hV)
                    clear q1 q2 hcR
                    rw [HY.out] at x2
                    clear xf1
                    clear n0 n1 xf
                    go_wp2_with fail
                    refine Mix.post_mk (C := (fun _ => True)) trivial (hK _ _ ?_)
                    clear hK K
                    iterate 2 (refine Mix.step0 fun K hK => ?_; go_simp; (try (go_bits; try go_simp)); first | ((with_reducible refine hK _ _ ?_); clear hK K) | ((try (simp only [IntWalk.iteOmega]; try go_simp)); (try go_bits); (with_reducible refine hK _ _ ?_); clear hK K))
                    iterate 11 (first | (refine Mix.stepS rfl fun K hK => ?_; go_simp; (with_reducible refine hK _ _ ?_); clear hK K) | (refine Mix.step0 fun K hK => ?_; go_simp; (try (go_bits; try go_simp)); first | ((with_reducible refine hK _ _ ?_); clear hK K) | ((try (simp only [IntWalk.iteOmega]; try go_simp)); (try go_bits); (with_reducible refine hK _ _ ?_); clear hK K)))
                    iterate 1 (refine Mix.step0 fun K hK => ?_; go_simp; (try (go_bits; try go_simp)); first | ((with_reducible refine hK _ _ ?_); clear hK K) | ((try (simp only [IntWalk.iteOmega]; try go_simp)); (try go_bits); (with_reducible refine hK _ _ ?_); clear hK K))
                    refine Mix.done ?_
                    go_wp2_with fail
                    refine Round.intro (2 * es.length - (m + 1)) ?measure7 (by kernel_rfl) (hJ3 _ _ _ ?rel7)
                    case' rel7 => (try dsimp only [nthV])
                    case measure7 => omega
                    case rel7 => exact ⟨m + 1, T, by go_num, rfl, hmt, rfl, Lib.hid (HNX.out _ HRL.out), hs⟩
                · obtain rfl : m = 2 * es.length := by omega
                  rw [← HT.out] at HNONE HNEXT
                  by_cases hl : T.l < 0
                  · have hck := HNONE.out hl
                    go_wp2_with fail
                    (repeat rw [Exit.noGoto_ret])
                    go_ret
                    exact ⟨_, [], .inl ⟨rfl, _, hck⟩, rfl, (Sep.ofBelow hs.below).nilInts .i64 _⟩
                  · have HN2 := Lib.hid (HNEXT.out (by omega))
                    go_wp2_with fail
                    refine Round.intro (N + 1 - (r + 1)) ?measure8 (by kernel_rfl) (hJ2 _ _ _ ?rel8)
                    case' rel8 => (try dsimp only [nthV])
                    case measure8 => omega
                    case rel8 => exact ⟨r + 1, T, by go_num, rfl, rfl, by omega, rfl, HN2, hs⟩
            · obtain rfl : r = N + 1 := by omega
              obtain ⟨l, u, q, e1, e2, e3, e4, e5, e6, hk, hi, hhas, hRT, hnd⟩ := HRD.out.turn HR.out
              have hlb := HRD.out.lb
              have HLB := Lib.hid hlb
              have HK := Lib.hid hk
              have HI := Lib.hid hi
              have HE5 := Lib.hid e5
              have HE6 := Lib.hid e6
              have HE2 := Lib.hid e2
              have HFIN := Lib.hid (show TurnD N es fl (turnP es S.b u q) from .inr ⟨fun e => by have := congrArg List.length e; rw [turnP_len] at this; simp at this; omega, hhas, ⟨u, hRT⟩, hnd⟩)
              clear hk hi hhas hRT hnd e5 e6 e2 hlb HRD
              rw [e1]
              clear e1
              have hgt : ¬ ((N + 1 : Nat) : Int) ≤ N := by omega
              go_wp2_with fail
              clear n0 n1 hgt
              refine wp_loopM [none, none, none, none, none, none, none, none, none, none, none, none, none, none, some 14, some 15, none, none, none, none, none, none, none, none, none, none, none, none, none, none, none, none, none, none, none, none, none, none, none, none, none, none, none, none, none, none, none, none, none, none, none, none, none, none, none, none, none, none, none, none, none, none, none, none, none, none, none, none, none, none, none, none, none, none, none, none, none, none, none, none, none, none, none, none, none, none, none, none, some 88, some 89, some 90, some 91, some 92, some 93, some 94, some 95, some 96, some 97, some 98, some 99, some 100, some 101, some 102, some 103, none, none, none, none, none, none, none, none, none, none, none, none, none, none, none, none, none, none, none, none, none, none] (fun (k : Nat) (f : Nat → Value) (wr : World) => (fun (v vu : Value) => ∃ i : Nat, v = .int .i64 i ∧ vu = .int .i64 (parN es S.b l i) ∧ i ≤ N ∧ k = N - i ∧ Sep w wr [intsT .i64 3 (.slice (some ⟨gb, 0, none⟩) N N) S.b, intsT .i64 2 (.slice (some ⟨gd, 0, none⟩) N N) S.d, cellsT B1 #[.int .i64 N, .slice a es.length c] 24]) (f 15) (f 14)) (N) (by kernel_rfl) ?atStart9 ?round9
              case' atStart9 => (try dsimp only [nthV])
              case' round9 =>
                intro gk f wr l hl hrel J4 K4 hJ4 hK4
                (try simp only [mask] at hl)
                generalize f 15 = u15 at hl hrel
                generalize f 14 = u14 at hl hrel
                subst hl
                (try dsimp only at hrel)
              case atStart9 => exact ⟨0, rfl, rfl, Nat.zero_le _, rfl, hs⟩
              case round9 =>
                clear hs
                obtain ⟨i, rfl, rfl, hi, rfl, hs⟩ := hrel
                have n0 := cell_of (hs.cells 2 rfl) 0
                have n1 := cell_of (hs.cells 2 rfl) 1
                simp only [List.getElem?_toArray, List.getElem?_cons_zero, List.getElem?_cons_succ] at n0 n1
                by_cases hlt2 : i < N
                · have hiI : (i : Int) < N := by omega
                  obtain ⟨k1, a0, k2, k3, k4⟩ := HK.out i hi
                  obtain ⟨U, V, C, R, q1, q2, q3, q4, q5, hU, hV, q6, q7, q8⟩ := arc_is HW.out k2.1
                  rw [arc_u q8] at k4
                  obtain ⟨X, hX⟩ : ∃ X, X = parN es S.b l i := ⟨_, rfl⟩
                  rw [← hX] at k1 k3 ⊢
                  have HQ1 := Lib.hid q1
                  have HK4 := Lib.hid k4
                  have hXI : (X : Int) < N := by omega
                  obtain ⟨g', cg', eg, _, hcR, xf⟩ := (hs.ints 0 rfl).get X (by rw [HLB.out]; exact k1)
                  injection eg with eg q1 q2
                  injection eg with eg
                  injection eg with eg
                  subst eg
                  have x1 := hcR X (by rw [HLB.out]; exact k1)
                  clear q1 q2 hcR
                  rw [show S.b.getD X 0 = (a0 : Int) from k3] at x1
                  clear q1 q2 q3 q8 k4 k3 hX xf
                  go_wp2_with fail
                  refine Mix.region [0, 0, 0, 0, 0, 2, 0, 0, 0, 0, 0] (fun _ => True) (by kernel_rfl) (by kernel_rfl) trivial ?_
                  simp only [List.zip_cons_cons, List.zip_nil_right]
                  iterate 5 (refine Mix.step0 fun K hK => ?_; go_simp; (try (go_bits; try go_simp)); first | ((with_reducible refine hK _ _ ?_); clear hK K) | ((try (simp only [IntWalk.iteOmega]; try go_simp)); (try go_bits); (with_reducible refine hK _ _ ?_); clear hK K))
                  refine Mix.step2n (by first | rfl | simp [Region.wanted, yielded]) fun K hK => ?_
                  go_wp2_with fail
                  refine (rends_any N a c es a0 _ (hs.drew.rdG h) (by omega)).mono ?_
                  rintro en w4 ⟨rfl, hb⟩
                  rw [HQ1.out]
                  replace hs := hs.drew.belowStep hb
                  clear hb n0 n1 x1
                  go_wp2_with fail
                  refine Mix.post_mk (C := (fun _ => True)) trivial (hK _ _ ?_)
                  clear hK K
                  iterate 5 (refine Mix.step0 fun K hK => ?_; go_simp; (try (go_bits; try go_simp)); first | ((with_reducible refine hK _ _ ?_); clear hK K) | ((try (simp only [IntWalk.iteOmega]; try go_simp)); (try go_bits); (with_reducible refine hK _ _ ?_); clear hK K))
                  refine Mix.done ?_
                  go_wp2_with fail
                  refine Round.intro (N - (i + 1)) ?measure10 (by kernel_rfl) (hJ4 _ _ _ ?rel10)
                  case' rel10 => (try dsimp only [nthV])
                  case measure10 => omega
                  case rel10 => exact ⟨i + 1, by go_num, by rw [← HK4.out], hlt2, rfl, hs⟩
                · obtain rfl : N = i := by omega
                  rw [← HE2.out]
                  clear hlt2 hi HK HE2
                  go_wp2_with fail
                  clear n0 n1
                  replace hs := hs.nilInts .i64 3
                  refine wp_loopM [none, none, none, none, some 4, none, none, none, none, none, none, none, none, none, none, none, some 16, some 17, none, none, none, none, none, none, none, none, none, none, none, none, none, none, none, none, none, none, none, none, none, none, none, none, none, none, none, none, none, none, none, none, none, none, none, none, none, none, none, none, none, none, none, none, none, none, none, none, none, none, none, none, none, none, none, none, none, none, none, none, none, none, none, none, none, none, none, none, none, none, none, none, none, none, none, none, none, none, none, none, none, none, none, none, none, none, none, some 105, some 106, some 107, some 108, some 109, some 110, some 111, some 112, some 113, some 114, some 115, some 116, some 117, some 118, some 119, some 120, some 121, some 122, some 123, some 124, some 125] (fun (k : Nat) (f : Nat → Value) (wr : World) => (fun (vo vv : Value) => ∃ (i : Nat) (aa : Option Addr) (ca : Nat), vo = .slice aa i ca ∧ vv = .int .i64 (parN es S.b u i) ∧ i < q ∧ k = q - i ∧ Sep w wr [intsT .i64 3 (.slice aa i ca) (intsOf (turnP es S.b u i)), intsT .i64 3 (.slice (some ⟨gb, 0, none⟩) N N) S.b, intsT .i64 2 (.slice (some ⟨gd, 0, none⟩) N N) S.d, cellsT B1 #[.int .i64 N, .slice a es.length c] 24]) (f 16) (f 17)) (q) (by kernel_rfl) ?atStart11 ?round11
                  case' atStart11 => (try dsimp only [nthV])
                  case' round11 =>
                    intro gk f wr l hl hrel J5 K5 hJ5 hK5
                    (try simp only [mask] at hl)
                    generalize f 16 = u16 at hl hrel
                    generalize f 17 = u17 at hl hrel
                    subst hl
                    (try dsimp only at hrel)
                  case atStart11 => exact ⟨0, none, 0, rfl, rfl, e3, rfl, hs⟩
                  case round11 =>
                    clear hs
                    obtain ⟨i, aa, ca, rfl, rfl, hiq, rfl, hs⟩ := hrel
                    have n0 := cell_of (hs.cells 3 rfl) 0
                    have n1 := cell_of (hs.cells 3 rfl) 1
                    simp only [List.getElem?_toArray, List.getElem?_cons_zero, List.getElem?_cons_succ] at n0 n1
                    obtain ⟨k1, a0, k2, k3, k4⟩ := HI.out i
                    have HP := Lib.hid (intsOf_turn k3)
                    have HPL := Lib.hid (show (intsOf (turnP es S.b u i)).length = i by rw [intsOf_len, turnP_len])
                    obtain ⟨U, V, C, R, q1, q2, q3, q4, q5, hU, hV, q6, q7, q8⟩ := arc_is HW.out k2.1
                    rw [arc_u q8] at k4
                    obtain ⟨X, hX⟩ : ∃ X, X = parN es S.b u i := ⟨_, rfl⟩
                    rw [← hX] at k1 k3 ⊢
                    have HQ1 := Lib.hid q1
                    have HK4 := Lib.hid k4
                    have HK3 := Lib.hid (show S.b.getD X 0 = (a0 : Int) from k3)
                    have hXI : (X : Int) < N := by omega
                    obtain ⟨g', cg', eg, _, hcR, xf⟩ := (hs.ints 1 rfl).get X (by rw [HLB.out]; exact k1)
                    injection eg with eg q1 q2
                    injection eg with eg
                    injection eg with eg
                    subst eg
                    have x1 := hcR X (by rw [HLB.out]; exact k1)
                    clear q1 q2 hcR
                    rw [HK3.out] at x1
                    clear q1 q2 q3 q8 k4 k3 hX xf
                    go_wp2_with (at_builtin; refine wpList_appInt rfl (.tmp 105) (.tmp 110) 54 rfl 3 j0 _ 8 Try.underlying54 hj0 hy0 hy1 hy2 rfl _ _ .i64 (a0 : Int) hs 0 rfl rfl (by simp [go_sem]) ?c3 ?c4 ?grow)
                    case c3 => rw [HPL.out]; unfold maxLen; omega
                    case c4 => rw [HPL.out]; omega
                    case grow =>
                      intro v' w5 hs2 hv
                      obtain ⟨g2, k5, rfl⟩ := hv.out
                      rw [HPL.out, HP.out] at hs2
                      rw [HPL.out]
                      (try simp only [List.set_cons_zero, List.set_cons_succ] at hs2)
                      clear hs hv n0 n1 x1
                      have hs := hs2
                      clear hs2
                      have n0 := cell_of (hs.cells 3 rfl) 0
                      have n1 := cell_of (hs.cells 3 rfl) 1
                      simp only [List.getElem?_toArray, List.getElem?_cons_zero, List.getElem?_cons_succ] at n0 n1
                      obtain ⟨g', cg', eg, _, hcR, xf⟩ := (hs.ints 1 rfl).get X (by rw [HLB.out]; exact k1)
                      injection eg with eg q1 q2
                      injection eg with eg
                      injection eg with eg
                      subst eg
                      have x1 := hcR X (by rw [HLB.out]; exact k1)
                      clear q1 q2 hcR
                      rw [HK3.out] at x1
                      clear xf
                      by_cases hq : i + 1 = q
                      · have hUu : U = u := by rw [HK4.out, hq]; exact HE5.out
                        go_wp2_with fail
                        refine Mix.region [0, 0, 0, 0, 0, 2, 0, 0, 0, 0, 0] (fun _ => True) (by kernel_rfl) (by kernel_rfl) trivial ?_
                        simp only [List.zip_cons_cons, List.zip_nil_right]
                        iterate 5 (refine Mix.step0 fun K hK => ?_; go_simp; (try (go_bits; try go_simp)); first | ((with_reducible refine hK _ _ ?_); clear hK K) | ((try (simp only [IntWalk.iteOmega]; try go_simp)); (try go_bits); (with_reducible refine hK _ _ ?_); clear hK K))
                        refine Mix.step2n (by first | rfl | simp [Region.wanted, yielded]) fun K hK => ?_
                        go_wp2_with fail
                        refine (rends_any N a c es a0 _ (hs.drew.rdG h) (by omega)).mono ?_
                        rintro en w4 ⟨rfl, hb⟩
                        rw [HQ1.out]
                        replace hs := hs.drew.belowStep hb
                        clear hb n0 n1 x1
                        go_wp2_with fail
                        refine Mix.post_mk (C := (fun _ => True)) trivial (hK _ _ ?_)
                        clear hK K
                        iterate 5 (refine Mix.step0 fun K hK => ?_; go_simp; (try (go_bits; try go_simp)); first | ((with_reducible refine hK _ _ ?_); clear hK K) | ((try (simp only [IntWalk.iteOmega]; try go_simp)); (try go_bits); (with_reducible refine hK _ _ ?_); clear hK K))
                        refine Mix.done ?_
                        subst hUu
                        go_wp2_with fail
                        (repeat rw [Exit.noGoto_ret])
                        go_ret
                        exact ⟨_, turnP es S.b U q, HFIN.out, rfl, by rw [← hq]; exact hs.takeN 1⟩
                      · have hUu : ((U : Int) == (u : Int)) = false := beq_eq_false_iff_ne.2 fun e => HE6.out (i + 1) (by omega) (by omega) (by rw [← HK4.out]; omega)
                        go_wp2_with fail
                        refine Mix.region [0, 0, 0, 0, 0, 2, 0, 0, 0, 0, 0] (fun _ => True) (by kernel_rfl) (by kernel_rfl) trivial ?_
                        simp only [List.zip_cons_cons, List.zip_nil_right]
                        iterate 5 (refine Mix.step0 fun K hK => ?_; go_simp; (try (go_bits; try go_simp)); first | ((with_reducible refine hK _ _ ?_); clear hK K) | ((try (simp only [IntWalk.iteOmega]; try go_simp)); (try go_bits); (with_reducible refine hK _ _ ?_); clear hK K))
                        refine Mix.step2n (by first | rfl | simp [Region.wanted, yielded]) fun K hK => ?_
                        go_wp2_with fail
                        refine (rends_any N a c es a0 _ (hs.drew.rdG h) (by omega)).mono ?_
                        rintro en w4 ⟨rfl, hb⟩
                        rw [HQ1.out]
                        replace hs := hs.drew.belowStep hb
                        clear hb n0 n1 x1
                        go_wp2_with fail
                        refine Mix.post_mk (C := (fun _ => True)) trivial (hK _ _ ?_)
                        clear hK K
                        iterate 5 (refine Mix.step0 fun K hK => ?_; go_simp; (try (go_bits; try go_simp)); first | ((with_reducible refine hK _ _ ?_); clear hK K) | ((try (simp only [IntWalk.iteOmega]; try go_simp)); (try go_bits); (with_reducible refine hK _ _ ?_); clear hK K))
                        refine Mix.done ?_
                        go_wp2_with fail
                        refine Round.intro (q - (i + 1)) ?measure12 (by kernel_rfl) (hJ5 _ _ _ ?rel12)
                        case' rel12 => (try dsimp only [nthV])
                        case measure12 => omega
                        case rel12 => exact ⟨i + 1, _, _, rfl, by rw [← HK4.out], by omega, rfl, hs⟩
end Go.Proofs.Ytacbfpgijmpilaa
