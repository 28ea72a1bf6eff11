/-
  The reference's Least, walked.
-/
import Derived.Test.YtacbfpgijmpilaaSTurnW
import Derived.Test.YtacbfpgijmpilaaSMoreW
set_option linter.unusedVariables false
set_option linter.unusedSimpArgs false
namespace Go.SolveP
open Go Go.Mem Go.NetP Go.RestP Go.CertP Go.PathP
theorem pushA_take {fl : List Int} {P : List Nat} {m : Int} {i : Nat} (h : i < P.length) : pushA fl (P.take (i + 1)) m = pushL (pushA fl (P.take i) m) P[i] m := by
  rw [List.take_succ_eq_append_getElem h]
  unfold pushA
  rw [List.foldl_append]; rfl
theorem pushA_take_within {n : Int} {es : List Ed} {fl : List Int} {P : List Nat} {m : Int} (hw : withinB n es fl = true) (hn : (P.map fun x => x / 2).Nodup) (ha : ∀ a ∈ P, a < 2 * es.length ∧ m ≤ roomE es fl a) (hm : 0 ≤ m) (i : Nat) : withinB n es (pushA fl (P.take i) m) = true :=
  push_within hw (by rw [List.map_take]; exact hn.sublist (List.take_sublist _ _)) (fun a h => ha a (List.mem_of_mem_take h)) hm
/-- What Least answers. -/
def LeastP (N : Nat) (es : List Ed) (en : Ending) : Prop := ∃ (K : Int) (b : Bool), en = .returned (.tuple #[.int .i64 K, .bool b]) ∧ (b = true → ∃ fl pot, checkB N es fl pot = true ∧ K = costV N es fl)
theorem intsOf_at {P : List Nat} {i : Nat} (h : i < P.length) : (intsOf P).getD i 0 = (P[i] : Int) := by
  unfold intsOf; simp [h]
end Go.SolveP
namespace Go.Proofs.Ytacbfpgijmpilaa
open Go Go.RowKit Go.Mem Go.NetP Go.RestP Go.CertP Go.PathP Go.SolveP
set_option maxRecDepth 100000 in
set_option maxHeartbeats 4000000 in
theorem refLeast_any (N : Nat) (a : Option Addr) (c : Nat) (es : List Ed) (most : Int) (w : World) (h : RdG edR w (.slice a es.length c) es) (hr : rightB N es = true) (hmost : most ≤ 1000000) :
    Calls Try.prog 14 #[.agg #[.int .i64 N, .slice a es.length c], .int .i64 most] w fun en w' => LeastP N es en ∧ Below w.heap.size w w' := by
  obtain ⟨i0, hi0, hz0, hz1, hz2⟩ := info_parts Try.infoI64v
  obtain ⟨hn1, hn40, hes, _, _⟩ := right_cap hr
  have hle := h.le'
  have HR := Lib.hid hr
  have HZ := Lib.hid (zero_flows hr).1
  clear hr
  have hs := (Sep.start w).newCells #[.int .i64 N, .slice a es.length c] 24
  obtain ⟨B1, hB⟩ : ∃ B1, B1 = w.heap.size := ⟨_, rfl⟩
  rw [← hB] at hs
  have n0 := cell_of (hs.cells 0 rfl) 0
  have n1 := cell_of (hs.cells 0 rfl) 1
  simp only [List.getElem?_toArray, List.getElem?_cons_zero, List.getElem?_cons_succ] at n0 n1
  go_enter Try.func14, Try.ntmps14
  go_upto_region 1 with fail
  (try rw [← hB])
  clear hB
  go_wp2_with (at_make; refine wpList_makeInts rfl (.tmp 16) (.tmp 16) 27 rfl 2 i0 .i64 8 Try.underlying27 hi0 hz0 hz1 hz2 es.length .i64 .i64 rfl rfl hs ?m1 ?m2 ?m3)
  case m1 => unfold maxLen; omega
  case m2 => omega
  case m3 =>
    intro w1 gf hs1
    clear hs n0 n1
    go_wp2_with fail
    refine wp_loopM [none, none, none, none, some 4, some 5, none, some 7, some 8, some 9, some 10, some 11, some 12, some 13, none, none, none, none, some 18, some 19, some 20, some 21, some 22, some 23, some 24, some 25, some 26, some 27, some 28, some 29, some 30, some 31, some 32, some 33, some 34, some 35, some 36, some 37, some 38, some 39, some 40, some 41, some 42, some 43, some 44, some 45, some 46, some 47, some 48, some 49, some 50, some 51, some 52, some 53, some 54, some 55, some 56, some 57, some 58, some 59, some 60, some 61, some 62, some 63, some 64, some 65, some 66, some 67, some 68, some 69, some 70, some 71, some 72, some 73, some 74, some 75, some 76, some 77, some 78, some 79, some 80, some 81, some 82, some 83, some 84, some 85, some 86, some 87, some 88, some 89, some 90, some 91, some 92, some 93, some 94, some 95, some 96, some 97, some 98, some 99, some 100, some 101, some 102, some 103] (fun (r : Nat) (f : Nat → Value) (wr : World) => (fun (v v4 v5 : Value) => ∃ (k : Nat) (fl : List Int), v = .int .i64 k ∧ v4 = .int .i64 0 ∧ v5 = .bool false ∧ k ≤ most.toNat ∧ r = most.toNat - k ∧ Hid (flowsB N es fl = true) ∧ Sep w wr [intsT .i64 2 (.slice (some ⟨gf, 0, none⟩) es.length es.length) fl, cellsT B1 #[.int .i64 N, .slice a es.length c] 24]) (f 7) (f 4) (f 5)) (most.toNat) (by kernel_rfl) ?atStart1 ?round1
    case' atStart1 => (try dsimp only [nthV])
    case' round1 =>
      intro gk f wr l hl hrel J1 K1 hJ1 hK1
      (try simp only [mask] at hl)
      generalize f 7 = u7 at hl hrel
      generalize f 4 = u4 at hl hrel
      generalize f 5 = u5 at hl hrel
      subst hl
      (try dsimp only at hrel)
    case atStart1 => exact ⟨0, List.replicate es.length 0, rfl, rfl, rfl, Nat.zero_le _, rfl, HZ, hs1⟩
    case round1 =>
      clear hs1
      obtain ⟨k, fl, rfl, rfl, rfl, hk, rfl, HF, hs⟩ := hrel
      have n0 := cell_of (hs.cells 1 rfl) 0
      have n1 := cell_of (hs.cells 1 rfl) 1
      simp only [List.getElem?_toArray, List.getElem?_cons_zero, List.getElem?_cons_succ] at n0 n1
      by_cases hlt : (k : Int) < most
      · have hw := (flows_iff.1 HF.out).1
        have HW := Lib.hid hw
        have hfl : fl.length = es.length := (within_cap hw).1
        have HFL := Lib.hid hfl
        clear hw hfl
        go_wp2_with fail
        refine (turn_any N a c es _ fl _ (hs.rdG h) (hs.rdInts 0 rfl) HF.out).mono ?_
        rintro en w2 ⟨vl, P, hTD, rfl, kk⟩
        obtain ⟨al, cl, rfl⟩ := (kk.rdInts 0 rfl).shape
        have HTD := Lib.hid hTD
        replace hs := hs.join kk
        simp only [List.cons_append, List.nil_append] at hs
        clear kk n0 n1 hTD
        have HPL := Lib.hid (intsOf_len P)
        rw [HPL.out] at hs ⊢
        rcases HTD.out with ⟨rfl, pot, hck⟩ | ⟨hne, hhas, ⟨u, hRT⟩, hnd⟩
        · replace hs := hs.tail
          have HCK := Lib.hid hck
          clear hck HTD HPL
          simp only [List.length_nil]
          have n0 := cell_of (hs.cells 1 rfl) 0
          have n1 := cell_of (hs.cells 1 rfl) 1
          simp only [List.getElem?_toArray, List.getElem?_cons_zero, List.getElem?_cons_succ] at n0 n1
          go_wp2_with fail
          refine wp_loopM [none, none, none, none, none, none, none, none, none, some 9, some 10, none, none, none, none, none, none, none, none, none, none, none, none, none, none, none, none, none, none, some 29, some 30, some 31, some 32, some 33, some 34, some 35, some 36, some 37, some 38, some 39, some 40, some 41, some 42, some 43, some 44, some 45, some 46, some 47, none, none, none, none, none, none, none, none, none, none, none, none, none, none, none, none, none, none, none, none, none, none, none, none, none, none, none, none, none, none, none, none, none, none, none, none, none, none, none, none, none, none, none, none, none, none, none, none, none, none, none, none, none, none, none, none] (fun (r : Nat) (f : Nat → Value) (wr : World) => (fun (v vs : Value) => ∃ i : Nat, v = .int .i64 i ∧ vs = .int .i64 (flowCost es fl i) ∧ i ≤ es.length ∧ r = es.length - i ∧ Sep w wr [intsT .i64 2 (.slice (some ⟨gf, 0, none⟩) es.length es.length) fl, cellsT B1 #[.int .i64 N, .slice a es.length c] 24]) (f 10) (f 9)) (es.length) (by kernel_rfl) ?atStart2 ?round2
          case' atStart2 => (try dsimp only [nthV])
          case' round2 =>
            intro gk f wr l hl hrel J2 K2 hJ2 hK2
            (try simp only [mask] at hl)
            generalize f 10 = u10 at hl hrel
            generalize f 9 = u9 at hl hrel
            subst hl
            (try dsimp only at hrel)
          case atStart2 => exact ⟨0, rfl, rfl, Nat.zero_le _, rfl, hs⟩
          case round2 =>
            clear hs n0 n1
            obtain ⟨i, rfl, rfl, hi, rfl, hs⟩ := hrel
            have n0 := cell_of (hs.cells 1 rfl) 0
            have n1 := cell_of (hs.cells 1 rfl) 1
            simp only [List.getElem?_toArray, List.getElem?_cons_zero, List.getElem?_cons_succ] at n0 n1
            by_cases hlt2 : i < es.length
            · have hiI : (i : Int) < es.length := by omega
              obtain ⟨ba, oa, eqa, _, hca⟩ := (hs.rdG h).at i hlt2
              subst eqa
              rw [← edAt_of hlt2] at hca
              have x3 := hca 3 (by decide)
              simp only [edR, List.getElem?_cons_zero, List.getElem?_cons_succ] at x3
              have hp := costP_bound HW.out hlt2
              rw [← edAt_of hlt2] at hp
              have hf1 := flowCost_bound HW.out hi
              have hf2 := flowCost_bound HW.out hlt2
              rw [flowCost_succ] at hf2
              have HS := Lib.hid (flowCost_succ es fl i)
              obtain ⟨g', cg', eg, _, hcR, xf⟩ := (hs.ints 0 rfl).get i (by rw [HFL.out]; exact hlt2)
              injection eg with eg q1 q2
              injection eg with eg
              injection eg with eg
              subst eg
              have x1 := hcR i (by rw [HFL.out]; exact hlt2)
              clear q1 q2 hcR
              obtain ⟨X, hX⟩ : ∃ X, X = fl.getD i 0 := ⟨_, rfl⟩
              obtain ⟨Y, hY⟩ : ∃ Y, Y = (edAt es i).k := ⟨_, rfl⟩
              obtain ⟨F, hF⟩ : ∃ F, F = flowCost es fl i := ⟨_, rfl⟩
              rw [← hX, ← hY] at hp
              rw [← hX, ← hY, ← hF] at hf2 HS
              rw [← hF] at hf1 ⊢
              rw [← hX] at x1
              rw [← hY] at x3
              obtain ⟨p0, p1⟩ := hp
              obtain ⟨p2, p3⟩ := hf1
              obtain ⟨p4, p5⟩ := hf2
              clear hX hY hF hca xf
              go_wp2_with fail
              refine Mix.region [0, 0, 0, 0, 0, 0, 0, 0, 0, 0, 0, 0, 0, 0] (fun _ => True) (by kernel_rfl) (by kernel_rfl) trivial ?_
              simp only [List.zip_cons_cons, List.zip_nil_right]
              iterate 14 (refine Mix.step0 fun K hK => ?_; go_simp; (try (go_bits; try go_simp)); first | ((with_reducible refine hK _ _ ?_); clear hK K) | ((try (simp only [IntWalk.iteOmega]; try go_simp)); (try go_bits); (with_reducible refine hK _ _ ?_); clear hK K))
              refine Mix.done ?_
              go_wp2_with fail
              refine Round.intro (es.length - (i + 1)) ?measure3 (by kernel_rfl) (hJ2 _ _ _ ?rel3)
              case' rel3 => (try dsimp only [nthV])
              case measure3 => omega
              case rel3 => exact ⟨i + 1, by go_num, by rw [HS.out], hlt2, rfl, hs.drew⟩
            · obtain rfl : i = es.length := by omega
              go_wp2_with fail
              (repeat rw [Exit.noGoto_ret])
              go_ret2
              exact ⟨⟨flowCost es fl es.length, true, rfl, fun _ => ⟨fl, pot, HCK.out, (costV_of HW.out).symm⟩⟩, hs.below⟩
        · have hpos : 0 < P.length := by cases P with
            | nil => exact absurd rfl hne
            | cons x P => simp
          have hposI : (0 : Int) < P.length := by omega
          have hpe : ((P.length : Int) == 0) = false := beq_eq_false_iff_ne.2 (by omega)
          have hpl : P.length ≤ 9223372036854775807 := by have := (hs.rdInts 0 rfl).le'; rw [HPL.out] at this; exact this
          have HAS := Lib.hid hhas
          have HRT := Lib.hid hRT
          have HND := Lib.hid hnd
          have HAT := Lib.hid (fun i (hi : i < P.length) => intsOf_at (P := P) hi)
          have HRM := Lib.hid (show ∀ i (hi : i < P.length), roomV N es fl (P[i] : Nat) = roomE es fl P[i] ∧ 0 < roomE es fl P[i] ∧ roomE es fl P[i] ≤ 4503599627370496 ∧ P[i] < 2 * es.length from fun i hi => by
            have h1 := hhas P[i] (List.getElem_mem hi)
            have hh : hasB es.length ((P[i] : Nat) : Int) = true := by rw [hasB_iff]; have := h1.1; omega
            exact ⟨room_in HW.out hh, h1.2, (room_bound HW.out hh).2, h1.1⟩)
          clear hhas hRT hnd hne HTD
          obtain ⟨m0, m1, m2, _⟩ := HRM.out 0 hpos
          have HM0 := Lib.hid m0
          obtain ⟨R0, hR0⟩ : ∃ R0, R0 = roomE es fl P[0] := ⟨_, rfl⟩
          obtain ⟨P0, hP0⟩ : ∃ P0, P0 = P[0] := ⟨_, rfl⟩
          have n0 := cell_of (hs.cells 2 rfl) 0
          have n1 := cell_of (hs.cells 2 rfl) 1
          simp only [List.getElem?_toArray, List.getElem?_cons_zero, List.getElem?_cons_succ] at n0 n1
          obtain ⟨g', cg', eg, _, hcR, xf⟩ := (hs.ints 0 rfl).get 0 (by rw [HPL.out]; exact hpos)
          injection eg with eg q1 q2
          subst eg
          subst q2
          have x1 := hcR 0 (by rw [HPL.out]; exact hpos)
          clear q1 hcR
          rw [HAT.out 0 hpos, ← hP0] at x1
          rw [← hP0, hP0, ← hR0, ← hP0] at HM0
          have HR0 := Lib.hid hR0
          rw [← hR0] at m1 m2
          clear xf hR0 hP0 m0
          go_wp2_with fail
          refine Mix.region [0, 0, 0, 0, 0, 2, 0] (fun _ => True) (by kernel_rfl) (by kernel_rfl) trivial ?_
          simp only [List.zip_cons_cons, List.zip_nil_right]
          iterate 5 (refine Mix.step0 fun K hK => ?_; go_simp; (try (go_bits; try go_simp)); first | ((with_reducible refine hK _ _ ?_); clear hK K) | ((try (simp only [IntWalk.iteOmega]; try go_simp)); (try go_bits); (with_reducible refine hK _ _ ?_); clear hK K))
          refine Mix.step2n (by first | rfl | simp [Region.wanted, yielded]) fun K hK => ?_
          go_wp2_with fail
          refine (rroom_any N a c es _ fl P0 _ (hs.drew.rdG h) (hs.drew.rdInts 1 rfl) (by omega)).mono ?_
          rintro en w5 ⟨rfl, hb⟩
          rw [HM0.out]
          replace hs := hs.drew.belowStep hb
          clear hb n0 n1 x1
          go_wp2_with fail
          refine Mix.post_mk (C := (fun _ => True)) trivial (hK _ _ ?_)
          clear hK K
          iterate 1 (refine Mix.step0 fun K hK => ?_; go_simp; (try (go_bits; try go_simp)); first | ((with_reducible refine hK _ _ ?_); clear hK K) | ((try (simp only [IntWalk.iteOmega]; try go_simp)); (try go_bits); (with_reducible refine hK _ _ ?_); clear hK K))
          refine Mix.done ?_
          go_wp2_with fail
          refine wp_loopM [none, none, none, none, none, none, none, none, none, none, none, some 11, some 12, none, none, none, none, none, none, none, none, none, none, none, none, none, none, none, none, none, none, none, none, none, none, none, none, none, none, none, none, none, none, none, none, none, none, none, none, none, none, none, none, none, none, some 55, some 56, some 57, some 58, some 59, some 60, some 61, some 62, some 63, some 64, some 65, some 66, some 67, some 68, some 69, none, none, none, none, none, none, none, none, none, none, none, none, none, none, none, none, none, none, none, none, none, none, none, none, none, none, none, none, none, none, none, none, none, none] (fun (r : Nat) (f : Nat → Value) (wr : World) => (fun (v vb : Value) => ∃ (i : Nat) (B : Int), v = .int .i64 i ∧ vb = .int .i64 B ∧ i ≤ P.length ∧ r = P.length - i ∧ 0 < B ∧ B ≤ 4503599627370496 ∧ Hid (∀ j (hj : j < P.length), j < i → B ≤ roomE es fl P[j]) ∧ Sep w wr [intsT .i64 3 (.slice (some ⟨g', 0, none⟩) P.length cl) (intsOf P), intsT .i64 2 (.slice (some ⟨gf, 0, none⟩) es.length es.length) fl, cellsT B1 #[.int .i64 N, .slice a es.length c] 24]) (f 12) (f 11)) (P.length) (by kernel_rfl) ?atStart4 ?round4
          case' atStart4 => (try dsimp only [nthV])
          case' round4 =>
            intro gk f wr l hl hrel J3 K3 hJ3 hK3
            (try simp only [mask] at hl)
            generalize f 12 = u12 at hl hrel
            generalize f 11 = u11 at hl hrel
            subst hl
            (try dsimp only at hrel)
          case atStart4 => exact ⟨0, R0, rfl, rfl, Nat.zero_le _, rfl, m1, m2, Lib.hid (fun j hj q => by omega), hs⟩
          case round4 =>
            clear hs HM0 HR0 m1 m2
            obtain ⟨i, B, rfl, rfl, hi, rfl, bb0, bb1, HMIN, hs⟩ := hrel
            have n0 := cell_of (hs.cells 2 rfl) 0
            have n1 := cell_of (hs.cells 2 rfl) 1
            simp only [List.getElem?_toArray, List.getElem?_cons_zero, List.getElem?_cons_succ] at n0 n1
            by_cases hlt3 : i < P.length
            · have hiI : (i : Int) < P.length := by omega
              obtain ⟨m0, m1, m2, _⟩ := HRM.out i hlt3
              obtain ⟨R0, hR0⟩ : ∃ R0, R0 = roomE es fl P[i] := ⟨_, rfl⟩
              obtain ⟨P0, hP0⟩ : ∃ P0, P0 = P[i] := ⟨_, rfl⟩
              rw [← hR0, ← hP0] at m0
              rw [← hR0] at m1 m2
              have HM0 := Lib.hid m0
              have HR0 := Lib.hid hR0
              obtain ⟨g', cg', eg, _, hcR, xf⟩ := (hs.ints 0 rfl).get i (by rw [HPL.out]; exact hlt3)
              injection eg with eg q1 q2
              injection eg with eg
              injection eg with eg
              subst eg
              have x1 := hcR i (by rw [HPL.out]; exact hlt3)
              clear q1 q2 hcR
              rw [HAT.out i hlt3, ← hP0] at x1
              clear xf hR0 hP0 m0
              by_cases hmn : B ≤ R0
              · go_wp2_with fail
                refine Mix.region [1, 0, 0, 0, 0, 0, 0, 2, 0, 0] (fun _ => True) (by kernel_rfl) (by kernel_rfl) trivial ?_
                simp only [List.zip_cons_cons, List.zip_nil_right]
                iterate 1 (refine Mix.step1 fun K hK => ?_; go_simp; (try (go_bits; try go_simp)); first | ((with_reducible refine hK _ _ ?_); clear hK K) | ((try (simp only [IntWalk.iteOmega]; try go_simp)); (try go_bits); (with_reducible refine hK _ _ ?_); clear hK K))
                iterate 6 (refine Mix.step0 fun K hK => ?_; go_simp; (try (go_bits; try go_simp)); first | ((with_reducible refine hK _ _ ?_); clear hK K) | ((try (simp only [IntWalk.iteOmega]; try go_simp)); (try go_bits); (with_reducible refine hK _ _ ?_); clear hK K))
                refine Mix.step2n (by first | rfl | simp [Region.wanted, yielded]) fun K hK => ?_
                go_wp2_with fail
                refine (rroom_any N a c es _ fl P0 _ (hs.drew.rdG h) (hs.drew.rdInts 1 rfl) (by omega)).mono ?_
                rintro en w5 ⟨rfl, hb⟩
                rw [HM0.out]
                replace hs := hs.drew.belowStep hb
                clear hb n0 n1 x1
                go_wp2_with fail
                refine Mix.post_mk (C := (fun _ => True)) trivial (hK _ _ ?_)
                clear hK K
                iterate 2 (refine Mix.step0 fun K hK => ?_; go_simp; (try (go_bits; try go_simp)); first | ((with_reducible refine hK _ _ ?_); clear hK K) | ((try (simp only [IntWalk.iteOmega]; try go_simp)); (try go_bits); (with_reducible refine hK _ _ ?_); clear hK K))
                refine Mix.done ?_
                go_wp2_with fail
                refine Round.intro (P.length - (i + 1)) ?measure5 (by kernel_rfl) (hJ3 _ _ _ ?rel5)
                case' rel5 => (try dsimp only [nthV])
                case measure5 => omega
                case rel5 =>
                  refine ⟨i + 1, B, by go_num, by rw [Int.min_eq_left hmn], hlt3, rfl, bb0, bb1, Lib.hid fun j hj q => ?_, hs⟩
                  rcases Nat.lt_or_ge j i with p | p
                  · exact HMIN.out j hj p
                  · obtain rfl : j = i := by omega
                    rw [← HR0.out]; exact hmn
              · go_wp2_with fail
                refine Mix.region [1, 0, 0, 0, 0, 0, 0, 2, 0, 0] (fun _ => True) (by kernel_rfl) (by kernel_rfl) trivial ?_
                simp only [List.zip_cons_cons, List.zip_nil_right]
                iterate 1 (refine Mix.step1 fun K hK => ?_; go_simp; (try (go_bits; try go_simp)); first | ((with_reducible refine hK _ _ ?_); clear hK K) | ((try (simp only [IntWalk.iteOmega]; try go_simp)); (try go_bits); (with_reducible refine hK _ _ ?_); clear hK K))
                iterate 6 (refine Mix.step0 fun K hK => ?_; go_simp; (try (go_bits; try go_simp)); first | ((with_reducible refine hK _ _ ?_); clear hK K) | ((try (simp only [IntWalk.iteOmega]; try go_simp)); (try go_bits); (with_reducible refine hK _ _ ?_); clear hK K))
                refine Mix.step2n (by first | rfl | simp [Region.wanted, yielded]) fun K hK => ?_
                go_wp2_with fail
                refine (rroom_any N a c es _ fl P0 _ (hs.drew.rdG h) (hs.drew.rdInts 1 rfl) (by omega)).mono ?_
                rintro en w5 ⟨rfl, hb⟩
                rw [HM0.out]
                replace hs := hs.drew.belowStep hb
                clear hb n0 n1 x1
                go_wp2_with fail
                refine Mix.post_mk (C := (fun _ => True)) trivial (hK _ _ ?_)
                clear hK K
                iterate 2 (refine Mix.step0 fun K hK => ?_; go_simp; (try (go_bits; try go_simp)); first | ((with_reducible refine hK _ _ ?_); clear hK K) | ((try (simp only [IntWalk.iteOmega]; try go_simp)); (try go_bits); (with_reducible refine hK _ _ ?_); clear hK K))
                refine Mix.done ?_
                go_wp2_with fail
                refine Round.intro (P.length - (i + 1)) ?measure6 (by kernel_rfl) (hJ3 _ _ _ ?rel6)
                case' rel6 => (try dsimp only [nthV])
                case measure6 => omega
                case rel6 =>
                  refine ⟨i + 1, R0, by go_num, by rw [Int.min_eq_right (by omega)], hlt3, rfl, m1, m2, Lib.hid fun j hj q => ?_, hs⟩
                  rcases Nat.lt_or_ge j i with p | p
                  · have := HMIN.out j hj p; omega
                  · obtain rfl : j = i := by omega
                    rw [← HR0.out]; omega
            · obtain rfl : i = P.length := by omega
              have HPW := Lib.hid (fun i => pushA_take_within HW.out HND.out (fun x hx => by
                obtain ⟨j, hj, rfl⟩ := List.getElem_of_mem hx
                exact ⟨(HRM.out j hj).2.2.2, HMIN.out j hj hj⟩) (show 0 ≤ B by omega) i)
              clear hlt3 hi
              go_wp2_with fail
              clear n0 n1
              refine wp_loopM [none, none, none, none, none, none, none, none, none, none, none, none, none, some 13, none, none, none, none, none, none, none, none, none, none, none, none, none, none, none, none, none, none, none, none, none, none, none, none, none, none, none, none, none, none, none, none, none, none, none, none, none, none, none, none, none, none, none, none, none, none, none, none, none, none, none, none, none, none, none, none, some 70, some 71, some 72, some 73, some 74, some 75, some 76, some 77, some 78, some 79, some 80, some 81, some 82, some 83, some 84, some 85, some 86, some 87, some 88, some 89, some 90, some 91, some 92, some 93, some 94, some 95, some 96, some 97, some 98, some 99, some 100, some 101, some 102, some 103] (fun (r : Nat) (f : Nat → Value) (wr : World) => (fun (v : Value) => ∃ i : Nat, v = .int .i64 i ∧ i ≤ P.length ∧ r = P.length - i ∧ Sep w wr [intsT .i64 3 (.slice (some ⟨g', 0, none⟩) P.length cl) (intsOf P), intsT .i64 2 (.slice (some ⟨gf, 0, none⟩) es.length es.length) (pushA fl (P.take i) B), cellsT B1 #[.int .i64 N, .slice a es.length c] 24]) (f 13)) (P.length) (by kernel_rfl) ?atStart7 ?round7
              case' atStart7 => (try dsimp only [nthV])
              case' round7 =>
                intro gk f wr l hl hrel J4 K4 hJ4 hK4
                (try simp only [mask] at hl)
                generalize f 13 = u13 at hl hrel
                subst hl
                (try dsimp only at hrel)
              case atStart7 => exact ⟨0, rfl, Nat.zero_le _, rfl, hs⟩
              case round7 =>
                clear hs
                obtain ⟨i, rfl, hi, rfl, hs⟩ := hrel
                by_cases hlt4 : i < P.length
                · have hiI : (i : Int) < P.length := by omega
                  have HPT := Lib.hid (pushA_take (fl := fl) (m := B) hlt4)
                  have hw4 := HPW.out i
                  have hl4 := (within_cap hw4).1
                  obtain ⟨_, _, _, hP2⟩ := HRM.out i hlt4
                  obtain ⟨P0, hP0⟩ : ∃ P0, P0 = P[i] := ⟨_, rfl⟩
                  obtain ⟨Q, hQ⟩ : ∃ Q, Q = pushA fl (P.take i) B := ⟨_, rfl⟩
                  rw [← hP0] at hP2
                  rw [← hP0, ← hQ] at HPT
                  rw [← hQ] at hw4 hl4 hs
                  have hhf : P0 / 2 < es.length := by omega
                  have hE := within_at hw4 hhf
                  have hC := (edgeB_iff _ _).1 ((right_cap HR.out).2.2.2.2 _ (List.getElem_mem hhf))
                  have hX0 : 0 ≤ Q.getD (P0 / 2) 0 ∧ Q.getD (P0 / 2) 0 ≤ 4503599627370496 := by omega
                  have HL4 := Lib.hid hl4
                  have HPS := Lib.hid (show pushL Q P0 B = Q.set (P0 / 2) (Q.getD (P0 / 2) 0 + sgn P0 B) from rfl)
                  obtain ⟨g', cg', eg, _, hcR, xf⟩ := (hs.ints 0 rfl).get i (by rw [HPL.out]; exact hlt4)
                  injection eg with eg q1 q2
                  injection eg with eg
                  injection eg with eg
                  subst eg
                  have x1 := hcR i (by rw [HPL.out]; exact hlt4)
                  clear q1 q2 hcR
                  rw [HAT.out i hlt4, ← hP0] at x1
                  clear xf
                  obtain ⟨g', cg', eg, _, hcR, xf⟩ := (hs.ints 1 rfl).get (P0 / 2) (by rw [HL4.out]; exact hhf)
                  injection eg with eg q1 q2
                  injection eg with eg
                  injection eg with eg
                  subst eg
                  have x2 := hcR (P0 / 2) (by rw [HL4.out]; exact hhf)
                  clear q1 q2 hcR
                  obtain ⟨X, hX⟩ : ∃ X, X = Q.getD (P0 / 2) 0 := ⟨_, rfl⟩
                  rw [← hX] at x2 hX0 HPS
                  obtain ⟨hx0, hx1⟩ := hX0
                  clear hX hE hC hw4 hl4 hP0 hQ
                  have hhI : (P0 : Int) / 2 < es.length := by omega
                  cases ho : oddB P0
                  · have hev := even_yes ho
                    rw [show sgn P0 B = B by unfold sgn; rw [ho]; rfl] at HPS
                    clear ho
                    go_wp2_with fail
                    have hs2 := hs.setInts (j := P0 / 2) 1 rfl (X + B)
                    (try simp only [List.set_cons_zero, List.set_cons_succ] at hs2)
                    rw [← HPS.out, ← HPT.out] at hs2
                    refine Round.intro (P.length - (i + 1)) ?measure8 (by kernel_rfl) (hJ4 _ _ _ ?rel8)
                    case' rel8 => (try dsimp only [nthV])
                    case measure8 => omega
                    case rel8 => exact ⟨i + 1, by go_num, hlt4, rfl, hs2⟩
                  · have hev := even_no ho
                    rw [show sgn P0 B = -B by unfold sgn; rw [ho]; rfl, ← Int.sub_eq_add_neg] at HPS
                    clear ho
                    go_wp2_with fail
                    have hs2 := hs.setInts (j := P0 / 2) 1 rfl (X - B)
                    (try simp only [List.set_cons_zero, List.set_cons_succ] at hs2)
                    rw [← HPS.out, ← HPT.out] at hs2
                    refine Round.intro (P.length - (i + 1)) ?measure9 (by kernel_rfl) (hJ4 _ _ _ ?rel9)
                    case' rel9 => (try dsimp only [nthV])
                    case measure9 => omega
                    case rel9 => exact ⟨i + 1, by go_num, hlt4, rfl, hs2⟩
                · obtain rfl : i = P.length := by omega
                  rw [List.take_length] at hs
                  have HNF := Lib.hid (turn_flows HF.out (fun x hx => (HAS.out x hx).1) HRT.out (by have := HPW.out P.length; rw [List.take_length] at this; exact this))
                  go_wp2_with fail
                  refine Round.intro (most.toNat - (k + 1)) ?measure10 (by kernel_rfl) (hJ1 _ _ _ ?rel10)
                  case' rel10 => (try dsimp only [nthV])
                  case measure10 => omega
                  case rel10 => exact ⟨k + 1, _, by go_num, rfl, rfl, by omega, rfl, HNF, hs.tail⟩
      · go_wp2_with fail
        (repeat rw [Exit.noGoto_ret])
        go_ret2
        exact ⟨⟨0, false, rfl, fun q => by cases q⟩, hs.below⟩
end Go.Proofs.Ytacbfpgijmpilaa
