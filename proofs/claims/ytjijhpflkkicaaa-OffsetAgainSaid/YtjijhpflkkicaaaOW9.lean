/-
  The reference of offset: Pays, walked.
-/
import Derived.Test.YtjijhpflkkicaaaOW8
set_option linter.unusedVariables false
set_option linter.unusedSimpArgs false
namespace Go.Proofs.Ytjijhpflkkicaaa
open Go Go.RowKit Go.Mem Go.MoneyP Go.NetP Go.BuildP Go.OffP Go.Shelf
theorem gridR_at {w : World} {a : Option Addr} {n c : Nat} {M : List (List Int)} (h : GridR w (.slice a n c) M) : n = M.length ∧ ∀ i (hi : i < M.length), ∃ (s : Sl) (b o : Nat), a = some ⟨b, o, none⟩ ∧ w.cell? ⟨b, o + i, none⟩ = some (.slice s.a s.n s.c) ∧ Rd .i64 w (.slice s.a s.n s.c) M[i] := by
  obtain ⟨G, g1, g2, g3⟩ := h
  have hl : G.length = M.length := by rw [← g1]; simp
  have hn : n = M.length := by obtain ⟨_, _, e⟩ := g2.shape; injection e with _ e2 _; rw [e2, List.length_map, hl]
  subst hn
  refine ⟨rfl, fun i hi => ?_⟩
  have hlt1 : i < G.length := by omega
  obtain ⟨b1, o1, e1, _, hc1⟩ := g2.at i (by rw [List.length_map]; exact hlt1)
  have x1 := hc1 0 (by decide)
  simp only [slR, List.getElem_map, List.getElem?_cons_zero, Nat.mul_one, Nat.add_zero] at x1
  have hR1 := g3 _ (List.getElem_mem hlt1)
  have e3 : G[i].2 = M[i] := by have := congrArg (fun l => l[i]?) g1; simpa [hlt1, hi] using this
  rw [e3] at hR1
  exact ⟨G[i].1, b1, o1, e1, x1, hR1⟩
theorem rowM_at {N : Nat} {O : List Du} {a b : Nat} (h : b < N) : (owesRow N O a).getD b 0 = owesS O a b := by
  rw [List.getD_eq_getElem?_getD]; unfold owesRow; simp [h]
set_option maxRecDepth 100000 in
set_option maxHeartbeats 4000000 in
theorem rpays_any (n : Int) (l : List Du) (vl : Value) (w : World) (h : RdG duR w vl l) :
    Calls Try.prog 11 #[.int .i64 n, vl] w fun en w' => PaysD n l w en w' := by
  obtain ⟨i0, hi0, hz0, hz1, hz2⟩ := info_parts Try.infoI64o
  have HTB := Lib.hid (rtable_any n l vl w h)
  go_enter Try.func11, Try.ntmps11
  go_wp2_with fail
  refine HTB.out.mono ?_
  clear HTB
  rintro en w1 (⟨hne, rfl, hb⟩ | ⟨he, v, rfl, G, hG, hsg⟩)
  · have hs := (Sep.start w).belowStep hb
    clear hb
    have HNE := Lib.hid hne
    have d0 : (netsE n l != 0) = true := by simpa using hne
    obtain ⟨EE, hEE⟩ : ∃ EE, EE = netsE n l := ⟨_, rfl⟩
    rw [← hEE] at d0 ⊢
    have HEE := Lib.hid hEE
    clear hne hEE
    go_wp2_with fail
    (repeat rw [Exit.noGoto_ret])
    go_ret2
    exact .inl ⟨HNE.out, by rw [HEE.out]; rfl, hs.below⟩
  · have HE := Lib.hid he
    obtain ⟨N, rfl, hgood⟩ := netsE_good he
    have hN16 := hgood.n16
    have hl64 := hgood.len
    have HMI := Lib.hid (show ∀ d ∈ openL l, MayD d ∧ d.f < N ∧ d.t < N from fun d hd => ⟨hgood.may d (open_mem hd), hgood.inn d (open_mem hd)⟩)
    have HSO := Lib.hid (show sumX (openL l) ≤ 4503599627370496 by
      have h1 := sum_open l fun d hd => (hgood.may d hd).x0
      have h2 := hgood.sum
      omega)
    have hol : (openL l).length ≤ 64 := by have := open_le l; omega
    clear he hgood
    obtain ⟨O, hO⟩ : ∃ O, O = openL l := ⟨_, rfl⟩
    have hgr : GridR w1 v (tableM N O) := by rw [hO]; rw [Int.toNat_natCast] at hG; rw [← hG]; exact Sep.gridR (L := []) (by simpa using hsg)
    have HB1 := Lib.hid hsg.below
    have hrl := h.below hsg.below
    rw [← hO] at HMI HSO hol
    have HO := Lib.hid hO
    have HOB := Lib.hid (fun a b => owes_bound O (fun d hd => (HMI.out d hd).1.x0) a b)
    obtain ⟨av, cv, hv⟩ : ∃ av cv, v = .slice av (tableM N O).length cv := by
      obtain ⟨G', g1, g2, _⟩ := hgr
      obtain ⟨a, c, e⟩ := g2.shape
      exact ⟨a, c, by rw [e, ← g1]; simp⟩
    subst hv
    have HT := Lib.hid (show ∀ W, Below w1.heap.size w1 W → ∀ i, i < N → ∃ (s : Sl) (b o : Nat), av = some ⟨b, o, none⟩ ∧ W.cell? ⟨b, o + i, none⟩ = some (.slice s.a s.n s.c) ∧ Rd .i64 W (.slice s.a s.n s.c) (owesRow N O i) from fun W hW i hi => by
      obtain ⟨_, h2⟩ := gridR_at (hgr.below hW)
      obtain ⟨s, b, o, e1, e2, e3⟩ := h2 i (by simp [tableM]; exact hi)
      exact ⟨s, b, o, e1, e2, by simpa [tableM] using e3⟩)
    have htl : (tableM N O).length = N := by simp [tableM]
    rw [htl]
    clear hO hG hsg hgr htl
    have hs := Sep.start w1
    go_wp2_with fail
    refine (ropen_any l vl _ hrl (by omega)).mono ?_
    rintro en w4 ⟨u, rfl, k2⟩
    replace hs := hs.join k2
    rw [← HO.out] at hs
    clear k2
    obtain ⟨au, cu, rfl⟩ := (hs.rdRecs 0 rfl).shape
    go_wp2_with (at_make; refine wpList_makeInts rfl (.tmp 26) (.tmp 26) 23 rfl 2 i0 .i64 8 Try.underlying23 hi0 hz0 hz1 hz2 O.length .i64 .i64 rfl rfl hs ?m1 ?m2 ?m3)
    case m1 => unfold maxLen; omega
    case m2 => omega
    case m3 =>
      intro w5 g hs3
      clear hs
      (try simp only [List.cons_append, List.nil_append] at hs3)
      go_wp2_with fail
      refine wp_loopM [none, none, none, none, none, none, none, none, none, none, some 10, some 11, some 12, some 13, none, none, none, none, none, none, none, none, none, none, none, none, none, none, some 28, some 29, some 30, some 31, some 32, some 33, some 34, some 35, some 36, some 37, some 38, some 39, some 40, some 41, some 42, some 43, some 44, some 45, some 46, some 47, some 48, some 49, some 50, some 51, some 52, some 53, some 54, some 55, some 56, some 57, some 58, some 59, some 60, some 61, some 62, some 63, some 64, some 65, some 66, some 67, some 68, some 69, some 70, some 71, some 72, some 73, some 74, some 75, some 76, some 77, some 78, some 79, some 80, some 81, some 82, some 83, some 84, some 85, some 86, some 87, some 88, some 89, some 90, none] (fun (r : Nat) (f : Nat → Value) (wr : World) => (fun (v : Value) => ∃ (a : Nat), v = .int .i64 a ∧ a ≤ N ∧ r = N - a ∧ Sep w1 wr [intsT .i64 2 (.slice (some ⟨g, 0, none⟩) O.length O.length) (refY N O a 0 0), recT duR 44 (.slice au O.length cu) O]) (f 10)) (N) (by kernel_rfl) ?atStart1 ?round1
      case' atStart1 => (try dsimp only [nthV])
      case' round1 =>
        intro gk f wr l hl hrel J1 K1 hJ1 hK1
        (try simp only [mask] at hl)
        generalize f 10 = u10 at hl hrel
        subst hl
        (try dsimp only at hrel)
      case atStart1 => exact ⟨0, rfl, Nat.zero_le _, rfl, by rw [refY_start HMI.out]; exact hs3⟩
      case round1 =>
        clear hs3
        obtain ⟨a, rfl, ha, rfl, hs⟩ := hrel
        by_cases hlt : a < N
        · have haI : (a : Int) < N := by omega
          go_wp2_with fail
          refine wp_loopM [none, none, none, none, none, none, none, none, none, none, none, some 11, some 12, some 13, none, none, none, none, none, none, none, none, none, none, none, none, none, none, none, none, none, none, none, some 33, some 34, some 35, some 36, some 37, some 38, some 39, some 40, some 41, some 42, some 43, some 44, some 45, some 46, some 47, some 48, some 49, some 50, some 51, some 52, some 53, some 54, some 55, some 56, some 57, some 58, some 59, some 60, some 61, some 62, some 63, some 64, some 65, some 66, some 67, some 68, some 69, some 70, some 71, some 72, some 73, some 74, some 75, some 76, some 77, some 78, some 79, some 80, some 81, some 82, some 83, some 84, some 85, some 86, some 87, some 88, some 89, some 90, none] (fun (r : Nat) (f : Nat → Value) (wq : World) => (fun (v : Value) => ∃ (b : Nat), v = .int .i64 b ∧ b ≤ N ∧ r = N - b ∧ Sep w1 wq [intsT .i64 2 (.slice (some ⟨g, 0, none⟩) O.length O.length) (refY N O a b 0), recT duR 44 (.slice au O.length cu) O]) (f 11)) (N) (by kernel_rfl) ?atStart2 ?round2
          case' atStart2 => (try dsimp only [nthV])
          case' round2 =>
            intro gk f wr l hl hrel J2 K2 hJ2 hK2
            (try simp only [mask] at hl)
            generalize f 11 = u11 at hl hrel
            subst hl
            (try dsimp only at hrel)
          case atStart2 => exact ⟨0, rfl, Nat.zero_le _, rfl, hs⟩
          case round2 =>
            clear hs
            obtain ⟨b, rfl, hb, rfl, hs⟩ := hrel
            by_cases hbt : b < N
            · have hbI : (b : Int) < N := by omega
              obtain ⟨s0, b0, o0, e0, x0, r0⟩ := HT.out _ hs.below a hlt
              obtain ⟨s1, b1, o1, e1, x1, r1⟩ := HT.out _ hs.below b hbt
              subst e0
              injection e1 with e1
              injection e1 with q1 q2
              subst q1
              subst q2
              obtain ⟨bb0, oo0, eq0, _, y0⟩ := r0.at b (by rw [owesRow_len]; exact hbt)
              obtain ⟨bb1, oo1, eq1, _, y1⟩ := r1.at a (by rw [owesRow_len]; exact hlt)
              have n0 : s0.n = N := by obtain ⟨_, _, e⟩ := r0.shape; injection e with _ e2 _; rw [e2, owesRow_len]
              have n1 : s1.n = N := by obtain ⟨_, _, e⟩ := r1.shape; injection e with _ e2 _; rw [e2, owesRow_len]
              rw [eq0, n0] at x0
              rw [eq1, n1] at x1
              rw [rowM_at hbt] at y0
              rw [rowM_at hlt] at y1
              obtain ⟨c0, hc0⟩ : ∃ c, c = s0.c := ⟨_, rfl⟩
              obtain ⟨c1, hc1⟩ : ∃ c, c = s1.c := ⟨_, rfl⟩
              rw [← hc0] at x0
              rw [← hc1] at x1
              obtain ⟨v0, v1⟩ := HOB.out a b
              obtain ⟨v2, v3⟩ := HOB.out b a
              have HBT := Lib.hid (show both O a b = (if owesS O b a < owesS O a b then owesS O b a else owesS O a b) by unfold both; split <;> omega)
              obtain ⟨X, hX⟩ : ∃ X, X = owesS O a b := ⟨_, rfl⟩
              obtain ⟨Y, hY⟩ : ∃ Y, Y = owesS O b a := ⟨_, rfl⟩
              rw [← hX] at y0 v0 v1 HBT
              rw [← hY] at y1 v2 v3 HBT
              clear hX hY r0 r1 eq0 eq1 n0 n1 hc0 hc1
              by_cases hq : Y < X
              · rw [if_pos hq] at HBT
                go_wp2_with fail
                refine Mix.region [0, 0, 0, 0, 0, 0, 0, 0, 0, 0, 0, 0, 0, 0, 0, 0] (fun _ => True) (by kernel_rfl) (by kernel_rfl) trivial ?_
                simp only [List.zip_cons_cons, List.zip_nil_right]
                iterate 16 (refine Mix.step0 fun K hK => ?_; go_simp; (try (go_bits; try go_simp)); first | ((with_reducible refine hK _ _ ?_); clear hK K) | ((try (simp only [IntWalk.iteOmega]; try go_simp)); (try go_bits); (with_reducible refine hK _ _ ?_); clear hK K))
                refine Mix.done ?_
                replace hs := hs.drew
                clear x0 x1 y0 y1
                go_wp2_with fail
                refine wp_loopM [none, none, none, none, none, none, none, none, none, none, none, none, some 12, some 13, none, none, none, none, none, none, none, none, none, none, none, none, none, none, none, none, none, none, none, none, none, none, none, none, none, none, none, none, none, none, none, none, none, none, none, none, none, none, none, some 53, some 54, some 55, some 56, some 57, some 58, some 59, some 60, some 61, some 62, some 63, some 64, some 65, some 66, some 67, some 68, some 69, some 70, some 71, some 72, some 73, some 74, some 75, some 76, some 77, some 78, some 79, some 80, some 81, some 82, some 83, some 84, some 85, some 86, some 87, some 88, some 89, some 90, none] (fun (r : Nat) (f : Nat → Value) (wp : World) => (fun (v vl : Value) => ∃ (i : Nat), v = .int .i64 i ∧ vl = .int .i64 ((leftZ N O i).getD (a * 16 + b) 0) ∧ i ≤ O.length ∧ r = O.length - i ∧ Sep w1 wp [intsT .i64 2 (.slice (some ⟨g, 0, none⟩) O.length O.length) (refY N O a b i), recT duR 44 (.slice au O.length cu) O]) (f 13) (f 12)) (O.length) (by kernel_rfl) ?atStart3 ?round3
                case' atStart3 => (try dsimp only [nthV])
                case' round3 =>
                  intro gk f wr l hl hrel J3 K3 hJ3 hK3
                  (try simp only [mask] at hl)
                  generalize f 13 = u13 at hl hrel
                  generalize f 12 = u12 at hl hrel
                  subst hl
                  (try dsimp only at hrel)
                case atStart3 => exact ⟨0, rfl, by rw [left_first hlt hbt hN16, HBT.out], Nat.zero_le _, rfl, hs⟩
                case round3 =>
                  clear hs
                  obtain ⟨i, rfl, rfl, hi, rfl, hs⟩ := hrel
                  by_cases hit : i < O.length
                  · have hiI : (i : Int) < O.length := by omega
                    obtain ⟨b1', o1', e1', _, hc1⟩ := (hs.rdRecs 1 rfl).at i hit
                    subst e1'
                    obtain ⟨hm, hfn, htn⟩ := HMI.out _ (List.getElem_mem hit)
                    have HLP := Lib.hid (fun h1 h2 => left_put (a := a) (b := b) HMI.out hN16 hit h1 h2)
                    have HLS := Lib.hid (fun hp => left_skip (a := a) (b := b) HMI.out hbt hN16 hit hp)
                    have HYP := Lib.hid (fun h1 h2 => refY_put (n := N) (a := a) (b := b) hit h1 h2)
                    have HYS := Lib.hid (fun hp => refY_skip (n := N) (a := a) (b := b) hit hp)
                    have HRL := Lib.hid (refY_len N O a b i)
                    have hlb := leftZ_bound (n := N) (fun d hd => (HMI.out d hd).1.x0) i hi (a * 16 + b)
                    have hso := HSO.out
                    obtain ⟨x, hx⟩ : ∃ x, x = O[i] := ⟨_, rfl⟩
                    rw [← hx] at hc1 hm hfn htn HLP HLS HYP HYS
                    clear hx
                    obtain ⟨id, f, t, x, we, u, hh⟩ := x
                    have x0 := hc1 0 (by decide)
                    have x1 := hc1 1 (by decide)
                    have x2 := hc1 2 (by decide)
                    have x3 := hc1 3 (by decide)
                    have x4 := hc1 4 (by decide)
                    have x5 := hc1 5 (by decide)
                    have x6 := hc1 6 (by decide)
                    simp only [duR, Nat.add_zero, List.getElem?_cons_zero, List.getElem?_cons_succ] at x0 x1 x2 x3 x4 x5 x6
                    clear hc1
                    obtain ⟨hf0, hf1, ht0, ht1, hne, hx0, hx1, _, _, _⟩ := hm
                    dsimp only at hf0 hf1 ht0 ht1 hne hx0 hx1 HLP HLS HYP HYS
                    obtain ⟨LV, hLV⟩ : ∃ LV, LV = (leftZ N O i).getD (a * 16 + b) 0 := ⟨_, rfl⟩
                    rw [← hLV] at hlb HLP HLS
                    rw [← hLV]
                    obtain ⟨l0, l1⟩ := hlb
                    have l2 : LV ≤ 4503599627370496 := by omega
                    clear hLV hso
                    by_cases hpf : f = (a : Int)
                    · by_cases hpt : t = (b : Int)
                      · obtain ⟨e1, e2⟩ := HLP.out hpf hpt
                        have HYQ := Lib.hid (HYP.out hpf hpt)
                        obtain ⟨PP, hPP⟩ : ∃ PP, PP = (paysL N O).getD i 0 := ⟨_, rfl⟩
                        rw [← hPP] at e1 e2 HYQ
                        have HE2 := Lib.hid e2
                        have HIF := Lib.hid (show (if LV < x then LV else x) = PP by rw [e1]; split <;> omega)
                        have hp0 : 0 ≤ PP ∧ PP ≤ LV := by omega
                        obtain ⟨p0, p1⟩ := hp0
                        clear hPP e1 e2 HLP HLS HYP HYS
                        subst hpf
                        subst hpt
                        obtain ⟨g', cg', eg, _, hcR, rf⟩ := (hs.ints 0 rfl).get i (by rw [HRL.out]; exact hit)
                        injection eg with eg q1 q2
                        injection eg with eg
                        injection eg with eg
                        subst eg
                        have r0 := hcR i (by rw [HRL.out]; exact hit)
                        clear q1 q2 hcR
                        by_cases hmn : LV < x
                        · rw [if_pos hmn] at HIF
                          rw [← HIF.out] at HYQ
                          go_upto_region 18 with fail
                          have hs2 := hs.setInts (j := i) 0 rfl (LV)
                          (try simp only [List.set_cons_zero, List.set_cons_succ] at hs2)
                          rw [HYQ.out] at hs2
                          clear hs r0 rf x0 x1 x2 x3 x4 x5 x6
                          generalize World.setCell _ _ _ = W7 at hs2 ⊢
                          have hs := hs2
                          clear hs2
                          obtain ⟨g', cg', eg, _, hcR, _⟩ := (hs.ints 0 rfl).get i (by rw [refY_len]; exact hit)
                          injection eg with eg q1 q2
                          injection eg with eg
                          injection eg with eg
                          subst eg
                          have r0 := hcR i (by rw [refY_len]; exact hit)
                          clear q1 q2 hcR
                          rw [← HYQ.out, getD_set _ _ _ _ (by rw [HRL.out]; exact hit), if_pos rfl] at r0
                          go_wp2_with fail
                          refine Round.intro (O.length - (i + 1)) ?measure4 (by kernel_rfl) (hJ3 _ _ _ ?rel4)
                          case' rel4 => (try dsimp only [nthV])
                          case measure4 => omega
                          case rel4 => exact ⟨i + 1, by go_num, by (rw [HE2.out, ← HIF.out]) <;> (first | rfl | (congr 1; omega)), hit, rfl, hs⟩
                        · rw [if_neg hmn] at HIF
                          rw [← HIF.out] at HYQ
                          go_upto_region 18 with fail
                          have hs2 := hs.setInts (j := i) 0 rfl (x)
                          (try simp only [List.set_cons_zero, List.set_cons_succ] at hs2)
                          rw [HYQ.out] at hs2
                          clear hs r0 rf x0 x1 x2 x3 x4 x5 x6
                          generalize World.setCell _ _ _ = W7 at hs2 ⊢
                          have hs := hs2
                          clear hs2
                          obtain ⟨g', cg', eg, _, hcR, _⟩ := (hs.ints 0 rfl).get i (by rw [refY_len]; exact hit)
                          injection eg with eg q1 q2
                          injection eg with eg
                          injection eg with eg
                          subst eg
                          have r0 := hcR i (by rw [refY_len]; exact hit)
                          clear q1 q2 hcR
                          rw [← HYQ.out, getD_set _ _ _ _ (by rw [HRL.out]; exact hit), if_pos rfl] at r0
                          go_wp2_with fail
                          refine Round.intro (O.length - (i + 1)) ?measure5 (by kernel_rfl) (hJ3 _ _ _ ?rel5)
                          case' rel5 => (try dsimp only [nthV])
                          case measure5 => omega
                          case rel5 => exact ⟨i + 1, by go_num, by (rw [HE2.out, ← HIF.out]) <;> (first | rfl | (congr 1; omega)), hit, rfl, hs⟩
                      · have d1 : (t == (b : Int)) = false := beq_eq_false_iff_ne.2 hpt
                        have HE2 := Lib.hid (HLS.out (fun e => hpt e.2))
                        have HYQ := Lib.hid (HYS.out (fun e => hpt e.2))
                        clear HLP HLS HYP HYS
                        subst hpf
                        go_wp2_with fail
                        refine Round.intro (O.length - (i + 1)) ?measure6 (by kernel_rfl) (hJ3 _ _ _ ?rel6)
                        case' rel6 => (try dsimp only [nthV])
                        case measure6 => omega
                        case rel6 => exact ⟨i + 1, by go_num, by rw [HE2.out], hit, rfl, by rw [← HYQ.out]; exact hs⟩
                    · have d1 : (f == (a : Int)) = false := beq_eq_false_iff_ne.2 hpf
                      have HE2 := Lib.hid (HLS.out (fun e => hpf e.1))
                      have HYQ := Lib.hid (HYS.out (fun e => hpf e.1))
                      clear HLP HLS HYP HYS
                      go_wp2_with fail
                      refine Round.intro (O.length - (i + 1)) ?measure7 (by kernel_rfl) (hJ3 _ _ _ ?rel7)
                      case' rel7 => (try dsimp only [nthV])
                      case measure7 => omega
                      case rel7 => exact ⟨i + 1, by go_num, by rw [HE2.out], hit, rfl, by rw [← HYQ.out]; exact hs⟩
                  · obtain rfl : i = O.length := by omega
                    rw [refY_nextB HMI.out] at hs
                    go_wp2_with fail
                    refine Round.intro (N - (b + 1)) ?measure8 (by kernel_rfl) (hJ2 _ _ _ ?rel8)
                    case' rel8 => (try dsimp only [nthV])
                    case measure8 => omega
                    case rel8 => exact ⟨b + 1, by go_num, hbt, rfl, hs⟩
              · rw [if_neg hq] at HBT
                go_wp2_with fail
                refine Mix.region [0, 0, 0, 0, 0, 0, 0, 0, 0, 0, 0, 0, 0, 0, 0, 0] (fun _ => True) (by kernel_rfl) (by kernel_rfl) trivial ?_
                simp only [List.zip_cons_cons, List.zip_nil_right]
                iterate 16 (refine Mix.step0 fun K hK => ?_; go_simp; (try (go_bits; try go_simp)); first | ((with_reducible refine hK _ _ ?_); clear hK K) | ((try (simp only [IntWalk.iteOmega]; try go_simp)); (try go_bits); (with_reducible refine hK _ _ ?_); clear hK K))
                refine Mix.done ?_
                replace hs := hs.drew
                clear x0 x1 y0 y1
                go_wp2_with fail
                refine wp_loopM [none, none, none, none, none, none, none, none, none, none, none, none, some 12, some 13, none, none, none, none, none, none, none, none, none, none, none, none, none, none, none, none, none, none, none, none, none, none, none, none, none, none, none, none, none, none, none, none, none, none, none, none, none, none, none, some 53, some 54, some 55, some 56, some 57, some 58, some 59, some 60, some 61, some 62, some 63, some 64, some 65, some 66, some 67, some 68, some 69, some 70, some 71, some 72, some 73, some 74, some 75, some 76, some 77, some 78, some 79, some 80, some 81, some 82, some 83, some 84, some 85, some 86, some 87, some 88, some 89, some 90, none] (fun (r : Nat) (f : Nat → Value) (wp : World) => (fun (v vl : Value) => ∃ (i : Nat), v = .int .i64 i ∧ vl = .int .i64 ((leftZ N O i).getD (a * 16 + b) 0) ∧ i ≤ O.length ∧ r = O.length - i ∧ Sep w1 wp [intsT .i64 2 (.slice (some ⟨g, 0, none⟩) O.length O.length) (refY N O a b i), recT duR 44 (.slice au O.length cu) O]) (f 13) (f 12)) (O.length) (by kernel_rfl) ?atStart9 ?round9
                case' atStart9 => (try dsimp only [nthV])
                case' round9 =>
                  intro gk f wr l hl hrel J3 K3 hJ3 hK3
                  (try simp only [mask] at hl)
                  generalize f 13 = u13 at hl hrel
                  generalize f 12 = u12 at hl hrel
                  subst hl
                  (try dsimp only at hrel)
                case atStart9 => exact ⟨0, rfl, by rw [left_first hlt hbt hN16, HBT.out], Nat.zero_le _, rfl, hs⟩
                case round9 =>
                  clear hs
                  obtain ⟨i, rfl, rfl, hi, rfl, hs⟩ := hrel
                  by_cases hit : i < O.length
                  · have hiI : (i : Int) < O.length := by omega
                    obtain ⟨b1', o1', e1', _, hc1⟩ := (hs.rdRecs 1 rfl).at i hit
                    subst e1'
                    obtain ⟨hm, hfn, htn⟩ := HMI.out _ (List.getElem_mem hit)
                    have HLP := Lib.hid (fun h1 h2 => left_put (a := a) (b := b) HMI.out hN16 hit h1 h2)
                    have HLS := Lib.hid (fun hp => left_skip (a := a) (b := b) HMI.out hbt hN16 hit hp)
                    have HYP := Lib.hid (fun h1 h2 => refY_put (n := N) (a := a) (b := b) hit h1 h2)
                    have HYS := Lib.hid (fun hp => refY_skip (n := N) (a := a) (b := b) hit hp)
                    have HRL := Lib.hid (refY_len N O a b i)
                    have hlb := leftZ_bound (n := N) (fun d hd => (HMI.out d hd).1.x0) i hi (a * 16 + b)
                    have hso := HSO.out
                    obtain ⟨x, hx⟩ : ∃ x, x = O[i] := ⟨_, rfl⟩
                    rw [← hx] at hc1 hm hfn htn HLP HLS HYP HYS
                    clear hx
                    obtain ⟨id, f, t, x, we, u, hh⟩ := x
                    have x0 := hc1 0 (by decide)
                    have x1 := hc1 1 (by decide)
                    have x2 := hc1 2 (by decide)
                    have x3 := hc1 3 (by decide)
                    have x4 := hc1 4 (by decide)
                    have x5 := hc1 5 (by decide)
                    have x6 := hc1 6 (by decide)
                    simp only [duR, Nat.add_zero, List.getElem?_cons_zero, List.getElem?_cons_succ] at x0 x1 x2 x3 x4 x5 x6
                    clear hc1
                    obtain ⟨hf0, hf1, ht0, ht1, hne, hx0, hx1, _, _, _⟩ := hm
                    dsimp only at hf0 hf1 ht0 ht1 hne hx0 hx1 HLP HLS HYP HYS
                    obtain ⟨LV, hLV⟩ : ∃ LV, LV = (leftZ N O i).getD (a * 16 + b) 0 := ⟨_, rfl⟩
                    rw [← hLV] at hlb HLP HLS
                    rw [← hLV]
                    obtain ⟨l0, l1⟩ := hlb
                    have l2 : LV ≤ 4503599627370496 := by omega
                    clear hLV hso
                    by_cases hpf : f = (a : Int)
                    · by_cases hpt : t = (b : Int)
                      · obtain ⟨e1, e2⟩ := HLP.out hpf hpt
                        have HYQ := Lib.hid (HYP.out hpf hpt)
                        obtain ⟨PP, hPP⟩ : ∃ PP, PP = (paysL N O).getD i 0 := ⟨_, rfl⟩
                        rw [← hPP] at e1 e2 HYQ
                        have HE2 := Lib.hid e2
                        have HIF := Lib.hid (show (if LV < x then LV else x) = PP by rw [e1]; split <;> omega)
                        have hp0 : 0 ≤ PP ∧ PP ≤ LV := by omega
                        obtain ⟨p0, p1⟩ := hp0
                        clear hPP e1 e2 HLP HLS HYP HYS
                        subst hpf
                        subst hpt
                        obtain ⟨g', cg', eg, _, hcR, rf⟩ := (hs.ints 0 rfl).get i (by rw [HRL.out]; exact hit)
                        injection eg with eg q1 q2
                        injection eg with eg
                        injection eg with eg
                        subst eg
                        have r0 := hcR i (by rw [HRL.out]; exact hit)
                        clear q1 q2 hcR
                        by_cases hmn : LV < x
                        · rw [if_pos hmn] at HIF
                          rw [← HIF.out] at HYQ
                          go_upto_region 18 with fail
                          have hs2 := hs.setInts (j := i) 0 rfl (LV)
                          (try simp only [List.set_cons_zero, List.set_cons_succ] at hs2)
                          rw [HYQ.out] at hs2
                          clear hs r0 rf x0 x1 x2 x3 x4 x5 x6
                          generalize World.setCell _ _ _ = W7 at hs2 ⊢
                          have hs := hs2
                          clear hs2
                          obtain ⟨g', cg', eg, _, hcR, _⟩ := (hs.ints 0 rfl).get i (by rw [refY_len]; exact hit)
                          injection eg with eg q1 q2
                          injection eg with eg
                          injection eg with eg
                          subst eg
                          have r0 := hcR i (by rw [refY_len]; exact hit)
                          clear q1 q2 hcR
                          rw [← HYQ.out, getD_set _ _ _ _ (by rw [HRL.out]; exact hit), if_pos rfl] at r0
                          go_wp2_with fail
                          refine Round.intro (O.length - (i + 1)) ?measure10 (by kernel_rfl) (hJ3 _ _ _ ?rel10)
                          case' rel10 => (try dsimp only [nthV])
                          case measure10 => omega
                          case rel10 => exact ⟨i + 1, by go_num, by (rw [HE2.out, ← HIF.out]) <;> (first | rfl | (congr 1; omega)), hit, rfl, hs⟩
                        · rw [if_neg hmn] at HIF
                          rw [← HIF.out] at HYQ
                          go_upto_region 18 with fail
                          have hs2 := hs.setInts (j := i) 0 rfl (x)
                          (try simp only [List.set_cons_zero, List.set_cons_succ] at hs2)
                          rw [HYQ.out] at hs2
                          clear hs r0 rf x0 x1 x2 x3 x4 x5 x6
                          generalize World.setCell _ _ _ = W7 at hs2 ⊢
                          have hs := hs2
                          clear hs2
                          obtain ⟨g', cg', eg, _, hcR, _⟩ := (hs.ints 0 rfl).get i (by rw [refY_len]; exact hit)
                          injection eg with eg q1 q2
                          injection eg with eg
                          injection eg with eg
                          subst eg
                          have r0 := hcR i (by rw [refY_len]; exact hit)
                          clear q1 q2 hcR
                          rw [← HYQ.out, getD_set _ _ _ _ (by rw [HRL.out]; exact hit), if_pos rfl] at r0
                          go_wp2_with fail
                          refine Round.intro (O.length - (i + 1)) ?measure11 (by kernel_rfl) (hJ3 _ _ _ ?rel11)
                          case' rel11 => (try dsimp only [nthV])
                          case measure11 => omega
                          case rel11 => exact ⟨i + 1, by go_num, by (rw [HE2.out, ← HIF.out]) <;> (first | rfl | (congr 1; omega)), hit, rfl, hs⟩
                      · have d1 : (t == (b : Int)) = false := beq_eq_false_iff_ne.2 hpt
                        have HE2 := Lib.hid (HLS.out (fun e => hpt e.2))
                        have HYQ := Lib.hid (HYS.out (fun e => hpt e.2))
                        clear HLP HLS HYP HYS
                        subst hpf
                        go_wp2_with fail
                        refine Round.intro (O.length - (i + 1)) ?measure12 (by kernel_rfl) (hJ3 _ _ _ ?rel12)
                        case' rel12 => (try dsimp only [nthV])
                        case measure12 => omega
                        case rel12 => exact ⟨i + 1, by go_num, by rw [HE2.out], hit, rfl, by rw [← HYQ.out]; exact hs⟩
                    · have d1 : (f == (a : Int)) = false := beq_eq_false_iff_ne.2 hpf
                      have HE2 := Lib.hid (HLS.out (fun e => hpf e.1))
                      have HYQ := Lib.hid (HYS.out (fun e => hpf e.1))
                      clear HLP HLS HYP HYS
                      go_wp2_with fail
                      refine Round.intro (O.length - (i + 1)) ?measure13 (by kernel_rfl) (hJ3 _ _ _ ?rel13)
                      case' rel13 => (try dsimp only [nthV])
                      case measure13 => omega
                      case rel13 => exact ⟨i + 1, by go_num, by rw [HE2.out], hit, rfl, by rw [← HYQ.out]; exact hs⟩
                  · obtain rfl : i = O.length := by omega
                    rw [refY_nextB HMI.out] at hs
                    go_wp2_with fail
                    refine Round.intro (N - (b + 1)) ?measure14 (by kernel_rfl) (hJ2 _ _ _ ?rel14)
                    case' rel14 => (try dsimp only [nthV])
                    case measure14 => omega
                    case rel14 => exact ⟨b + 1, by go_num, hbt, rfl, hs⟩
            · obtain rfl : N = b := by omega
              rw [refY_nextA HMI.out] at hs
              go_wp2_with fail
              refine Round.intro (N - (a + 1)) ?measure15 (by kernel_rfl) (hJ1 _ _ _ ?rel15)
              case' rel15 => (try dsimp only [nthV])
              case measure15 => omega
              case rel15 => exact ⟨a + 1, by go_num, hlt, rfl, hs⟩
        · obtain rfl : N = a := by omega
          rw [refY_end HMI.out] at hs
          go_wp2_with fail
          (repeat rw [Exit.noGoto_ret])
          go_ret2
          exact .inr ⟨HE.out, _, rfl, by rw [Int.toNat_natCast, ← HO.out]; exact (Sep.ofBelow HB1.out).join hs |>.takeN 1⟩
end Go.Proofs.Ytjijhpflkkicaaa
