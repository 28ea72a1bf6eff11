/-
  BuildPlays, walked.
-/
import Derived.Test.YtlbpkfjebaelpaaBW15
import Derived.Test.YtlbpkfjebaelpaaBB
import Derived.Test.YtlbpkfjebaelpaaLA
set_option linter.unusedVariables false
set_option linter.unusedSimpArgs false
namespace Go.BuildP
open Go Go.RowKit Go.Mem Go.MoneyP Go.NetP
/-- What Round answers, in one. -/
def rN (rooms : List Int) (l : List Du) : Int := if rightR rooms l then rooms.length + 1 else 0
def rE (rooms : List Int) (l : List Du) (c : Bool) : List Ed := if rightR rooms l then edgesL rooms l c else []
def rI (rooms : List Int) (l : List Du) : List Int := if rightR rooms l then (openL l).map (·.id) else []
def rErr (rooms : List Int) (l : List Du) : Int := if rightR rooms l then 0 else 1
theorem rE_len (rooms : List Int) (l : List Du) (c : Bool) : (rE rooms l c).length ≤ 96 := by
  unfold rE
  split
  · rename_i h
    obtain ⟨h1, h2, _⟩ := right_parts h
    have := open_le l
    rw [edges_eq, List.length_append, List.length_map]
    cases c <;> simp [hub_len] <;> omega
  · simp
theorem rI_len (rooms : List Int) (l : List Du) : (rI rooms l).length ≤ 64 := by
  unfold rI
  split
  · rename_i h
    obtain ⟨h1, h2, _⟩ := right_parts h
    have := open_le l
    rw [List.length_map]; omega
  · simp
theorem payQ_of {rooms : List Int} {l : List Du} {c : Bool} {ps : List Int} (h : permitB rooms l c ps = true) : PayQ (openL l) ps := by
  simp only [permitB, Bool.and_eq_true, decide_eq_true_eq, permitQ] at h
  have hq := roundQ h.1.1 h.1.2
  exact ⟨h.1.2, fun q hq' => (hq.may q hq').1, h.2.1, hq.sum⟩
end Go.BuildP
namespace Go.Proofs.Ytlbpkfjebaelpaa
open Go Go.RowKit Go.Mem Go.MoneyP Go.NetP Go.BuildP
theorem Try.infoDub : (Try.prog.info? 45).map (fun i => (i.zero, i.size, i.bytes)) = some (some (.agg #[.int .u64 0, .int .i64 0, .int .i64 0, .int .i64 0, .int .i64 0, .int .i64 0, .bool false]), 7, 56) := by kernel_rfl
/-- Round's answer, in one. -/
def RoundU (rooms : List Int) (l : List Du) (c : Bool) (w : World) (en : Ending) (w' : World) : Prop :=
  ∃ ae ce ai ci, en = .returned (.tuple #[.agg #[.int .i64 (rN rooms l), .slice ae (rE rooms l c).length ce], .slice ai (rI rooms l).length ci, .int .i64 (rErr rooms l)]) ∧ Sep w w' [recT edR 52 (.slice ae (rE rooms l c).length ce) (rE rooms l c), intsT .u64 34 (.slice ai (rI rooms l).length ci) (rI rooms l)]
theorem RoundP.uni {rooms : List Int} {l : List Du} {c : Bool} {w w' : World} {en : Ending} (h : RoundP rooms l c w en w') : RoundU rooms l c w en w' := by
  rcases h with ⟨h1, rfl, h2⟩ | ⟨h1, ve, vi, rfl, h2⟩
  · exact ⟨none, 0, none, 0, by simp [rN, rE, rI, rErr, h1], by simp only [rE, rI, h1]; exact ((Sep.ofBelow h2).nilInts .u64 _).nilRecs edR _⟩
  · have e1 : rE rooms l c = edgesL rooms l c := by simp [rE, h1]
    have e2 : rI rooms l = (openL l).map (·.id) := by simp [rI, h1]
    obtain ⟨ae, ce, rfl⟩ := (h2.rdRecs 0 rfl).shape
    obtain ⟨ai, ci, rfl⟩ := (h2.rdInts 1 rfl).shape
    rw [← e1, ← e2] at h2 ⊢
    exact ⟨ae, ce, ai, ci, by simp [rN, rErr, h1], h2⟩
set_option maxRecDepth 100000 in
set_option maxHeartbeats 4000000 in
theorem buildPlays_any (rooms : List Int) (l : List Du) (c : Bool) (ps : List Int) (d : Int) (vr vl vp : Value) (w : World) (hr : Rd .i64 w vr rooms) (h : RdG duR w vl l) (hp : Rd .i64 w vp ps) (hcap : ∀ a n c, vp = .slice a n c → n ≤ c) :
    Calls Try.prog 3 #[vr, vl, .bool c, vp, .int .i64 d] w fun e w' => e = .returned (.bool true) ∧ Below w.heap.size w w' := by
  obtain ⟨i0, hi0, hz0, hz1, hz2⟩ := info_parts Try.infoI64b
  obtain ⟨j0, hj0, hy0, hy1, hy2⟩ := info_parts Try.infoDub
  obtain ⟨ar, cr, rfl⟩ := hr.shape
  obtain ⟨al, cl, rfl⟩ := h.shape
  obtain ⟨ap, cp, rfl⟩ := hp.shape
  have FW := Lib.hid (bfew_any ar al ap rooms.length l.length ps.length cr cl cp w hr.le' h.le' hp.le')
  have hlp := hp.le'
  cases hf : fewB rooms.length l.length ps.length
  · rw [hf] at FW
    clear hf
    go_enter Try.func3, Try.ntmps3
    go_wp2_with fail
    refine (FW.out).mono ?_
    rintro en w1 ⟨rfl, rfl⟩
    go_wp2_with fail
    refine (bworks_any _).mono ?_
    rintro en w2 ⟨rfl, hb⟩
    go_wp2_with fail
    go_ret
    exact ⟨rfl, hb⟩
  rw [hf] at FW
  obtain ⟨f1, f2, f3⟩ := fewB_parts hf
  clear hf
  have hs := (Sep.start w).litInts .i64 2 [] (by simp [maxLen])
  simp only [List.map_cons, List.map_nil, List.length_cons, List.length_nil, Nat.reduceAdd, World.size_alloc] at hs
  go_enter Try.func3, Try.ntmps3
  go_wp2_with fail
  refine (FW.out).mono ?_
  rintro en w1 ⟨rfl, rfl⟩
  clear FW
  go_wp2_with (at_builtin; refine wpList_appRd rfl (.tmp 27) (.tmp 28) 22 rfl 2 i0 _ 8 Try.underlying22 hi0 hz0 hz1 hz2 rfl _ [] .i64 _ rooms hs 0 rfl (hs.rd hr) rfl rfl ?c3 ?c4 ?grow)
  case c3 => (try simp); (try simp only [maxLen]); (try omega)
  case c4 => (try simp); (try simp only [maxLen]); (try omega)
  case grow =>
    intro vo w2 hs2
    (try simp only [List.set_cons_zero, List.nil_append] at hs2)
    clear hs
    have hs3 := hs2.litRecs duR 45 [] (by simp [maxLen])
    simp only [List.length_nil, Rec.flat, List.flatMap_nil] at hs3
    go_wp2_with (at_builtin; refine wpList_appRdG duR rfl (.tmp 30) (.tmp 31) 23 rfl 45 j0 _ 56 Try.underlying23 hj0 hy0 hy1 hy2 rfl _ [] _ l hs3 0 rfl (hs3.rdG h) rfl rfl ?c5 ?c6 ?grow2)
    case c5 => (try simp); (try simp only [maxLen]); (try omega)
    case c6 => (try simp); (try simp only [maxLen]); (try omega)
    case grow2 =>
      intro vd w3 hs4
      (try simp only [List.set_cons_zero, List.nil_append] at hs4)
      clear hs2 hs3
      go_wp2_with fail
      refine (round_any rooms l c _ _ _ (hs4.rdInts 1 rfl) (hs4.rdRecs 0 rfl) (by omega)).mono ?_
      intro en w4 hP
      obtain ⟨ae, ce, ai, ci, rfl, k1⟩ := RoundP.uni hP
      clear hP
      replace hs := hs4.join k1
      clear hs4 k1
      simp only [List.cons_append, List.nil_append] at hs
      have hsn := hs.newCells #[.int .i64 (rN rooms l), .slice ae (rE rooms l c).length ce] 28
      clear hs
      obtain ⟨B1, hB1⟩ : ∃ B1, B1 = w4.heap.size := ⟨_, rfl⟩
      have HR := Lib.hid (rround_any rooms l c _ _ _ (hsn.rd hr) (hsn.rdG h))
      rw [← hB1] at hsn
      go_wp2_with fail
      rw [← hB1]
      clear hB1
      refine HR.out.mono ?_
      intro en w5 hP
      obtain ⟨ae', ce', ai', ci', rfl, k1⟩ := RoundP.uni hP
      clear hP HR
      replace hs := hsn.join k1
      clear hsn k1
      simp only [List.cons_append, List.nil_append] at hs
      have hLE := rE_len rooms l c
      have hLI := rI_len rooms l
      obtain ⟨NN, hNN⟩ : ∃ NN, NN = rN rooms l := ⟨_, rfl⟩
      obtain ⟨EE, hEE⟩ : ∃ EE, EE = rE rooms l c := ⟨_, rfl⟩
      obtain ⟨II, hII⟩ : ∃ II, II = rI rooms l := ⟨_, rfl⟩
      obtain ⟨ER, hER⟩ : ∃ ER, ER = rErr rooms l := ⟨_, rfl⟩
      rw [← hNN, ← hEE, ← hII] at hs
      rw [← hEE] at hLE
      rw [← hII] at hLI
      rw [← hNN, ← hEE, ← hII, ← hER]
      clear hNN hEE hII hER
      have hsn := hs.newCells #[.int .i64 NN, .slice ae' EE.length ce'] 28
      clear hs
      obtain ⟨B2, hB2⟩ : ∃ B2, B2 = w5.heap.size := ⟨_, rfl⟩
      have n0 := cell_of (hsn.cells 3 rfl) 0
      have n1 := cell_of (hsn.cells 3 rfl) 1
      have m0 := cell_of (hsn.cells 0 rfl) 0
      have m1 := cell_of (hsn.cells 0 rfl) 1
      simp only [List.getElem?_toArray, List.getElem?_cons_zero, List.getElem?_cons_succ] at n0 n1 m0 m1
      have HSN := Lib.hid (bsameNet_same NN ae ae' ce ce' EE _ (hsn.rdRecs 4 rfl) (hsn.rdRecs 1 rfl))
      go_wp2_with fail
      rw [← hB2] at hsn m0 m1
      rw [← hB2]
      clear hB2
      refine HSN.out.mono ?_
      rintro en w6 ⟨rfl, hb⟩
      have hs := hsn.belowStep hb
      clear hsn hb HSN n0 n1 m0 m1
      go_wp2_with fail
      have rdA := hs.rdInts 5 rfl
      have rdB := hs.rdInts 2 rfl
      refine wp_loopM [none, none, none, none, none, none, none, none, none, none, some 10, none, none, none, none, none, none, some 17, none, none, none, none, none, none, none, none, none, none, none, none, none, none, none, none, none, none, none, none, none, none, none, none, none, none, none, none, none, none, none, none, none, none, none, none, none, none, none, none, none, none, none, none, some 62, some 63, some 64, some 65, some 66, some 67, some 68, some 69, some 70, some 71, some 72, some 73, some 74, some 75, some 76, none, none, none, none, none, none, none, none, none, none, none, none, none, none, none, none, none, none, none, none, none, none, none, none, none, none, none, none, none, none, none, none, none, none, none, none, none, none, none, none, none, none, none, none, none, none, none, none, none, none, none, none, none, none, none, none] (fun (r : Nat) (f : Nat → Value) (wr : World) => (fun (v : Value) => ∃ k : Nat, v = .int .i64 k ∧ k ≤ II.length ∧ r = II.length - k ∧ Below w6.heap.size w6 wr) (f 17)) (II.length) (by kernel_rfl) ?atStart1 ?round1
      case' atStart1 => (try dsimp only [nthV])
      case' round1 =>
        intro gk f wr l hl hrel J1 K1 hJ1 hK1
        (try simp only [mask] at hl)
        generalize f 17 = u17 at hl hrel
        subst hl
        (try dsimp only at hrel)
      case atStart1 => exact ⟨0, rfl, Nat.zero_le _, rfl, Below.refl _ _⟩
      case round1 =>
        obtain ⟨k, rfl, hk, rfl, hb⟩ := hrel
        by_cases hlt : k < II.length
        · obtain ⟨b1, o1, e1, hb1, x0⟩ := (rdA.below hb).at k hlt
          subst e1
          obtain ⟨b2, o2, e2, hb2, y0⟩ := (rdB.below hb).at k hlt
          subst e2
          obtain ⟨I, hI⟩ : ∃ I, I = II.getD k 0 := ⟨_, rfl⟩
          rw [← hI] at x0 y0
          clear hI
          go_wp2_with fail
          refine Mix.region [0, 0, 0, 0, 0, 0, 0, 0, 0] (fun _ => True) (by kernel_rfl) (by kernel_rfl) trivial ?_
          simp only [List.zip_cons_cons, List.zip_nil_right]
          iterate 9 (refine Mix.step0 fun K hK => ?_; go_simp; (try (go_bits; try go_simp)); first | ((with_reducible refine hK _ _ ?_); clear hK K) | ((try (simp only [IntWalk.iteOmega]; try go_simp)); (try go_bits); (with_reducible refine hK _ _ ?_); clear hK K))
          refine Mix.done ?_
          go_wp2_with fail
          refine Round.intro (II.length - (k + 1)) ?measure2 (by kernel_rfl) (hJ1 _ _ _ ?rel2)
          case' rel2 => (try dsimp only [nthV])
          case measure2 => omega
          case rel2 => exact ⟨k + 1, by go_num, hlt, rfl, ((Fr.drew (S := fun _ => False) wr).toBelow _ (fun _ _ h => h) (Nat.le_refl _)).mono hb.size |> hb.trans⟩
        · obtain rfl : k = II.length := by omega
          replace hs := hs.belowStep hb
          clear rdA rdB hb
          have m0 := cell_of (hs.cells 0 rfl) 0
          have m1 := cell_of (hs.cells 0 rfl) 1
          simp only [List.getElem?_toArray, List.getElem?_cons_zero, List.getElem?_cons_succ] at m0 m1
          go_wp2_with fail
          refine (pays_any NN ae' EE.length ce' _ ps d _ (hs.rd hp) hcap (by omega)).mono ?_
          rintro en w7 ⟨up, rfl, k2⟩
          replace hs := hs.join k2
          clear k2 m0 m1
          simp only [List.cons_append, List.nil_append] at hs
          obtain ⟨P, hP⟩ : ∃ P, P = ps.take (payN d ps.length) := ⟨_, rfl⟩
          have HPL := Lib.hid (show P.length = payN d ps.length by rw [hP, List.length_take]; unfold payN; omega)
          have HPA := Lib.hid (fun (q : Nat) (hq : q < P.length) => (show P.getD q 0 = ps.getD q 0 ∧ q < ps.length by
            rw [hP] at hq ⊢
            rw [List.length_take] at hq
            refine ⟨?_, by omega⟩
            rw [List.getD_eq_getElem?_getD, List.getD_eq_getElem?_getD, List.getElem?_take, if_pos (by omega)]))
          rw [← hP] at hs
          clear hP
          obtain ⟨aq, cq, rfl⟩ := (hs.rdInts 0 rfl).shape
          have hPle : P.length ≤ 300 := by rw [HPL.out]; unfold payN; omega
          go_upto_region 13 with fail
          refine wp_cutM [none, none, none, none, none, none, none, none, none, none, none, none, none, none, none, none, none, none, none, none, none, none, none, none, none, none, none, none, none, none, none, none, none, none, none, none, none, none, none, none, none, none, none, none, none, none, none, none, none, none, none, none, none, none, none, none, none, none, none, none, none, none, none, none, none, none, none, none, none, none, none, none, none, none, none, none, none, none, none, none, none, some 81, some 82, some 83, some 84, some 85, some 86, some 87, some 88, none, none, none, none, none, none, none, none, none, none, none, none, none, none, none, none, none, none, none, none, none, none, none, none, none, none, none, none, none, none, none, none, none, none, none, none, none, none, none, none, none, none, none, none] (fun (f : Nat → Value) (wq : World) => (fun (v : Value) => v = .bool false ∧ wq = w7) (f 88)) ?first3 ?rest3
          case' first3 => intro JC KC hJC hKC
          case' rest3 =>
            intro f wr l hl hrel
            (try simp only [mask] at hl)
            generalize f 88 = u88 at hl hrel
            subst hl
            (try dsimp only at hrel)
          case first3 =>
            have HPM := Lib.hid (show (P.length : Int) = max 0 (min d ps.length) by rw [HPL.out]; unfold payN; omega)
            by_cases h1 : (ps.length : Int) < d
            · by_cases h2 : (0 : Int) < (ps.length : Int)
              · have e1 : ((P.length : Int) != (ps.length : Int)) = false := by have hq := HPM.out; rw [bne_eq_false_iff_eq]; omega
                go_wp2_with fail
                refine Meet.intro (by kernel_rfl) (hJC _ _ ?rel4)
                case' rel4 => (try dsimp only [nthV])
                exact ⟨by (try rfl), rfl⟩
              · have e1 : ((P.length : Int) != 0) = false := by have hq := HPM.out; rw [bne_eq_false_iff_eq]; omega
                go_wp2_with fail
                refine Meet.intro (by kernel_rfl) (hJC _ _ ?rel5)
                case' rel5 => (try dsimp only [nthV])
                exact ⟨by (try rfl), rfl⟩
            · by_cases h2 : (0 : Int) < d
              · have e1 : ((P.length : Int) != d) = false := by have hq := HPM.out; rw [bne_eq_false_iff_eq]; omega
                go_wp2_with fail
                refine Meet.intro (by kernel_rfl) (hJC _ _ ?rel6)
                case' rel6 => (try dsimp only [nthV])
                exact ⟨by (try rfl), rfl⟩
              · have e1 : ((P.length : Int) != 0) = false := by have hq := HPM.out; rw [bne_eq_false_iff_eq]; omega
                go_wp2_with fail
                refine Meet.intro (by kernel_rfl) (hJC _ _ ?rel7)
                case' rel7 => (try dsimp only [nthV])
                exact ⟨by (try rfl), rfl⟩
          case rest3 =>
            obtain ⟨rfl, hw⟩ := hrel
            subst hw
            obtain ⟨w7, hw7⟩ : ∃ W : World, W = wr := ⟨_, rfl⟩
            subst hw7
            clear hcap
            have rdA := hs.rdInts 0 rfl
            go_wp2_with fail
            refine wp_loopM [none, none, none, none, none, none, none, none, none, none, some 10, none, none, none, none, none, none, none, none, some 19, none, none, none, none, none, none, none, none, none, none, none, none, none, none, none, none, none, none, none, none, none, none, none, none, none, none, none, none, none, none, none, none, none, none, none, none, none, none, none, none, none, none, none, none, none, none, none, none, none, none, none, none, none, none, none, none, none, none, none, none, none, none, none, none, none, none, none, none, none, some 89, some 90, some 91, some 92, some 93, some 94, some 95, some 96, some 97, some 98, some 99, some 100, some 101, some 102, some 103, none, none, none, none, none, none, none, none, none, none, none, none, none, none, none, none, none, none, none, none, none, none, none, none, none, none, none, none, none] (fun (r : Nat) (f : Nat → Value) (wr : World) => (fun (v : Value) => ∃ k : Nat, v = .int .i64 k ∧ k ≤ P.length ∧ r = P.length - k ∧ Below w7.heap.size w7 wr) (f 19)) (P.length) (by kernel_rfl) ?atStart8 ?round8
            case' atStart8 => (try dsimp only [nthV])
            case' round8 =>
              intro gk f wr l hl hrel J2 K2 hJ2 hK2
              (try simp only [mask] at hl)
              generalize f 19 = u19 at hl hrel
              subst hl
              (try dsimp only at hrel)
            case atStart8 => exact ⟨0, rfl, Nat.zero_le _, rfl, Below.refl _ _⟩
            case round8 =>
              obtain ⟨k, rfl, hk, rfl, hb⟩ := hrel
              by_cases hlt : k < P.length
              · obtain ⟨b1, o1, e1, hb1, x0⟩ := (rdA.below hb).at k hlt
                subst e1
                obtain ⟨g1, g2⟩ := HPA.out k hlt
                obtain ⟨b2, o2, e2, hb2, y0⟩ := ((hs.rd hp).below hb).at k g2
                subst e2
                obtain ⟨I, hI⟩ : ∃ I, I = P.getD k 0 := ⟨_, rfl⟩
                rw [← g1] at y0
                rw [← hI] at x0 y0
                clear hI g1
                go_wp2_with fail
                refine Mix.region [0, 0, 0, 0, 0, 0, 0, 0, 0] (fun _ => True) (by kernel_rfl) (by kernel_rfl) trivial ?_
                simp only [List.zip_cons_cons, List.zip_nil_right]
                iterate 9 (refine Mix.step0 fun K hK => ?_; go_simp; (try (go_bits; try go_simp)); first | ((with_reducible refine hK _ _ ?_); clear hK K) | ((try (simp only [IntWalk.iteOmega]; try go_simp)); (try go_bits); (with_reducible refine hK _ _ ?_); clear hK K))
                refine Mix.done ?_
                go_wp2_with fail
                refine Round.intro (P.length - (k + 1)) ?measure9 (by kernel_rfl) (hJ2 _ _ _ ?rel9)
                case' rel9 => (try dsimp only [nthV])
                case measure9 => omega
                case rel9 => exact ⟨k + 1, by go_num, hlt, rfl, ((Fr.drew (S := fun _ => False) wr).toBelow _ (fun _ _ h => h) (Nat.le_refl _)).mono hb.size |> hb.trans⟩
              · obtain rfl : k = P.length := by omega
                replace hs := hs.belowStep hb
                clear rdA hb
                go_wp2_with fail
                refine (permit_any rooms l c ps _ _ _ _ (hs.rd hr) (hs.rdG h) (hs.rd hp) (by omega) (by omega)).mono ?_
                rintro en w8 ⟨rfl, hb⟩
                replace hs := hs.belowStep hb
                clear hb
                go_wp2_with fail
                refine (rpermit_any rooms l c ps _ _ _ _ (hs.rd hr) (hs.rdG h) (hs.rd hp) (by omega)).mono ?_
                rintro en w9 ⟨rfl, hb⟩
                replace hs := hs.belowStep hb
                clear hb
                cases hpm : permitB rooms l c ps
                · have HPM := Lib.hid hpm
                  clear hpm
                  go_wp2_with fail
                  refine (rpermit_any rooms l c ps _ _ _ _ (hs.rd hr) (hs.rdG h) (hs.rd hp) (by omega)).mono ?_
                  rintro en w10 ⟨rfl, hb⟩
                  rw [HPM.out]
                  replace hs := hs.belowStep hb
                  clear hb
                  go_wp2_with fail
                  refine (bworks_any _).mono ?_
                  rintro en w11 ⟨rfl, hb⟩
                  replace hs := hs.belowStep hb
                  clear hb
                  go_wp2_with fail
                  go_ret
                  exact ⟨rfl, hs.below⟩
                · have HPQ := Lib.hid (payQ_of hpm)
                  have HPM := Lib.hid hpm
                  clear hpm
                  go_wp2_with fail
                  refine (rpermit_any rooms l c ps _ _ _ _ (hs.rd hr) (hs.rdG h) (hs.rd hp) (by omega)).mono ?_
                  rintro en w10 ⟨rfl, hb⟩
                  rw [HPM.out]
                  replace hs := hs.belowStep hb
                  clear hb
                  go_wp2_with fail
                  refine (worth_any l ps _ _ _ (hs.rdG h) (hs.rd hp) (by omega) HPQ.out).mono ?_
                  rintro en w11 ⟨rfl, hb⟩
                  replace hs := hs.belowStep hb
                  clear hb
                  go_wp2_with fail
                  refine (rworth_any l ps _ _ _ (hs.rdG h) (hs.rd hp) (by omega) HPQ.out).mono ?_
                  rintro en w12 ⟨rfl, hb⟩
                  replace hs := hs.belowStep hb
                  clear hb
                  generalize worthQ _ = WW
                  go_wp2_with fail
                  refine (bworks_any _).mono ?_
                  rintro en w13 ⟨rfl, hb⟩
                  replace hs := hs.belowStep hb
                  clear hb
                  go_wp2_with fail
                  go_ret
                  exact ⟨rfl, hs.below⟩
end Go.Proofs.Ytlbpkfjebaelpaa
