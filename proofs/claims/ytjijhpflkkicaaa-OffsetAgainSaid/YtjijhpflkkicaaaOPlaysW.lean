/-
  OffsetPlays, walked.
-/
import Derived.Test.YtjijhpflkkicaaaOW21
import Derived.Test.YtjijhpflkkicaaaOW9
set_option linter.unusedVariables false
set_option linter.unusedSimpArgs false
namespace Go.OffP
open Go Go.Mem Go.MoneyP Go.BuildP
def tabR (n : Int) (l : List Du) : List (List Int) := if netsE n l = 0 then tableM n.toNat (openL l) else []
def payR (n : Int) (l : List Du) : List Int := if netsE n l = 0 then paysL n.toNat (openL l) else []
def lftR (l : List Du) (ps : List Int) : List Du := if leftE l ps = 0 then leftL l ps else []
end Go.OffP
namespace Go.Proofs.Ytjijhpflkkicaaa
open Go Go.RowKit Go.Mem Go.MoneyP Go.NetP Go.BuildP Go.OffP Go.Shelf
theorem TableD.uni {n : Int} {l : List Du} {w w' : World} {en : Ending} (h : TableD n l w en w') : ∃ v, en = .returned (.tuple #[v, .int .i64 (netsE n l)]) ∧ GridR w' v (tabR n l) ∧ Below w.heap.size w w' := by
  unfold tabR
  rcases h with ⟨h0, rfl, hb⟩ | ⟨h0, v, rfl, G, hG, hs⟩
  · rw [if_neg h0]; exact ⟨_, rfl, GridR.nil _, hb⟩
  · rw [if_pos h0, h0, ← hG]
    exact ⟨v, rfl, Sep.gridR (L := []) (by rw [List.append_nil]; exact hs), hs.below⟩
theorem PaysD.uni {n : Int} {l : List Du} {w w' : World} {en : Ending} (h : PaysD n l w en w') : ∃ v, en = .returned (.tuple #[v, .int .i64 (netsE n l)]) ∧ Sep w w' [intsT .i64 2 v (payR n l)] := by
  unfold payR
  rcases h with ⟨h0, rfl, hb⟩ | ⟨h0, v, rfl, hs⟩
  · rw [if_neg h0]; exact ⟨_, rfl, (Sep.ofBelow hb).nilInts _ _⟩
  · rw [if_pos h0, h0]; exact ⟨v, rfl, hs⟩
theorem LeftD.uni {l : List Du} {ps : List Int} {w w' : World} {en : Ending} (h : LeftD l ps w en w') : ∃ v, en = .returned (.tuple #[v, .int .i64 (leftE l ps)]) ∧ Sep w w' [recT duR 44 v (lftR l ps)] := by
  unfold lftR
  rcases h with ⟨h0, rfl, hb⟩ | ⟨h0, v, rfl, hs⟩
  · rw [if_neg h0]; exact ⟨_, rfl, (Sep.ofBelow hb).nilRecs _ _⟩
  · rw [if_pos h0, h0]; exact ⟨v, rfl, hs⟩
set_option maxRecDepth 100000 in
set_option maxHeartbeats 4000000 in
theorem offsetPlays_any (l : List Du) (banks : Int) (ps : List Int) (vl vp : Value) (w : World) (h : RdG duR w vl l) (hp : Rd .i64 w vp ps) (hcap : ∀ a n c, vp = .slice a n c → n ≤ c) (hwf : ∀ d ∈ l, d.x ≤ 9223372036854775807) :
    Calls Try.prog 3 #[vl, .int .i64 banks, vp] w fun e w' => e = .returned (.bool true) ∧ Below w.heap.size w w' := by
  obtain ⟨j0, hj0, hy0, hy1, hy2⟩ := info_parts Try.infoDu
  obtain ⟨al, cl, rfl⟩ := h.shape
  obtain ⟨ap, cp, rfl⟩ := hp.shape
  have hle := h.le'
  have hlp := hp.le'
  by_cases hl : 80 < l.length
  · have d0 : decide (80 < l.length) = true := decide_eq_true hl
    go_enter Try.func3, Try.ntmps3
    go_wp2_with fail
    refine (oworks_any _).mono ?_
    rintro en w2 ⟨rfl, hb⟩
    go_wp2_with fail
    go_ret
    exact ⟨rfl, hb⟩
  by_cases hl2 : 80 < ps.length
  · go_enter Try.func3, Try.ntmps3
    go_wp2_with fail
    refine (oworks_any _).mono ?_
    rintro en w2 ⟨rfl, hb⟩
    go_wp2_with fail
    go_ret
    exact ⟨rfl, hb⟩
  have HWF := Lib.hid hwf
  have HCP := Lib.hid (hcap _ _ _ rfl)
  clear hwf hcap
  have hs := (Sep.start w).litRecs duR 44 [] (by simp [maxLen])
  simp only [List.length_nil, Rec.flat, List.flatMap_nil] at hs
  go_enter Try.func3, Try.ntmps3
  go_wp2_with (at_builtin; refine wpList_appRdG duR rfl (.tmp 31) (.tmp 32) 22 rfl 44 j0 _ 56 Try.underlying22 hj0 hy0 hy1 hy2 rfl _ [] _ l hs 0 rfl (hs.rdG h) rfl rfl ?c3 ?c4 ?grow)
  case c3 => (try simp); (try simp only [maxLen]); (try omega)
  case c4 => (try simp); (try simp only [maxLen]); (try omega)
  case grow =>
    intro vo w2 hs2
    (try simp only [List.set_cons_zero, List.nil_append] at hs2)
    clear hs
    have hs := hs2
    clear hs2
    go_wp2_with fail
    refine (table_any banks l _ _ (hs.rdRecs 0 rfl)).mono ?_
    intro en w3 hP
    obtain ⟨va, rfl, GA, hb⟩ := hP.uni
    clear hP
    replace hs := hs.belowStep hb
    clear hb
    go_wp2_with fail
    refine (rtable_any banks l _ _ (hs.rdG h)).mono ?_
    intro en w4 hP
    obtain ⟨vb, rfl, GB, hb⟩ := hP.uni
    clear hP
    replace hs := hs.belowStep hb
    replace GA := GA.below hb
    clear hb
    go_wp2_with fail
    refine (opays_any banks l _ _ (hs.rdRecs 0 rfl)).mono ?_
    intro en w5 hP
    obtain ⟨vc, rfl, k1⟩ := hP.uni
    clear hP
    replace hs := hs.join k1
    replace GA := GA.below k1.below
    replace GB := GB.below k1.below
    clear k1
    go_wp2_with fail
    refine (rpays_any banks l _ _ (hs.rdG h)).mono ?_
    intro en w6 hP
    obtain ⟨vd, rfl, k1⟩ := hP.uni
    clear hP
    replace hs := hs.join k1
    replace GA := GA.below k1.below
    replace GB := GB.below k1.below
    clear k1
    simp only [List.cons_append, List.nil_append] at hs
    obtain ⟨E, hE⟩ : ∃ E, E = netsE banks l := ⟨_, rfl⟩
    rw [← hE]
    clear hE
    have d0 : (E != E) = false := by simp
    obtain ⟨M, hM⟩ : ∃ M, M = tabR banks l := ⟨_, rfl⟩
    rw [← hM] at GA GB
    clear hM
    obtain ⟨P, hP⟩ : ∃ P, P = payR banks l := ⟨_, rfl⟩
    rw [← hP] at hs
    clear hP
    have HG := Lib.hid (And.intro GA GB)
    clear GA GB
    obtain ⟨ad, cd, rfl⟩ := (hs.rdInts 0 rfl).shape
    obtain ⟨ac, cc, rfl⟩ := (hs.rdInts 1 rfl).shape
    have HCD := Lib.hid ((hs.ints 0 rfl).capO _ _ _ rfl)
    go_wp2_with fail
    refine (sameT_eq _ _ M _ HG.out.1 HG.out.2).mono ?_
    rintro en w7 ⟨rfl, hb⟩
    replace hs := hs.belowStep hb
    clear hb HG
    go_wp2_with fail
    refine (amounts_eq _ _ P _ (hs.rdInts 1 rfl) (hs.rdInts 0 rfl)).mono ?_
    rintro en w8 ⟨rfl, hb⟩
    replace hs := hs.belowStep hb
    clear hb
    have hs3 := hs.litRecs slR 23 [⟨ap, ps.length, cp⟩, ⟨ad, P.length, cd⟩] (by simp [maxLen])
    simp only [List.length_cons, List.length_nil, Nat.reduceAdd, Rec.flat, List.flatMap_cons, List.flatMap_nil, List.append_nil, slR, List.cons_append, List.nil_append] at hs3
    obtain ⟨B, hB⟩ : ∃ B, B = w8.heap.size := ⟨_, rfl⟩
    rw [← hB] at hs3
    have HRW := Lib.hid (show ∀ W, Sep w W [recT slR 23 (.slice (some ⟨B, 0, none⟩) 2 2) [⟨ap, ps.length, cp⟩, ⟨ad, P.length, cd⟩], intsT .i64 2 (.slice ad P.length cd) P, intsT .i64 2 (.slice ac P.length cc) P, recT duR 44 vo l] → ∀ i, i < 2 → ∃ a n c q, W.cell? ⟨B, i, none⟩ = some (.slice a n c) ∧ Rd .i64 W (.slice a n c) q ∧ n ≤ c ∧ B < W.heap.size from fun W hs i hi => by
      obtain ⟨b1, o1, e1, hbl, hc1⟩ := (hs.rdRecs 0 rfl).at i hi
      have hc := hc1 0 (by decide)
      injection e1 with e1
      injection e1 with e1 e2
      subst e1
      rw [← e2] at hc
      rcases Nat.lt_succ_iff_lt_or_eq.1 hi with hi | rfl
      · obtain rfl : i = 0 := by omega
        simp [slR] at hc
        exact ⟨_, _, _, ps, hc, hs.rd hp, HCP.out, hbl⟩
      · simp [slR] at hc
        exact ⟨_, _, _, P, hc, hs.rdInts 1 rfl, HCD.out, hbl⟩)
    clear hs
    go_wp2_with fail
    rw [← hB]
    clear hB
    refine wp_loopM [none, none, none, none, none, none, some 6, none, none, none, none, none, none, none, none, none, none, some 17, some 18, some 19, some 20, some 21, none, none, none, none, none, none, none, none, none, none, none, none, none, none, none, none, none, none, none, none, none, none, none, none, none, none, none, none, none, none, none, none, none, none, none, none, none, none, none, none, none, none, none, none, none, none, none, none, none, none, none, none, none, none, none, none, none, none, none, some 81, some 82, some 83, some 84, some 85, some 86, some 87, some 88, some 89, some 90, some 91, some 92, some 93, some 94, some 95, some 96, some 97, some 98, some 99, some 100, some 101, some 102, some 103, some 104, some 105, some 106, some 107, some 108, some 109, some 110, some 111, none, none, none, none, none, none] (fun (r : Nat) (f : Nat → Value) (wr : World) => (fun (v : Value) => ∃ i : Nat, v = .int .i64 i ∧ i ≤ 2 ∧ r = 2 - i ∧ Sep w wr [recT slR 23 (.slice (some ⟨B, 0, none⟩) 2 2) [⟨ap, ps.length, cp⟩, ⟨ad, P.length, cd⟩], intsT .i64 2 (.slice ad P.length cd) P, intsT .i64 2 (.slice ac P.length cc) P, recT duR 44 vo l]) (f 17)) (2) (by kernel_rfl) ?atStart1 ?round1
    case' atStart1 => (try dsimp only [nthV])
    case' round1 =>
      intro gk f wr l hl hrel J1 K1 hJ1 hK1
      (try simp only [mask] at hl)
      generalize f 17 = u17 at hl hrel
      subst hl
      (try dsimp only at hrel)
    case atStart1 => exact ⟨0, rfl, by omega, rfl, hs3⟩
    case round1 =>
      clear hs3
      obtain ⟨i, rfl, hi, rfl, hs⟩ := hrel
      by_cases hlt : i < 2
      · obtain ⟨a, n, c, q, hc, hq, hnc, hBl⟩ := HRW.out wr hs i hlt
        have HN := Lib.hid hnc
        have HQ := Lib.hid hq
        clear hq hnc
        go_wp2_with fail
        refine (oleft_any l q _ _ _ (hs.rdRecs 3 rfl) HQ.out (fun a n c e => by injection e with _ e1 e2; have := HN.out; omega) (by omega) HWF.out).mono ?_
        intro en w9 hP
        obtain ⟨vx, rfl, k1⟩ := hP.uni
        clear hP
        have hc2 := k1.cell (b := B) (o := i) hBl |>.trans hc
        have HQ2 := Lib.hid (HQ.out.below k1.below)
        clear hBl
        replace hs := hs.join k1
        clear k1 hc HQ
        simp only [List.cons_append, List.nil_append] at hs
        go_wp2_with fail
        refine (rleft_any l q _ _ _ (hs.rdG h) HQ2.out (by omega) HWF.out).mono ?_
        intro en w10 hP
        obtain ⟨vy, rfl, k1⟩ := hP.uni
        clear hP
        replace hs := hs.join k1
        clear k1 hc2 HQ2
        simp only [List.cons_append, List.nil_append] at hs
        obtain ⟨F, hF⟩ : ∃ F, F = leftE l q := ⟨_, rfl⟩
        rw [← hF]
        clear hF
        have d1 : (F != F) = false := by simp
        go_wp2_with fail
        refine (sameD_eq _ _ _ _ (hs.rdRecs 1 rfl) (hs.rdRecs 0 rfl)).mono ?_
        rintro en w11 ⟨rfl, hb⟩
        replace hs := (hs.belowStep hb).tail.tail
        clear hb d1
        go_wp2_with fail
        refine Round.intro (2 - (i + 1)) ?measure2 (by kernel_rfl) (hJ1 _ _ _ ?rel2)
        case' rel2 => (try dsimp only [nthV])
        case measure2 => omega
        case rel2 => exact ⟨i + 1, by go_num, hlt, rfl, hs⟩
      · obtain rfl : i = 2 := by omega
        go_wp2_with fail
        refine (sameD_eq _ _ l _ (hs.rdRecs 3 rfl) (hs.rdG h)).mono ?_
        rintro en w11 ⟨rfl, hb⟩
        replace hs := hs.belowStep hb
        clear hb
        go_wp2_with fail
        refine (oworks_any _).mono ?_
        rintro en w12 ⟨rfl, hb⟩
        replace hs := hs.belowStep hb
        go_wp2_with fail
        go_ret
        exact ⟨rfl, hs.below⟩
end Go.Proofs.Ytjijhpflkkicaaa
