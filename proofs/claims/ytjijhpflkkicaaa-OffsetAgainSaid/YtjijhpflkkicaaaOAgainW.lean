/-
  OffsetAgain, walked.
-/
import Derived.Test.YtjijhpflkkicaaaOTurnW
set_option linter.unusedVariables false
set_option linter.unusedSimpArgs false
namespace Go.OffP
open Go Go.Mem Go.MoneyP Go.BuildP
/-- The first part of each pay .. -/
def fstP (zs P : List Int) (k : Nat) : Int := if k < zs.length ∧ 1 < P.getD k 0 then zs.getD k 0 % P.getD k 0 else 0
def firstL (zs P : List Int) (i : Nat) : List Int := (List.range P.length).map fun k => if k < i then fstP zs P k else 0
/-- .. and the second one. -/
def sndP (zs P : List Int) (k : Nat) : Int := P.getD k 0 - fstP zs P k
def secondL (zs P : List Int) (i : Nat) : List Int := (List.range i).map (sndP zs P)
theorem firstL_len (zs P : List Int) (i : Nat) : (firstL zs P i).length = P.length := by simp [firstL]
theorem secondL_len (zs P : List Int) (i : Nat) : (secondL zs P i).length = i := by simp [secondL]
theorem firstL_at {zs P : List Int} {i k : Nat} (h : k < P.length) : (firstL zs P i).getD k 0 = if k < i then fstP zs P k else 0 := by
  rw [List.getD_eq_getElem?_getD]; unfold firstL; simp [h]
theorem secondL_at {zs P : List Int} {i k : Nat} (h : k < i) : (secondL zs P i).getD k 0 = sndP zs P k := by
  rw [List.getD_eq_getElem?_getD]; unfold secondL; simp [h]
theorem secondL_succ (zs P : List Int) (i : Nat) : secondL zs P (i + 1) = secondL zs P i ++ [sndP zs P i] := by
  unfold secondL; rw [List.range_succ, List.map_append]; rfl
theorem firstL_start (zs P : List Int) : firstL zs P 0 = List.replicate P.length 0 := by
  refine list_getD (by rw [firstL_len, List.length_replicate]) fun k hk => ?_
  rw [List.length_replicate] at hk
  rw [firstL_at hk, if_neg (by omega), rep_getD]
theorem firstL_put {zs P : List Int} {i : Nat} (h : i < P.length) : (firstL zs P i).set i (fstP zs P i) = firstL zs P (i + 1) := by
  refine list_getD (by rw [List.length_set, firstL_len, firstL_len]) fun k hk => ?_
  rw [firstL_len] at hk
  rw [getD_set _ _ _ _ (by rw [firstL_len]; exact h), firstL_at hk, firstL_at hk]
  by_cases e : i = k
  · subst e; rw [if_pos rfl, if_pos (by omega)]
  · rw [if_neg e]
    by_cases q : k < i
    · rw [if_pos q, if_pos (by omega)]
    · rw [if_neg q, if_neg (by omega)]
theorem firstL_skip {zs P : List Int} {i : Nat} (h : fstP zs P i = 0) : firstL zs P i = firstL zs P (i + 1) := by
  refine list_getD (by rw [firstL_len, firstL_len]) fun k hk => ?_
  rw [firstL_len] at hk
  rw [firstL_at hk, firstL_at hk]
  by_cases q : k < i
  · rw [if_pos q, if_pos (by omega)]
  · by_cases e : k = i
    · subst e; rw [if_neg q, if_pos (by omega), h]
    · rw [if_neg q, if_neg (by omega)]
theorem fst_bound {zs P : List Int} (hP : ∀ k, k < P.length → 0 ≤ P.getD k 0) {k : Nat} (hk : k < P.length) : 0 ≤ fstP zs P k ∧ fstP zs P k ≤ P.getD k 0 ∧ (fstP zs P k = 0 ∨ fstP zs P k < P.getD k 0) := by
  have h0 := hP k hk
  unfold fstP
  split
  next h =>
    have h1 := Int.emod_nonneg (zs.getD k 0) (show P.getD k 0 ≠ 0 by omega)
    have h2 := Int.emod_lt_of_pos (zs.getD k 0) (show 0 < P.getD k 0 by omega)
    omega
  · omega
/-- In two parts: the same is left. -/
theorem parts_left {l : List Du} {zs P : List Int} (hP : PayOk (openL l) P) (hx : ∀ d ∈ openL l, 1 ≤ d.x) :
    PayOk (openL l) (firstL zs P P.length) ∧ PayOk (openL (leftL l (firstL zs P P.length))) (secondL zs P P.length) ∧ leftL (leftL l (firstL zs P P.length)) (secondL zs P P.length) = leftL l P := by
  have hlo := fun k (hk : k < P.length) => hP.lo k (by rw [← hP.len]; exact hk)
  have hF : ∀ k, k < (openL l).length → (firstL zs P P.length).getD k 0 = fstP zs P k := fun k hk => by
    rw [← hP.len] at hk
    rw [firstL_at hk, if_pos hk]
  have hS : ∀ k, k < (openL l).length → (secondL zs P P.length).getD k 0 = P.getD k 0 - fstP zs P k := fun k hk => by
    rw [← hP.len] at hk
    exact secondL_at hk
  obtain ⟨t1, t2, t3⟩ := left_twice (ps := P) (fs := firstL zs P P.length) (ss := secondL zs P P.length) l fun k hk => by
    have h1 := fst_bound (zs := zs) hlo (show k < P.length by rw [hP.len]; exact hk)
    have h2 := hP.hi k hk
    have h3 := hx _ (List.getElem_mem hk)
    rw [← getDu hk] at h3
    rw [hF k hk, hS k hk]
    omega
  refine ⟨⟨by rw [firstL_len, hP.len], fun k hk => ?_, fun k hk => ?_⟩, ⟨by rw [secondL_len, t2, hP.len], fun k hk => ?_, fun k hk => ?_⟩, t1⟩
  · rw [hF k hk]
    exact (fst_bound (zs := zs) hlo (show k < P.length by rw [hP.len]; exact hk)).1
  · rw [hF k hk]
    have h1 := fst_bound (zs := zs) hlo (show k < P.length by rw [hP.len]; exact hk)
    have h2 := hP.hi k hk
    omega
  · rw [t2] at hk
    rw [hS k hk]
    have h1 := fst_bound (zs := zs) hlo (show k < P.length by rw [hP.len]; exact hk)
    omega
  · rw [t2] at hk
    rw [hS k hk, t3 k hk, hF k hk]
    have h1 := fst_bound (zs := zs) hlo (show k < P.length by rw [hP.len]; exact hk)
    have h2 := hP.hi k hk
    omega
end Go.OffP
namespace Go.Proofs.Ytjijhpflkkicaaa
open Go Go.RowKit Go.Mem Go.MoneyP Go.NetP Go.BuildP Go.OffP Go.Shelf
theorem LeftD.yes {l : List Du} {ps : List Int} {w w' : World} {en : Ending} (h : LeftD l ps w en w') (h0 : leftE l ps = 0) : ∃ v, en = .returned (.tuple #[v, .int .i64 0]) ∧ Sep w w' [recT duR 44 v (leftL l ps)] := by
  rcases h with ⟨h1, _, _⟩ | ⟨_, v, rfl, hs⟩
  · exact absurd h0 h1
  · exact ⟨v, rfl, hs⟩
theorem PaysD.yes {n : Int} {l : List Du} {w w' : World} {en : Ending} (h : PaysD n l w en w') (h0 : netsE n l = 0) : ∃ v, en = .returned (.tuple #[v, .int .i64 0]) ∧ Sep w w' [intsT .i64 2 v (paysL n.toNat (openL l))] := by
  rcases h with ⟨h1, _, _⟩ | ⟨_, v, rfl, hs⟩
  · exact absurd h0 h1
  · exact ⟨v, rfl, hs⟩
theorem RingsD.yes {n : Int} {l : List Du} {w w' : World} {en : Ending} (h : RingsD n l w en w') (h0 : netsE n l = 0) : ∃ (v : Value) (ps : List Int) (r : Nat), en = .returned (.tuple #[v, .int .i64 r, .int .i64 0]) ∧ RingsR (openL l) ps r ∧ Sep w w' [intsT .i64 2 v ps] := by
  rcases h with ⟨h1, _, _⟩ | ⟨_, v, ps, r, rfl, hr, hs⟩
  · exact absurd h0 h1
  · exact ⟨v, ps, r, rfl, hr, hs⟩
theorem good_x {n : Nat} {l : List Du} (h : GoodN n l) : ∀ d ∈ l, d.x ≤ 9223372036854775807 := fun d hd => by have := (h.may d hd).x1; omega
set_option maxRecDepth 100000 in
set_option maxHeartbeats 6000000 in
theorem offsetAgain_any (l : List Du) (zs : List Int) (vl vz : Value) (w : World) (h : RdG duR w vl l) (hz : Rd .u8 w vz zs) (hzw : ∀ x ∈ zs, 0 ≤ x ∧ x ≤ 255) :
    Calls Try.prog 4 #[vl, vz] w fun e w' => e = .returned (.bool true) ∧ Below w.heap.size w w' := by
  obtain ⟨i0, hi0, hz0, hz1, hz2⟩ := info_parts Try.infoI64o
  obtain ⟨al, cl, rfl⟩ := h.shape
  obtain ⟨az, cz, rfl⟩ := hz.shape
  have hle := h.le'
  have hlz := hz.le'
  have HZW := Lib.hid hzw
  clear hzw
  have HM := Lib.hid (rmay29_any 16 l _ w h)
  cases hm : may29 16 l
  · rw [hm] at HM
    clear hm
    go_enter Try.func4, Try.ntmps4
    go_wp2_with fail
    refine HM.out.mono ?_
    rintro en w1 ⟨rfl, hb⟩
    have hs := (Sep.start w).belowStep hb
    clear hb
    go_wp2_with fail
    refine (oworks_any _).mono ?_
    rintro en w9 ⟨rfl, hb⟩
    go_wp2_with fail
    go_ret
    exact ⟨rfl, (hs.belowStep hb).below⟩
  rw [hm] at HM
  have hl64 := (all_parts (may29_parts hm).2.1).1
  have HME := Lib.hid (may29_nets hm)
  clear hm
  by_cases hz64 : 64 < zs.length
  · go_enter Try.func4, Try.ntmps4
    go_wp2_with fail
    refine HM.out.mono ?_
    rintro en w1 ⟨rfl, hb⟩
    have hs := (Sep.start w).belowStep hb
    clear hb
    go_wp2_with fail
    refine (oworks_any _).mono ?_
    rintro en w9 ⟨rfl, hb⟩
    go_wp2_with fail
    go_ret
    exact ⟨rfl, (hs.belowStep hb).below⟩
  go_enter Try.func4, Try.ntmps4
  go_wp2_with fail
  refine HM.out.mono ?_
  rintro en w1 ⟨rfl, hb⟩
  have hs := (Sep.start w).belowStep hb
  clear hb HM
  rcases HME.out with hE | hE
  rotate_left
  · go_wp2_with fail
    refine (opays_any 16 l _ _ (hs.rdG h)).mono ?_
    intro en w2 hP
    obtain ⟨vc, rfl, k1⟩ := PaysD.uni hP
    clear hP
    replace hs := hs.join k1
    rw [hE]
    clear k1 hE HME
    go_wp2_with fail
    refine (oworks_any _).mono ?_
    rintro en w9 ⟨rfl, hb⟩
    go_wp2_with fail
    go_ret
    exact ⟨rfl, (hs.belowStep hb).below⟩
  obtain ⟨N, hN, hgood⟩ := netsE_good hE
  obtain rfl : N = 16 := by omega
  have HE := Lib.hid hE
  have HGO := Lib.hid hgood
  clear hE hN HME hgood
  go_wp2_with fail
  refine (opays_any 16 l _ _ (hs.rdG h)).mono ?_
  intro en w2 hP
  obtain ⟨vp, rfl, k1⟩ := PaysD.yes hP HE.out
  clear hP
  replace hs := hs.join k1
  simp only [List.cons_append, List.nil_append] at hs
  clear k1
  have HOK := Lib.hid (show PayOk (openL l) (paysL (16 : Int).toNat (openL l)) from pays_ok (good_open HGO.out))
  have HAG := Lib.hid (show ∀ i, i < (openL (leftL l (paysL (16 : Int).toNat (openL l)))).length → (paysL (16 : Int).toNat (openL (leftL l (paysL (16 : Int).toNat (openL l))))).getD i 0 = 0 from pays_again HGO.out)
  obtain ⟨P, hP⟩ : ∃ P, P = paysL (16 : Int).toNat (openL l) := ⟨_, rfl⟩
  rw [← hP] at hs HOK HAG
  clear hP
  have hol := open_le l
  have hPl : P.length ≤ 64 := by have := HOK.out.len; omega
  have HLE := Lib.hid (PayOk.leftE HOK.out)
  have HLG := Lib.hid (leftL_good HGO.out HOK.out)
  have HLN := Lib.hid (show netsE 16 (leftL l P) = 0 from good_netsE HLG.out)
  have HPT := Lib.hid (parts_left (zs := zs) HOK.out (fun d hd => ((good_open HGO.out) d hd).1.x0))
  obtain ⟨ap, cp, rfl⟩ := (hs.rdInts 0 rfl).shape
  go_wp2_with fail
  refine (oleft_any l P _ _ _ (hs.rdG h) (hs.rdInts 0 rfl) (hs.ints 0 rfl).capO (by omega) (good_x HGO.out)).mono ?_
  intro en w3 hP
  obtain ⟨vf, rfl, k1⟩ := LeftD.yes hP HLE.out
  clear hP HLE
  replace hs := hs.join k1
  simp only [List.cons_append, List.nil_append] at hs
  clear k1
  obtain ⟨LF, hLF⟩ : ∃ LF, LF = leftL l P := ⟨_, rfl⟩
  rw [← hLF] at hs HLG HLN HAG HPT
  clear hLF
  go_wp2_with fail
  refine (opays_any 16 LF _ _ (hs.rdRecs 0 rfl)).mono ?_
  intro en w4 hP
  obtain ⟨vq, rfl, k1⟩ := PaysD.yes hP HLN.out
  clear hP
  replace hs := hs.join k1
  simp only [List.cons_append, List.nil_append] at hs
  clear k1
  have HQL := Lib.hid (paysL_len (16 : Int).toNat (openL LF))
  obtain ⟨Q, hQ⟩ : ∃ Q, Q = paysL (16 : Int).toNat (openL LF) := ⟨_, rfl⟩
  rw [← hQ] at hs HAG HQL
  clear hQ
  obtain ⟨aq, cq, rfl⟩ := (hs.rdInts 0 rfl).shape
  have hql := (hs.rdInts 0 rfl).le'
  go_wp2_with fail
  refine wp_loopM [none, none, none, none, some 4, none, none, none, none, none, none, some 11, none, none, none, none, none, none, none, none, none, none, none, none, none, none, none, none, none, none, none, none, none, none, none, none, none, none, none, none, none, none, none, none, none, none, none, none, none, none, none, none, none, none, none, none, none, none, none, none, none, none, none, none, none, some 65, some 66, some 67, some 68, some 69, some 70, some 71, some 72, some 73, some 74, some 75, none, none, none, none, none, none, none, none, none, none, none, none, none, none, none, none, none, none, none, none, none, none, none, none, none, none, none, none, none, none, none, none, none, none, none, none, none, none, none, none, none, none, none, none, none, none, none, none, none, none, none, none, none, none, none, none, none, none, none, none, none, none, none, none, none, none, none, none, none, none, none, none, none, none, none, none, none, none, none, none, none, none, none, none, none, none, none, none, none, none, none, none, none, none, none, none, none, none, none, none, none, none, none] (fun (r : Nat) (f : Nat → Value) (wr : World) => (fun (v : Value) => ∃ i : Nat, v = .int .i64 i ∧ i ≤ Q.length ∧ r = Q.length - i ∧ wr = w4) (f 11)) (Q.length) (by kernel_rfl) ?atStart1 ?round1
  case' atStart1 => (try dsimp only [nthV])
  case' round1 =>
    intro gk f wr l hl hrel J1 K1 hJ1 hK1
    (try simp only [mask] at hl)
    generalize f 11 = u11 at hl hrel
    subst hl
    (try dsimp only at hrel)
  case atStart1 => exact ⟨0, rfl, Nat.zero_le _, rfl, rfl⟩
  case round1 =>
    obtain ⟨i, rfl, hi, rfl, rfl⟩ := hrel
    by_cases hlt : i < Q.length
    · obtain ⟨b1, o1, e1, _, hc1⟩ := (hs.rdInts 0 rfl).at i hlt
      subst e1
      rw [HAG.out i (by rw [← HQL.out]; exact hlt)] at hc1
      go_wp2_with fail
      refine Round.intro (Q.length - (i + 1)) ?measure2 (by kernel_rfl) (hJ1 _ _ _ ?rel2)
      case' rel2 => (try dsimp only [nthV])
      case measure2 => omega
      case rel2 => exact ⟨i + 1, by go_num, hlt, rfl, rfl⟩
    · obtain rfl : i = Q.length := by omega
      clear hi hlt HAG HQL
      go_wp2_with fail
      refine (rings_any 16 l _ _ (hs.rdG h)).mono ?_
      intro en w5 hP
      obtain ⟨vr, rs, rn, rfl, hR, k1⟩ := RingsD.yes hP HE.out
      clear hP
      replace hs := hs.join k1
      simp only [List.cons_append, List.nil_append] at hs
      clear k1
      have HRO := Lib.hid (rings_ok hR)
      have HRE := Lib.hid (PayOk.leftE HRO.out)
      have HAC := Lib.hid (show Acyc (openL (leftL l rs)) by rw [open_left]; exact hR.none)
      have HRG := Lib.hid (leftL_good HGO.out HRO.out)
      have HRN := Lib.hid (show netsE 16 (leftL l rs) = 0 from good_netsE HRG.out)
      clear hR
      go_wp2_with fail
      refine (oleft_any l rs _ _ _ (hs.rdG h) (hs.rdInts 0 rfl) (hs.ints 0 rfl).capO (by omega) (good_x HGO.out)).mono ?_
      intro en w6 hP
      obtain ⟨vt, rfl, k1⟩ := LeftD.yes hP HRE.out
      clear hP
      replace hs := hs.join k1
      simp only [List.cons_append, List.nil_append] at hs
      clear k1
      go_wp2_with fail
      refine (rings_any 16 (leftL l rs) _ _ (hs.rdRecs 0 rfl)).mono ?_
      intro en w7 hP
      obtain ⟨vr2, rs2, rn2, rfl, hR, k1⟩ := RingsD.yes hP HRN.out
      clear hP
      replace hs := hs.join k1
      simp only [List.cons_append, List.nil_append] at hs
      clear k1
      obtain rfl : rn2 = 0 := hR.zero.2 HAC.out
      clear hR HRO HRE HAC HRG HRN
      replace hs := hs.tail.tail.tail.tail
      go_wp2_with (at_make; refine wpList_makeInts rfl (.tmp 109) (.tmp 109) 23 rfl 2 i0 .i64 8 Try.underlying23 hi0 hz0 hz1 hz2 P.length .i64 .i64 rfl rfl hs ?m1 ?m2 ?m3)
      case m1 => (try simp); (try simp only [maxLen]); (try omega)
      case m2 => (try simp); (try simp only [maxLen]); (try omega)
      case m3 =>
        intro w8 g hs2
        clear hs
        replace hs2 := hs2.nilInts .i64 2
        go_wp2_with fail
        refine wp_loopM [none, none, none, none, none, none, none, none, none, none, none, none, none, none, none, none, none, none, none, none, none, some 21, some 22, none, none, none, none, none, none, none, none, none, none, none, none, none, none, none, none, none, none, none, none, none, none, none, none, none, none, none, none, none, none, none, none, none, none, none, none, none, none, none, none, none, none, none, none, none, none, none, none, none, none, none, none, none, none, none, none, none, none, none, none, none, none, none, none, none, none, none, none, none, none, none, none, none, none, none, none, none, none, none, none, none, none, none, none, none, none, none, none, some 111, some 112, some 113, some 114, some 115, some 116, some 117, some 118, some 119, some 120, some 121, some 122, some 123, some 124, some 125, some 126, some 127, some 128, some 129, some 130, some 131, some 132, some 133, some 134, some 135, some 136, some 137, some 138, some 139, some 140, some 141, some 142, some 143, some 144, some 145, some 146, some 147, some 148, some 149, some 150, some 151, some 152, none, none, none, none, none, none, none, none, none, none, none, none, none, none, none, none, none, none, none, none, none, none, none, none, none, none] (fun (r : Nat) (f : Nat → Value) (wr : World) => (fun (v vs : Value) => ∃ (i : Nat) (ao : Option Addr) (co : Nat), v = .int .i64 i ∧ vs = .slice ao i co ∧ i ≤ P.length ∧ r = P.length - i ∧ Sep w wr [intsT .i64 2 (.slice ao i co) (secondL zs P i), intsT .i64 2 (.slice (some ⟨g, 0, none⟩) P.length P.length) (firstL zs P i), recT duR 44 vf LF, intsT .i64 2 (.slice ap P.length cp) P]) (f 22) (f 21)) (P.length) (by kernel_rfl) ?atStart3 ?round3
        case' atStart3 => (try dsimp only [nthV])
        case' round3 =>
          intro gk f wr l hl hrel J2 K2 hJ2 hK2
          (try simp only [mask] at hl)
          generalize f 22 = u22 at hl hrel
          generalize f 21 = u21 at hl hrel
          subst hl
          (try dsimp only at hrel)
        case atStart3 => exact ⟨0, none, 0, rfl, rfl, Nat.zero_le _, rfl, by rw [firstL_start]; exact hs2⟩
        case round3 =>
          clear hs2
          obtain ⟨i, ao, co, rfl, rfl, hi, rfl, hs⟩ := hrel
          by_cases hlt : i < P.length
          · have hpb0 := HOK.out.lo i (by rw [← HOK.out.len]; exact hlt)
            have hpm1 : P.getD i 0 ≤ 4503599627370496 := by
              have hk : i < (openL l).length := by rw [← HOK.out.len]; exact hlt
              have h1 := HOK.out.hi i hk
              have h2 := ((good_open HGO.out) _ (List.getElem_mem hk)).1.x1
              rw [getDu hk] at h1
              omega
            have HPM := Lib.hid hpm1
            obtain ⟨b2, o2, e2, _, hc2⟩ := (hs.rdInts 3 rfl).at i hlt
            subst e2
            by_cases hA : i < zs.length ∧ 1 < P.getD i 0
            · obtain ⟨ha1, ha2⟩ := hA
              have HFP := Lib.hid (firstL_put (zs := zs) hlt)
              have HFS := Lib.hid (show fstP zs P i = zs.getD i 0 % P.getD i 0 by unfold fstP; rw [if_pos ⟨ha1, ha2⟩])
              rw [HFS.out] at HFP
              obtain ⟨b1, o1, e1, _, hc1⟩ := (hs.rd hz).at i ha1
              subst e1
              have hzz := HZW.out _ (getD_mem ha1)
              obtain ⟨g', cg', eg, _, hcR, hfz⟩ := (hs.ints 1 rfl).get i (by rw [firstL_len]; exact hlt)
              injection eg with eg u1 u2
              injection eg with eg
              injection eg with eg
              subst eg
              have hcg := hcR i (by rw [firstL_len]; exact hlt)
              clear u1 u2 hcR
              obtain ⟨z, hzq⟩ : ∃ z, z = zs.getD i 0 := ⟨_, rfl⟩
              obtain ⟨p, hp⟩ : ∃ p, p = P.getD i 0 := ⟨_, rfl⟩
              rw [← hzq] at hc1 hzz HFP
              rw [← hp] at hc2 hpb0 hpm1 ha2 HFP
              clear hzq hp HFS
              obtain ⟨z0, z1⟩ := hzz
              have m0 := Int.emod_nonneg z (show p ≠ 0 by omega)
              have m1 := Int.emod_lt_of_pos z (show 0 < p by omega)
              have hp0 : ¬ p = 0 := by omega
              have haI : (i : Int) < zs.length := by omega
              have hi2 : (i : Int) < P.length := by omega
              go_wp2_with fail
              refine Mix.region [0, 0, 0, 0, 0, 0, 0, 0, 0, 0, 0, 0, 0, 2] (fun _ => True) (by kernel_rfl) (by kernel_rfl) trivial ?_
              simp only [List.zip_cons_cons, List.zip_nil_right]
              iterate 13 (refine Mix.step0 fun K hK => ?_; go_simp; (try (go_bits; try go_simp)); first | ((with_reducible refine hK _ _ ?_); clear hK K) | ((try (simp only [IntWalk.iteOmega]; try go_simp)); (try go_bits); (with_reducible refine hK _ _ ?_); clear hK K))
              refine Mix.step2n (by first | rfl | simp [Region.wanted, yielded]) fun K hK => ?_
              go_wp2_with fail
              refine Mix.post_mk (C := (fun _ => True)) trivial (hK _ _ ?_)
              clear hK K
              refine Mix.done ?_
              have hs2 := (hs.setInts (k := .i64) (j := i) 1 rfl (z % p)).drew
              simp only [List.set_cons_succ, List.set_cons_zero] at hs2
              rw [HFP.out] at hs2
              clear hs hc1 hc2 HFP m0 m1 z0 z1 hp0 hpm1 ha2 hpb0 hfz hcg
              go_upto_region 27 with fail
              generalize World.drew _ = W1 at hs2 ⊢
              have hs := hs2
              clear hs2
              have y0 := ((hs.rdInts 3 rfl).at i hlt)
              obtain ⟨_, _, ep, _, y0⟩ := y0
              injection ep with ep
              injection ep with ep1 ep2
              subst ep1
              subst ep2
              have f0 := ((hs.rdInts 1 rfl).at i (by rw [firstL_len]; exact hlt))
              obtain ⟨_, _, ef, _, f0⟩ := f0
              injection ef with ef
              injection ef with ef1 ef2
              subst ef1
              subst ef2
              rw [firstL_at hlt, if_pos (Nat.lt_succ_self i), Nat.zero_add] at f0
              have HS2 := Lib.hid (secondL_succ zs P i)
              have HSN := Lib.hid (show sndP zs P i = P.getD i 0 - fstP zs P i from rfl)
              obtain ⟨p1, hp1⟩ : ∃ p1, p1 = P.getD i 0 := ⟨_, rfl⟩
              obtain ⟨q1, hq1⟩ : ∃ q1, q1 = fstP zs P i := ⟨_, rfl⟩
              have hfb1 := fst_bound (zs := zs) (fun k hk => HOK.out.lo k (by rw [← HOK.out.len]; exact hk)) hlt
              rw [← hp1, ← hq1] at hfb1
              have hpm2 := HPM.out
              rw [← hp1] at y0 HSN hpm2
              rw [← hq1] at f0 HSN
              rw [HSN.out] at HS2
              clear hp1 hq1 HSN
              have hx1 : p1 ≤ 4503599627370496 := hpm2
              obtain ⟨g1, g2, _⟩ := hfb1
              have hsa := (hs.alloc (.cells #[.int .i64 (p1 - q1)] 2)).drew
              have HB1 := Lib.hid (show (W1.alloc (.cells #[.int .i64 (p1 - q1)] 2)).drew.heap[W1.heap.size]? = some (.cells #[.int .i64 (p1 - q1)] 2 (0, 0)) from heap_alloc_new W1 _)
              have hCW : (fun _ : World => True) W1 := trivial
              go_wp2_with fail
              refine Mix.region [1, 0, 0, 0, 0, 0, 0, 0, 0, 0, 2, 2, 0] (fun _ => True) (by kernel_rfl) (by kernel_rfl) trivial ?_
              simp only [List.zip_cons_cons, List.zip_nil_right]
              iterate 1 (refine Mix.step1 fun K hK => ?_; go_simp; (try (go_bits; try go_simp)); first | ((with_reducible refine hK _ _ ?_); clear hK K) | ((try (simp only [IntWalk.iteOmega]; try go_simp)); (try go_bits); (with_reducible refine hK _ _ ?_); clear hK K))
              iterate 9 (refine Mix.step0 fun K hK => ?_; go_simp; (try (go_bits; try go_simp)); first | ((with_reducible refine hK _ _ ?_); clear hK K) | ((try (simp only [IntWalk.iteOmega]; try go_simp)); (try go_bits); (with_reducible refine hK _ _ ?_); clear hK K))
              refine Mix.step2n (by first | rfl | simp [Region.wanted, yielded]) fun K hK => ?_
              go_wp2_with fail
              refine Mix.post_mk (C := (fun _ => True)) trivial (hK _ _ ?_)
              clear hK K
              refine Mix.step2n (by first | rfl | simp [Region.wanted, yielded]) fun K hK => ?_
              refine wpList_appIntB rfl (.tmp 141) (.tmp 151) 23 rfl 2 i0 _ 8 Try.underlying23 hi0 hz0 hz1 hz2 rfl _ (secondL zs P i) .i64 (p1 - q1) hsa 0 rfl W1.heap.size HB1.out rfl rfl (by rw [secondL_len]; unfold maxLen; omega) (by rw [secondL_len]; omega) ?_
              intro v' w2 hs2 hsh
              obtain ⟨g', cap, rfl⟩ := hsh.out
              rw [← HS2.out] at hs2
              rw [secondL_len] at hs2 ⊢
              simp only [List.set_cons_zero] at hs2
              clear hs hsa HB1 y0 f0
              go_wp2_with fail
              refine Mix.post_mk (C := (fun _ => True)) trivial (hK _ _ ?_)
              clear hK K
              iterate 1 (refine Mix.step0 fun K hK => ?_; go_simp; (try (go_bits; try go_simp)); first | ((with_reducible refine hK _ _ ?_); clear hK K) | ((try (simp only [IntWalk.iteOmega]; try go_simp)); (try go_bits); (with_reducible refine hK _ _ ?_); clear hK K))
              refine Mix.done ?_
              go_wp2_with fail
              refine Round.intro (P.length - (i + 1)) ?measure4 (by kernel_rfl) (hJ2 _ _ _ ?rel4)
              case' rel4 => (try dsimp only [nthV])
              case measure4 => omega
              case rel4 => exact ⟨i + 1, _, _, by go_num, rfl, hlt, rfl, hs2⟩
            · have HFK := Lib.hid (firstL_skip (show fstP zs P i = 0 by unfold fstP; rw [if_neg hA]))
              obtain ⟨W1, hW1⟩ : ∃ W1, W1 = wr := ⟨_, rfl⟩
              by_cases ha1 : i < zs.length
              · have ha2 : ¬ 1 < P.getD i 0 := fun e => hA ⟨ha1, e⟩
                obtain ⟨p, hp⟩ : ∃ p, p = P.getD i 0 := ⟨_, rfl⟩
                rw [← hp] at hc2 hpb0 hpm1 ha2
                clear hp hA
                have haI : (i : Int) < zs.length := by omega
                go_upto_region 27 with fail
                rw [HFK.out] at hs
                clear hc2 hpb0 hpm1 ha2
                rw [← hW1] at hs ⊢
                clear hW1
                have y0 := ((hs.rdInts 3 rfl).at i hlt)
                obtain ⟨_, _, ep, _, y0⟩ := y0
                injection ep with ep
                injection ep with ep1 ep2
                subst ep1
                subst ep2
                have f0 := ((hs.rdInts 1 rfl).at i (by rw [firstL_len]; exact hlt))
                obtain ⟨_, _, ef, _, f0⟩ := f0
                injection ef with ef
                injection ef with ef1 ef2
                subst ef1
                subst ef2
                rw [firstL_at hlt, if_pos (Nat.lt_succ_self i), Nat.zero_add] at f0
                have HS2 := Lib.hid (secondL_succ zs P i)
                have HSN := Lib.hid (show sndP zs P i = P.getD i 0 - fstP zs P i from rfl)
                obtain ⟨p1, hp1⟩ : ∃ p1, p1 = P.getD i 0 := ⟨_, rfl⟩
                obtain ⟨q1, hq1⟩ : ∃ q1, q1 = fstP zs P i := ⟨_, rfl⟩
                have hfb1 := fst_bound (zs := zs) (fun k hk => HOK.out.lo k (by rw [← HOK.out.len]; exact hk)) hlt
                rw [← hp1, ← hq1] at hfb1
                have hpm2 := HPM.out
                rw [← hp1] at y0 HSN hpm2
                rw [← hq1] at f0 HSN
                rw [HSN.out] at HS2
                clear hp1 hq1 HSN
                have hx1 : p1 ≤ 4503599627370496 := hpm2
                obtain ⟨g1, g2, _⟩ := hfb1
                have hsa := (hs.alloc (.cells #[.int .i64 (p1 - q1)] 2)).drew
                have HB1 := Lib.hid (show (W1.alloc (.cells #[.int .i64 (p1 - q1)] 2)).drew.heap[W1.heap.size]? = some (.cells #[.int .i64 (p1 - q1)] 2 (0, 0)) from heap_alloc_new W1 _)
                have hCW : (fun _ : World => True) W1 := trivial
                go_wp2_with fail
                refine Mix.region [1, 0, 0, 0, 0, 0, 0, 0, 0, 0, 2, 2, 0] (fun _ => True) (by kernel_rfl) (by kernel_rfl) trivial ?_
                simp only [List.zip_cons_cons, List.zip_nil_right]
                iterate 1 (refine Mix.step1 fun K hK => ?_; go_simp; (try (go_bits; try go_simp)); first | ((with_reducible refine hK _ _ ?_); clear hK K) | ((try (simp only [IntWalk.iteOmega]; try go_simp)); (try go_bits); (with_reducible refine hK _ _ ?_); clear hK K))
                iterate 9 (refine Mix.step0 fun K hK => ?_; go_simp; (try (go_bits; try go_simp)); first | ((with_reducible refine hK _ _ ?_); clear hK K) | ((try (simp only [IntWalk.iteOmega]; try go_simp)); (try go_bits); (with_reducible refine hK _ _ ?_); clear hK K))
                refine Mix.step2n (by first | rfl | simp [Region.wanted, yielded]) fun K hK => ?_
                go_wp2_with fail
                refine Mix.post_mk (C := (fun _ => True)) trivial (hK _ _ ?_)
                clear hK K
                refine Mix.step2n (by first | rfl | simp [Region.wanted, yielded]) fun K hK => ?_
                refine wpList_appIntB rfl (.tmp 141) (.tmp 151) 23 rfl 2 i0 _ 8 Try.underlying23 hi0 hz0 hz1 hz2 rfl _ (secondL zs P i) .i64 (p1 - q1) hsa 0 rfl W1.heap.size HB1.out rfl rfl (by rw [secondL_len]; unfold maxLen; omega) (by rw [secondL_len]; omega) ?_
                intro v' w2 hs2 hsh
                obtain ⟨g', cap, rfl⟩ := hsh.out
                rw [← HS2.out] at hs2
                rw [secondL_len] at hs2 ⊢
                simp only [List.set_cons_zero] at hs2
                clear hs hsa HB1 y0 f0
                go_wp2_with fail
                refine Mix.post_mk (C := (fun _ => True)) trivial (hK _ _ ?_)
                clear hK K
                iterate 1 (refine Mix.step0 fun K hK => ?_; go_simp; (try (go_bits; try go_simp)); first | ((with_reducible refine hK _ _ ?_); clear hK K) | ((try (simp only [IntWalk.iteOmega]; try go_simp)); (try go_bits); (with_reducible refine hK _ _ ?_); clear hK K))
                refine Mix.done ?_
                go_wp2_with fail
                refine Round.intro (P.length - (i + 1)) ?measure5 (by kernel_rfl) (hJ2 _ _ _ ?rel5)
                case' rel5 => (try dsimp only [nthV])
                case measure5 => omega
                case rel5 => exact ⟨i + 1, _, _, by go_num, rfl, hlt, rfl, hs2⟩
              · clear hA
                go_upto_region 27 with fail
                rw [HFK.out] at hs
                rw [← hW1] at hs ⊢
                clear hW1 hc2 hpb0 hpm1
                have y0 := ((hs.rdInts 3 rfl).at i hlt)
                obtain ⟨_, _, ep, _, y0⟩ := y0
                injection ep with ep
                injection ep with ep1 ep2
                subst ep1
                subst ep2
                have f0 := ((hs.rdInts 1 rfl).at i (by rw [firstL_len]; exact hlt))
                obtain ⟨_, _, ef, _, f0⟩ := f0
                injection ef with ef
                injection ef with ef1 ef2
                subst ef1
                subst ef2
                rw [firstL_at hlt, if_pos (Nat.lt_succ_self i), Nat.zero_add] at f0
                have HS2 := Lib.hid (secondL_succ zs P i)
                have HSN := Lib.hid (show sndP zs P i = P.getD i 0 - fstP zs P i from rfl)
                obtain ⟨p1, hp1⟩ : ∃ p1, p1 = P.getD i 0 := ⟨_, rfl⟩
                obtain ⟨q1, hq1⟩ : ∃ q1, q1 = fstP zs P i := ⟨_, rfl⟩
                have hfb1 := fst_bound (zs := zs) (fun k hk => HOK.out.lo k (by rw [← HOK.out.len]; exact hk)) hlt
                rw [← hp1, ← hq1] at hfb1
                have hpm2 := HPM.out
                rw [← hp1] at y0 HSN hpm2
                rw [← hq1] at f0 HSN
                rw [HSN.out] at HS2
                clear hp1 hq1 HSN
                have hx1 : p1 ≤ 4503599627370496 := hpm2
                obtain ⟨g1, g2, _⟩ := hfb1
                have hsa := (hs.alloc (.cells #[.int .i64 (p1 - q1)] 2)).drew
                have HB1 := Lib.hid (show (W1.alloc (.cells #[.int .i64 (p1 - q1)] 2)).drew.heap[W1.heap.size]? = some (.cells #[.int .i64 (p1 - q1)] 2 (0, 0)) from heap_alloc_new W1 _)
                have hCW : (fun _ : World => True) W1 := trivial
                go_wp2_with fail
                refine Mix.region [1, 0, 0, 0, 0, 0, 0, 0, 0, 0, 2, 2, 0] (fun _ => True) (by kernel_rfl) (by kernel_rfl) trivial ?_
                simp only [List.zip_cons_cons, List.zip_nil_right]
                iterate 1 (refine Mix.step1 fun K hK => ?_; go_simp; (try (go_bits; try go_simp)); first | ((with_reducible refine hK _ _ ?_); clear hK K) | ((try (simp only [IntWalk.iteOmega]; try go_simp)); (try go_bits); (with_reducible refine hK _ _ ?_); clear hK K))
                iterate 9 (refine Mix.step0 fun K hK => ?_; go_simp; (try (go_bits; try go_simp)); first | ((with_reducible refine hK _ _ ?_); clear hK K) | ((try (simp only [IntWalk.iteOmega]; try go_simp)); (try go_bits); (with_reducible refine hK _ _ ?_); clear hK K))
                refine Mix.step2n (by first | rfl | simp [Region.wanted, yielded]) fun K hK => ?_
                go_wp2_with fail
                refine Mix.post_mk (C := (fun _ => True)) trivial (hK _ _ ?_)
                clear hK K
                refine Mix.step2n (by first | rfl | simp [Region.wanted, yielded]) fun K hK => ?_
                refine wpList_appIntB rfl (.tmp 141) (.tmp 151) 23 rfl 2 i0 _ 8 Try.underlying23 hi0 hz0 hz1 hz2 rfl _ (secondL zs P i) .i64 (p1 - q1) hsa 0 rfl W1.heap.size HB1.out rfl rfl (by rw [secondL_len]; unfold maxLen; omega) (by rw [secondL_len]; omega) ?_
                intro v' w2 hs2 hsh
                obtain ⟨g', cap, rfl⟩ := hsh.out
                rw [← HS2.out] at hs2
                rw [secondL_len] at hs2 ⊢
                simp only [List.set_cons_zero] at hs2
                clear hs hsa HB1 y0 f0
                go_wp2_with fail
                refine Mix.post_mk (C := (fun _ => True)) trivial (hK _ _ ?_)
                clear hK K
                iterate 1 (refine Mix.step0 fun K hK => ?_; go_simp; (try (go_bits; try go_simp)); first | ((with_reducible refine hK _ _ ?_); clear hK K) | ((try (simp only [IntWalk.iteOmega]; try go_simp)); (try go_bits); (with_reducible refine hK _ _ ?_); clear hK K))
                refine Mix.done ?_
                go_wp2_with fail
                refine Round.intro (P.length - (i + 1)) ?measure6 (by kernel_rfl) (hJ2 _ _ _ ?rel6)
                case' rel6 => (try dsimp only [nthV])
                case measure6 => omega
                case rel6 => exact ⟨i + 1, _, _, by go_num, rfl, hlt, rfl, hs2⟩
          · obtain rfl : i = P.length := by omega
            clear hi hlt
            obtain ⟨t1, t2, t3⟩ := HPT.out
            have HT1 := Lib.hid t1
            have HT2 := Lib.hid t2
            have HT3 := Lib.hid t3
            have HE1 := Lib.hid (PayOk.leftE t1)
            have HE2 := Lib.hid (PayOk.leftE t2)
            have HG1 := Lib.hid (leftL_good HGO.out t1)
            clear t1 t2 t3 HPT
            have hfl := firstL_len zs P P.length
            obtain ⟨FL, hFL⟩ : ∃ FL, FL = firstL zs P P.length := ⟨_, rfl⟩
            obtain ⟨SL, hSL⟩ : ∃ SL, SL = secondL zs P P.length := ⟨_, rfl⟩
            rw [← hFL] at hs HT1 HT2 HT3 HE1 HE2 HG1 hfl
            rw [← hSL] at hs HT2 HT3 HE2
            clear hFL hSL hfl
            go_wp2_with fail
            refine (oleft_any l FL _ _ _ (hs.rdG h) (hs.rdInts 1 rfl) (hs.ints 1 rfl).capO (by omega) (good_x HGO.out)).mono ?_
            intro en w9 hP
            obtain ⟨va, rfl, k1⟩ := LeftD.yes hP HE1.out
            clear hP
            replace hs := hs.join k1
            simp only [List.cons_append, List.nil_append] at hs
            clear k1
            go_wp2_with fail
            refine (oleft_any _ SL _ _ _ (hs.rdRecs 0 rfl) (hs.rdInts 1 rfl) (hs.ints 1 rfl).capO (by have := HG1.out.len; omega) (good_x HG1.out)).mono ?_
            intro en w10 hP
            obtain ⟨vb, rfl, k1⟩ := LeftD.yes hP HE2.out
            clear hP
            rw [HT3.out] at k1
            replace hs := hs.join k1
            simp only [List.cons_append, List.nil_append] at hs
            clear k1
            go_wp2_with fail
            refine (sameD_eq _ _ _ _ (hs.rdRecs 0 rfl) (hs.rdRecs 4 rfl)).mono ?_
            rintro en w11 ⟨rfl, hb⟩
            replace hs := hs.belowStep hb
            clear hb
            go_wp2_with fail
            refine (oworks_any _).mono ?_
            rintro en w9 ⟨rfl, hb⟩
            go_wp2_with fail
            go_ret
            exact ⟨rfl, (hs.belowStep hb).below⟩
end Go.Proofs.Ytjijhpflkkicaaa
