/-
 Package build and its reference, walked (3).
-/
import Derived.Test.YtjijhpflkkicaaaBB
import Derived.Test.YtjijhpflkkicaaaLD
set_option linter.unusedVariables false
set_option linter.unusedSimpArgs false
namespace Go.BuildP
open Go Go.RowKit Go.Mem Go.MoneyP Go.NetP
theorem right_parts {rooms : List Int} {l : List Du} (h : rightR rooms l = true) : rooms.length ≤ 16 ∧ l.length ≤ 64 ∧ mays rooms = true ∧ (∀ d ∈ l, MayD d ∧ d.f < rooms.length ∧ d.t < rooms.length) ∧ (l.map (·.x)).sum ≤ 4503599627370496 := by
 unfold rightR at h
 simp only [Bool.and_eq_true, decide_eq_true_eq] at h
 obtain ⟨⟨⟨⟨h1, h2⟩, h3⟩, h4⟩, h5⟩ := h
 refine ⟨h1, h2, h3, fun d hd => ?_, h5⟩
 have := List.all_eq_true.1 h4 d hd
 simp only [Bool.and_eq_true, inD, decide_eq_true_eq] at this
 exact ⟨(mayD_iff d).1 this.1, this.2.1, this.2.2⟩
theorem open_sum {l : List Du} (h : ∀ d ∈ l, MayD d) : ((openL l).map (·.x)).sum ≤ (l.map (·.x)).sum := by
 induction l with
 | nil => simp [openL]
 | cons d t ih =>
  have h1 := (h d List.mem_cons_self).x0
  have ih := ih (fun q hq => h q (List.mem_cons_of_mem _ hq))
  unfold openL at ih ⊢
  rw [List.filter_cons]
  split
  ·simp only [List.map_cons, List.sum_cons]; omega
  ·simp only [List.map_cons, List.sum_cons]; omega
theorem zip_fst : ∀ {O : List Du} {ps : List Int}, O.length = ps.length → (O.zip ps).map (·.1.x) = O.map (·.x)
 | [], _, _ => by simp
 | d :: t, [], h => by simp at h
 | d :: t, p :: ps, h => by simp [zip_fst (O := t) (ps := ps) (by simpa using h)]
/-- The dues that are open, and what is paid of each, in a round that may be. -/
structure RoundQ (n : Nat) (O : List Du) (ps : List Int) : Prop where
 len : O.length = ps.length
 n16 : n ≤ 16
 o64 : O.length ≤ 64
 may : ∀ q ∈ O.zip ps, MayD q.1 ∧ q.1.f < n ∧ q.1.t < n
 sum : ((O.zip ps).map (·.1.x)).sum ≤ 4503599627370496
theorem roundQ {rooms : List Int} {l : List Du} {ps : List Int} (h : rightR rooms l = true) (hl : (openL l).length = ps.length) : RoundQ rooms.length (openL l) ps := by
 obtain ⟨h1, h2, h3, h4, h5⟩ := right_parts h
 refine ⟨hl, h1, Nat.le_trans (open_le l) h2, fun q hq => ?_, ?_⟩
 ·have := (List.of_mem_zip hq).1
  exact h4 _ (List.mem_filter.1 this).1
 ·rw [zip_fst hl]
  have := open_sum (fun d hd => (h4 d hd).1)
  omega
theorem sum_take_q {n : Nat} {O : List Du} {ps : List Int} (h : RoundQ n O ps) (i : Nat) : (((O.zip ps).take i).map (·.1.x)).sum ≤ 4503599627370496 := by
 have h1 := h.sum
 have h2 : ((O.zip ps).map (·.1.x)).sum = (((O.zip ps).take i).map (·.1.x)).sum + (((O.zip ps).drop i).map (·.1.x)).sum := by
  rw [← List.sum_append, ← List.map_append, List.take_append_drop]
 have h3 : 0 ≤ (((O.zip ps).drop i).map (·.1.x)).sum := sum_nonneg fun x hx => by
  obtain ⟨q, hq, rfl⟩ := List.mem_map.1 hx
  have := (h.may q (List.mem_of_mem_drop hq)).1.x0
  omega
 omega
/-- One pay more. -/
theorem out_step {n : Nat} {O : List Du} {ps : List Int} (h : RoundQ n O ps) {i : Nat} (hi : i < O.length) : outQ n ((O.zip ps).take (i + 1)) = stepO (outQ n ((O.zip ps).take i)) (O[i], ps.getD i 0) := by
 obtain ⟨hz, he⟩ := zip_at h.len hi
 unfold outQ
 rw [List.take_succ_eq_append_getElem hz, List.foldl_append, he]
 rfl
theorem out_near {n : Nat} {O : List Du} {ps : List Int} (h : RoundQ n O ps) (i : Nat) (ha : ((O.zip ps).take i).all payB = true) (j : Nat) : -4503599627370496 ≤ (outQ n ((O.zip ps).take i)).getD j 0 ∧ (outQ n ((O.zip ps).take i)).getD j 0 ≤ 4503599627370496 := by
 have hb := out_bound (n := n) ((O.zip ps).take i) (List.replicate n 0) (by simp) (fun q hq => h.may q (List.mem_of_mem_take hq)) ha j
 have hs := sum_take_q h i
 have h0 : (List.replicate n (0 : Int)).getD j 0 = 0 := by
  rw [List.getD_eq_getElem?_getD]
  by_cases hj : j < n <;> simp [hj]
 rw [h0] at hb
 unfold outQ
 omega
theorem outQ_len (n : Nat) (Q : List (Du × Int)) : (outQ n Q).length = n := by unfold outQ; rw [out_len]; simp
theorem pay_step {n : Nat} {O : List Du} {ps : List Int} (h : RoundQ n O ps) {i : Nat} (hi : i < O.length) (ha : ((O.zip ps).take i).all payB = true) (hp : payB (O[i], ps.getD i 0) = true) : ((O.zip ps).take (i + 1)).all payB = true := by
 obtain ⟨hz, he⟩ := zip_at h.len hi
 rw [List.take_succ_eq_append_getElem hz, List.all_append, ha, he]
 simp only [List.all_cons, List.all_nil, Bool.and_true, Bool.true_and, hp]
theorem pay_stop {rooms : List Int} {c : Bool} {O : List Du} {ps : List Int} (h : O.length = ps.length) {i : Nat} (hi : i < O.length) (hp : payB (O[i], ps.getD i 0) = false) : permitQ rooms (O.zip ps) c = false := by
 obtain ⟨hz, he⟩ := zip_at h hi
 have : (O.zip ps).all payB = false := by
  rw [List.all_eq_false]
  exact ⟨_, List.getElem_mem hz, by rw [he, hp]; decide⟩
 simp [permitQ, this]
theorem fit_stop {rooms : List Int} {c : Bool} {Q : List (Du × Int)} {i : Nat} (hi : i < rooms.length) (hf : fitI rooms c (outQ rooms.length Q) i = false) : permitQ rooms Q c = false := by
 have : (List.range rooms.length).all (fitI rooms c (outQ rooms.length Q)) = false := by
  rw [List.all_eq_false]
  exact ⟨i, List.mem_range.2 hi, by simp [hf]⟩
 simp [permitQ, this]
theorem fit_all {rooms : List Int} {c : Bool} {Q : List (Du × Int)} (h1 : Q.all payB = true) (h2 : ∀ i, i < rooms.length → fitI rooms c (outQ rooms.length Q) i = true) : permitQ rooms Q c = true := by
 have : (List.range rooms.length).all (fitI rooms c (outQ rooms.length Q)) = true := List.all_eq_true.2 fun i hi => h2 i (List.mem_range.1 hi)
 simp [permitQ, this, h1]
end Go.BuildP
namespace Go.Proofs.Ytjijhpflkkicaaa
open Go Go.RowKit Go.Mem Go.MoneyP Go.NetP Go.BuildP
set_option maxHeartbeats 4000000 in
set_option maxRecDepth 100000 in
theorem rpermit_any (rooms : List Int) (l : List Du) (c : Bool) (ps : List Int) (vr vl vp : Value) (w : World) (hr : Rd .i64 w vr rooms) (h : RdG duR w vl l) (hp : Rd .i64 w vp ps) (hsm : l.length ≤ 1000) :
  Calls Try.prog 25 #[vr, vl, .bool c, vp] w fun en w' => en = .returned (.bool (permitB rooms l c ps)) ∧ Below w.heap.size w w' := by
 obtain ⟨i0, hi0, hz0, hz1, hz2⟩ := info_parts Try.infoI64b
 obtain ⟨ar, cr, rfl⟩ := hr.shape
 obtain ⟨ap, cp, rfl⟩ := hp.shape
 have hle := hr.le'
 have hlp := hp.le'
 go_enter Try.func25, Try.ntmps25
 go_wp2_with fail
 refine (ropen_any l vl _ h hsm).mono ?_
 rintro en w1 ⟨uo, rfl, hs⟩
 obtain ⟨O, hO⟩ : ∃ O, O = openL l := ⟨_, rfl⟩
 rw [← hO] at hs
 have hol : O.length ≤ 1000 := by rw [hO]; exact Nat.le_trans (open_le l) hsm
 obtain ⟨ao, co, rfl⟩ := (hs.rdRecs 0 rfl).shape
 have HO := Lib.hid hO
 clear hO
 have RR := Lib.hid (brright_any rooms l _ vl _ (hs.rd hr) (hs.rdG h))
 cases hrt : rightR rooms l
 ·rw [hrt] at RR
  have HE := Lib.hid (show permitB rooms l c ps = false by simp [permitB, hrt])
  clear hrt
  go_wp2_with fail
  refine (RR.out).mono ?_
  rintro en w2 ⟨rfl, hb⟩
  go_wp2_with fail
  go_ret
  exact ⟨by rw [HE.out]; rfl, (hs.belowStep hb).below⟩
 rw [hrt] at RR
 by_cases hlen : O.length = ps.length
 rotate_left
 ·have HE := Lib.hid (show permitB rooms l c ps = false by simp [permitB, ← HO.out, hlen])
  have eL : ((O.length : Int) != (ps.length : Int)) = true := by simpa using (fun q => hlen (by omega))
  clear hrt hlen
  go_wp2_with fail
  refine (RR.out).mono ?_
  rintro en w2 ⟨rfl, hb⟩
  go_wp2_with fail
  go_ret
  exact ⟨by rw [HE.out]; rfl, (hs.belowStep hb).below⟩
 have HPE := Lib.hid (show permitB rooms l c ps = permitQ rooms (O.zip ps) c by simp [permitB, hrt, ← HO.out, hlen])
 have HRQ := Lib.hid (show RoundQ rooms.length O ps by rw [HO.out] at hlen ⊢; exact roundQ hrt hlen)
 have hn16 := HRQ.out.n16
 have eL : ((ps.length : Int) != (ps.length : Int)) = false := by simp
 have HLEN := Lib.hid hlen
 rw [hlen] at hs hol ⊢
 clear hrt hlen HO
 go_wp2_with fail
 refine (RR.out).mono ?_
 rintro en w2 ⟨rfl, hb⟩
 replace hs := hs.belowStep hb
 clear hb RR
 go_wp2_with (at_make; refine wpList_makeInts rfl (.tmp 27) (.tmp 27) 23 rfl 2 i0 .i64 8 Try.underlying23 hi0 hz0 hz1 hz2 rooms.length .i64 .i64 rfl rfl hs ?m1 ?m2 ?m3)
 case m1 => unfold maxLen; omega
 case m2 => omega
 case m3 =>
  intro w3 g hs3
  clear hs
  go_wp2_with fail
  refine wp_loopM [none, none, none, none, none, none, none, none, some 8, none, none, some 11, none, none, none, none, none, none, none, none, none, none, none, none, none, none, none, none, none, some 29, some 30, some 31, some 32, some 33, some 34, some 35, some 36, some 37, some 38, some 39, some 40, some 41, some 42, some 43, some 44, some 45, some 46, some 47, some 48, some 49, some 50, some 51, some 52, some 53, some 54, some 55, some 56, some 57, some 58, some 59, some 60, some 61, some 62, some 63, some 64, some 65, some 66, some 67, some 68, some 69, some 70, some 71, some 72, some 73, some 74, some 75, some 76, some 77, some 78, some 79, none, none, none, none, none, none, none, none, none, none, none, none, none, none, none, none, none, none, none, none, none, none, none, none, none] (fun (r : Nat) (f : Nat → Value) (wr : World) => (fun (v : Value) => ∃ (i : Nat) (OX : List Int), v = .int .i64 i ∧ i ≤ ps.length ∧ r = ps.length - i ∧ Hid (OX = outQ rooms.length ((O.zip ps).take i) ∧ ((O.zip ps).take i).all payB = true) ∧ Sep w wr [intsT .i64 2 (.slice (some ⟨g, 0, none⟩) rooms.length rooms.length) OX, recT duR 44 (.slice ao ps.length co) O]) (f 11)) (ps.length) (by kernel_rfl) ?atStart1 ?round1
  case' atStart1 => (try dsimp only [nthV])
  case' round1 =>
   intro gk f wr l hl hrel J1 K1 hJ1 hK1
   (try simp only [mask] at hl)
   generalize f 11 = u11 at hl hrel
   subst hl
   (try dsimp only at hrel)
  case atStart1 => exact ⟨0, _, rfl, Nat.zero_le _, rfl, Lib.hid ⟨rfl, rfl⟩, hs3⟩
  case round1 =>
   clear hs3
   obtain ⟨i, OX, rfl, hi, rfl, HI, hs⟩ := hrel
   by_cases hlt : i < ps.length
   ·have hlo : i < O.length := by rw [HLEN.out]; exact hlt
    obtain ⟨b1, o1, e1, hb1, hc1⟩ := ((hs.drew).rdRecs 1 rfl).at i hlo
    subst e1
    obtain ⟨b2, o2, e2, hb2, hc2⟩ := ((hs.drew).rd hp).at i hlt
    subst e2
    obtain ⟨hz, hze⟩ := zip_at HRQ.out.len hlo
    have hmay := HRQ.out.may _ (List.getElem_mem hz)
    rw [hze] at hmay
    have HST := Lib.hid (out_step HRQ.out hlo)
    have HPS := Lib.hid (fun hpb => pay_step HRQ.out hlo HI.out.2 hpb)
    have HPX := Lib.hid (fun hpb => pay_stop (rooms := rooms) (c := c) HRQ.out.len hlo hpb)
    obtain ⟨x, hx⟩ : ∃ x, x = O[i] := ⟨_, rfl⟩
    obtain ⟨P, hP⟩ : ∃ P, P = ps.getD i 0 := ⟨_, rfl⟩
    rw [← hx, ← hP] at HST HPS HPX hmay
    rw [← hx] at hc1
    rw [← hP] at hc2
    have HXX := Lib.hid hx
    have HPP := Lib.hid hP
    clear hx hP hz hze
    obtain ⟨id, f, t, xx, we, u, hh⟩ := x
    have x0 := hc1 0 (by decide)
    have x1 := hc1 1 (by decide)
    have x2 := hc1 2 (by decide)
    have x3 := hc1 3 (by decide)
    have x4 := hc1 4 (by decide)
    have x5 := hc1 5 (by decide)
    have x6 := hc1 6 (by decide)
    simp only [duR, Nat.add_zero, List.getElem?_cons_zero, List.getElem?_cons_succ] at x0 x1 x2 x3 x4 x5 x6
    clear hc1
    obtain ⟨hm1, hm2, hm3⟩ := hmay
    have HM := Lib.hid hm1
    obtain ⟨hf0, _, ht0, _, hne, _, hxb, _, _, _⟩ := hm1
    dsimp only at hm2 hm3 hf0 ht0 hne hxb
    by_cases hp0 : 0 ≤ P
    rotate_left
    ·have HE := Lib.hid (HPX.out (by simp [payB]; intro q; exact absurd q hp0))
     have e1 : decide (P < 0) = true := decide_eq_true (by omega)
     clear hp0
     go_wp2_with fail
     refine Mix.region [0, 0, 0, 0, 0, 0, 0, 0, 0, 0, 0, 0, 0, 0, 0, 0, 0] (fun _ => True) (by kernel_rfl) (by kernel_rfl) trivial ?_
     simp only [List.zip_cons_cons, List.zip_nil_right]
     iterate 6 (refine Mix.step0 fun K hK => ?_; go_simp; (try (go_bits; try go_simp)); first | ((with_reducible refine hK _ _ ?_); clear hK K) | ((try (simp only [IntWalk.iteOmega]; try go_simp)); (try go_bits); (with_reducible refine hK _ _ ?_); clear hK K))
     iterate 10 (first | (refine Mix.stepS rfl fun K hK => ?_; go_simp; (with_reducible refine hK _ _ ?_); clear hK K) | (refine Mix.step0 fun K hK => ?_; go_simp; (try (go_bits; try go_simp)); first | ((with_reducible refine hK _ _ ?_); clear hK K) | ((try (simp only [IntWalk.iteOmega]; try go_simp)); (try go_bits); (with_reducible refine hK _ _ ?_); clear hK K)))
     iterate 1 (refine Mix.step0 fun K hK => ?_; go_simp; (try (go_bits; try go_simp)); first | ((with_reducible refine hK _ _ ?_); clear hK K) | ((try (simp only [IntWalk.iteOmega]; try go_simp)); (try go_bits); (with_reducible refine hK _ _ ?_); clear hK K))
     refine Mix.done ?_
     go_wp2_with fail
     go_ret
     exact ⟨by rw [HPE.out, HE.out]; rfl, hs.drew.below⟩
    have e1 : decide (P < 0) = false := decide_eq_false (by omega)
    by_cases hpx : P ≤ xx
    rotate_left
    ·have HE := Lib.hid (HPX.out (by simp [payB, hpx]))
     have e2 : decide (xx < P) = true := decide_eq_true (by omega)
     clear hp0 hpx
     go_wp2_with fail
     refine Mix.region [0, 0, 0, 0, 0, 0, 0, 0, 0, 0, 0, 0, 0, 0, 0, 0, 0] (fun _ => True) (by kernel_rfl) (by kernel_rfl) trivial ?_
     simp only [List.zip_cons_cons, List.zip_nil_right]
     iterate 6 (refine Mix.step0 fun K hK => ?_; go_simp; (try (go_bits; try go_simp)); first | ((with_reducible refine hK _ _ ?_); clear hK K) | ((try (simp only [IntWalk.iteOmega]; try go_simp)); (try go_bits); (with_reducible refine hK _ _ ?_); clear hK K))
     iterate 10 (first | (refine Mix.stepS rfl fun K hK => ?_; go_simp; (with_reducible refine hK _ _ ?_); clear hK K) | (refine Mix.step0 fun K hK => ?_; go_simp; (try (go_bits; try go_simp)); first | ((with_reducible refine hK _ _ ?_); clear hK K) | ((try (simp only [IntWalk.iteOmega]; try go_simp)); (try go_bits); (with_reducible refine hK _ _ ?_); clear hK K)))
     iterate 1 (refine Mix.step0 fun K hK => ?_; go_simp; (try (go_bits; try go_simp)); first | ((with_reducible refine hK _ _ ?_); clear hK K) | ((try (simp only [IntWalk.iteOmega]; try go_simp)); (try go_bits); (with_reducible refine hK _ _ ?_); clear hK K))
     refine Mix.done ?_
     go_wp2_with fail
     go_ret
     exact ⟨by rw [HPE.out, HE.out]; rfl, hs.drew.below⟩
    have e2 : decide (xx < P) = false := decide_eq_false (by omega)
    have HA := Lib.hid (HPS.out (by simp [payB, hp0, hpx]))
    go_wp2_with fail
    refine Mix.region [0, 0, 0, 0, 0, 0, 0, 0, 0, 0, 0, 0, 0, 0, 0, 0, 0] (fun _ => True) (by kernel_rfl) (by kernel_rfl) trivial ?_
    simp only [List.zip_cons_cons, List.zip_nil_right]
    iterate 6 (refine Mix.step0 fun K hK => ?_; go_simp; (try (go_bits; try go_simp)); first | ((with_reducible refine hK _ _ ?_); clear hK K) | ((try (simp only [IntWalk.iteOmega]; try go_simp)); (try go_bits); (with_reducible refine hK _ _ ?_); clear hK K))
    iterate 10 (first | (refine Mix.stepS rfl fun K hK => ?_; go_simp; (with_reducible refine hK _ _ ?_); clear hK K) | (refine Mix.step0 fun K hK => ?_; go_simp; (try (go_bits; try go_simp)); first | ((with_reducible refine hK _ _ ?_); clear hK K) | ((try (simp only [IntWalk.iteOmega]; try go_simp)); (try go_bits); (with_reducible refine hK _ _ ?_); clear hK K)))
    iterate 1 (refine Mix.step0 fun K hK => ?_; go_simp; (try (go_bits; try go_simp)); first | ((with_reducible refine hK _ _ ?_); clear hK K) | ((try (simp only [IntWalk.iteOmega]; try go_simp)); (try go_bits); (with_reducible refine hK _ _ ?_); clear hK K))
    refine Mix.done ?_
    obtain ⟨F, rfl⟩ : ∃ F : Nat, f = F := ⟨f.toNat, by omega⟩
    obtain ⟨T, rfl⟩ : ∃ T : Nat, t = T := ⟨t.toNat, by omega⟩
    have hF : F < rooms.length := by omega
    have hT : T < rooms.length := by omega
    have hFT : F ≠ T := by omega
    have HOXl := Lib.hid (show OX.length = rooms.length by rw [HI.out.1]; exact outQ_len _ _)
    obtain ⟨g', cg', eg, hg', hcR, hfr⟩ := (hs.drew.ints 0 rfl).get F (by rw [HOXl.out]; exact hF)
    injection eg with eg q1 q2
    injection eg with eg
    injection eg with eg
    subst eg
    have r0 := hcR F (by rw [HOXl.out]; exact hF)
    clear q1 q2
    have hnF := out_near HRQ.out i HI.out.2 F
    have hnT := out_near HRQ.out i HI.out.2 T
    rw [← HI.out.1] at hnF hnT
    obtain ⟨XF, hXF⟩ : ∃ x, x = OX.getD F 0 := ⟨_, rfl⟩
    obtain ⟨XT, hXT⟩ : ∃ x, x = OX.getD T 0 := ⟨_, rfl⟩
    rw [← hXF] at r0 hnF
    rw [← hXT] at hnT
    obtain ⟨n1, n2⟩ := hnF
    obtain ⟨n3, n4⟩ := hnT
    have HST2 := Lib.hid (show outQ rooms.length ((O.zip ps).take (i + 1)) = (OX.set F (XF + P)).set T (XT - P) by
     rw [HST.out, ← HI.out.1]
     unfold stepO
     dsimp only
     rw [show ((F : Int)).toNat = F by omega, show ((T : Int)).toNat = T by omega, getD_set _ _ _ _ (by rw [HOXl.out]; exact hF), if_neg hFT, ← hXF, ← hXT])
    have HXT := Lib.hid (show (OX.set F (XF + P)).getD T 0 = XT by rw [getD_set _ _ _ _ (by rw [HOXl.out]; exact hF), if_neg hFT, hXT])
    clear hXF hXT hcR HST HPS HPX
    go_wp2_with fail
    refine Mix.region [0, 0, 0, 0, 0, 0, 0, 0, 0, 0, 0, 0, 0, 0, 2] (fun _ => True) (by kernel_rfl) (by kernel_rfl) trivial ?_
    simp only [List.zip_cons_cons, List.zip_nil_right]
    iterate 14 (refine Mix.step0 fun K hK => ?_; go_simp; (try (go_bits; try go_simp)); first | ((with_reducible refine hK _ _ ?_); clear hK K) | ((try (simp only [IntWalk.iteOmega]; try go_simp)); (try go_bits); (with_reducible refine hK _ _ ?_); clear hK K))
    refine Mix.step2n (by first | rfl | simp [Region.wanted, yielded]) fun K hK => ?_
    go_wp2_with fail
    refine Mix.post_mk (C := (fun _ => True)) trivial (hK _ _ ?_)
    clear hK K
    refine Mix.done ?_
    have hs2 := (hs.setInts (j := F) 0 rfl (XF + P)).drew.drew
    simp only [List.set_cons_zero] at hs2
    clear hs r0 hfr x0 x1 x2 x3 x4 x5 x6 hg' hb1 hb2 hc2
    generalize World.drew (World.drew _) = W2 at hs2 ⊢
    obtain ⟨g', cg', eg, hg2, hcR, hfr⟩ := (hs2.ints 0 rfl).get T (by rw [List.length_set, HOXl.out]; exact hT)
    injection eg with eg q1 q2
    injection eg with eg
    injection eg with eg
    subst eg
    have r1 := hcR T (by rw [List.length_set, HOXl.out]; exact hT)
    rw [HXT.out] at r1
    obtain ⟨b1', o1', e1', hb1', hc1⟩ := (hs2.rdRecs 1 rfl).at i hlo
    injection e1' with e1'
    injection e1' with q3 q4
    subst q3; subst q4
    rw [← HXX.out] at hc1
    have x0 := hc1 0 (by decide)
    have x1 := hc1 1 (by decide)
    have x2 := hc1 2 (by decide)
    have x3 := hc1 3 (by decide)
    have x4 := hc1 4 (by decide)
    have x5 := hc1 5 (by decide)
    have x6 := hc1 6 (by decide)
    simp only [duR, Nat.add_zero, List.getElem?_cons_zero, List.getElem?_cons_succ] at x0 x1 x2 x3 x4 x5 x6
    clear hc1
    obtain ⟨b2', o2', e2', hb2', hc2⟩ := (hs2.rd hp).at i hlt
    injection e2' with e2'
    injection e2' with q3 q4
    subst q3; subst q4
    rw [← HPP.out] at hc2
    clear q1 q2 hcR hg2 hb1' hb2'
    go_wp2_with fail
    refine Mix.region [0, 0, 0, 0, 0, 0, 0, 0, 0, 0, 0, 0, 0, 0, 2] (fun _ => True) (by kernel_rfl) (by kernel_rfl) trivial ?_
    simp only [List.zip_cons_cons, List.zip_nil_right]
    iterate 14 (refine Mix.step0 fun K hK => ?_; go_simp; (try (go_bits; try go_simp)); first | ((with_reducible refine hK _ _ ?_); clear hK K) | ((try (simp only [IntWalk.iteOmega]; try go_simp)); (try go_bits); (with_reducible refine hK _ _ ?_); clear hK K))
    refine Mix.step2n (by first | rfl | simp [Region.wanted, yielded]) fun K hK => ?_
    go_wp2_with fail
    refine Mix.post_mk (C := (fun _ => True)) trivial (hK _ _ ?_)
    clear hK K
    refine Mix.done ?_
    have hs3 := (hs2.setInts (j := T) 0 rfl (XT - P)).drew
    simp only [List.set_cons_zero] at hs3
    clear hs2 r1 hfr x0 x1 x2 x3 x4 x5 x6 hc2
    go_wp2_with fail
    refine Round.intro (ps.length - (i + 1)) ?measure2 (by kernel_rfl) (hJ1 _ _ _ ?rel2)
    case' rel2 => (try dsimp only [nthV])
    case measure2 => omega
    case rel2 => exact ⟨i + 1, _, by go_num, hlt, rfl, Lib.hid ⟨HST2.out.symm, HA.out⟩, hs3⟩
   ·obtain rfl : i = ps.length := by omega
    have hzt : (O.zip ps).take ps.length = O.zip ps := List.take_of_length_le (by rw [List.length_zip]; omega)
    have hia := HI.out
    rw [hzt] at hia
    have HIA := Lib.hid hia
    have HOXl := Lib.hid (show OX.length = rooms.length by rw [hia.1]; exact outQ_len _ _)
    clear hzt hia HI
    go_wp2_with fail
    refine wp_loopM [none, none, none, none, none, none, none, none, some 8, none, none, none, some 12, none, none, none, none, none, none, none, none, none, none, none, none, none, none, none, none, none, none, none, none, none, none, none, none, none, none, none, none, none, none, none, none, none, none, none, none, none, none, none, none, none, none, none, none, none, none, none, none, none, none, none, none, none, none, none, none, none, none, none, none, none, none, none, none, none, none, none, some 80, some 81, some 82, some 83, some 84, some 85, some 86, some 87, some 88, some 89, some 90, some 91, some 92, some 93, some 94, some 95, some 96, some 97, some 98, some 99, some 100, some 101, some 102, some 103, some 104] (fun (r2 : Nat) (f : Nat → Value) (wq : World) => (fun (v : Value) => ∃ j : Nat, v = .int .i64 j ∧ j ≤ rooms.length ∧ r2 = rooms.length - j ∧ Hid (∀ k, k < j → fitI rooms c OX k = true) ∧ Sep w wq [intsT .i64 2 (.slice (some ⟨g, 0, none⟩) rooms.length rooms.length) OX, recT duR 44 (.slice ao ps.length co) O]) (f 12)) (rooms.length) (by kernel_rfl) ?atStart3 ?round3
    case' atStart3 => (try dsimp only [nthV])
    case' round3 =>
     intro gk f wr l hl hrel J2 K2 hJ2 hK2
     (try simp only [mask] at hl)
     generalize f 12 = u12 at hl hrel
     subst hl
     (try dsimp only at hrel)
    case atStart3 => exact ⟨0, rfl, Nat.zero_le _, rfl, Lib.hid (fun k hk => by omega), hs⟩
    case round3 =>
     clear hs
     obtain ⟨j, rfl, hj, rfl, HF, hs⟩ := hrel
     by_cases hlj : j < rooms.length
     ·obtain ⟨g', cg', eg, hg', hcR, hfr⟩ := (hs.drew.ints 0 rfl).get j (by rw [HOXl.out]; exact hlj)
      injection eg with eg q1 q2
      injection eg with eg
      injection eg with eg
      subst eg
      have r0 := hcR j (by rw [HOXl.out]; exact hlj)
      obtain ⟨b2, o2, e2, hb2, hc2⟩ := ((hs.drew).rd hr).at j hlj
      subst e2
      clear q1 q2 hcR
      have HFI := Lib.hid (fun hf => fit_stop (rooms := rooms) (c := c) (Q := O.zip ps) hlj hf)
      rw [← HIA.out.1] at HFI
      have HFJ := Lib.hid (show fitI rooms c OX j = (decide (OX.getD j 0 ≤ rooms.getD j 0) && (!c || decide (OX.getD j 0 = 0))) from rfl)
      obtain ⟨X, hX⟩ : ∃ x, x = OX.getD j 0 := ⟨_, rfl⟩
      obtain ⟨R, hR⟩ : ∃ x, x = rooms.getD j 0 := ⟨_, rfl⟩
      rw [← hX] at r0 HFJ
      rw [← hR] at hc2 HFJ
      clear hX hR
      by_cases hxr : X ≤ R
      rotate_left
      ·have HE := Lib.hid (HFI.out (by rw [HFJ.out]; simp [hxr]))
       have e1 : decide (R < X) = true := decide_eq_true (by omega)
       clear hxr
       go_wp2_with fail
       refine Mix.region [0, 0, 0, 0, 0, 0, 0, 0, 0, 0, 0, 0, 0, 0, 0, 0, 0, 0, 0] (fun _ => True) (by kernel_rfl) (by kernel_rfl) trivial ?_
       simp only [List.zip_cons_cons, List.zip_nil_right]
       iterate 10 (refine Mix.step0 fun K hK => ?_; go_simp; (try (go_bits; try go_simp)); first | ((with_reducible refine hK _ _ ?_); clear hK K) | ((try (simp only [IntWalk.iteOmega]; try go_simp)); (try go_bits); (with_reducible refine hK _ _ ?_); clear hK K))
       iterate 8 (first | (refine Mix.stepS rfl fun K hK => ?_; go_simp; (with_reducible refine hK _ _ ?_); clear hK K) | (refine Mix.step0 fun K hK => ?_; go_simp; (try (go_bits; try go_simp)); first | ((with_reducible refine hK _ _ ?_); clear hK K) | ((try (simp only [IntWalk.iteOmega]; try go_simp)); (try go_bits); (with_reducible refine hK _ _ ?_); clear hK K)))
       iterate 1 (refine Mix.step0 fun K hK => ?_; go_simp; (try (go_bits; try go_simp)); first | ((with_reducible refine hK _ _ ?_); clear hK K) | ((try (simp only [IntWalk.iteOmega]; try go_simp)); (try go_bits); (with_reducible refine hK _ _ ?_); clear hK K))
       refine Mix.done ?_
       go_wp2_with fail
       go_ret
       exact ⟨by rw [HPE.out, HE.out]; rfl, hs.drew.below⟩
      have e1 : decide (R < X) = false := decide_eq_false (by omega)
      cases c
      ·have HF2 := Lib.hid (show ∀ k, k < j + 1 → fitI rooms false OX k = true from fun k hk => by
        by_cases hkj : k = j
        ·subst hkj; rw [HFJ.out]; simp [hxr]
        ·exact HF.out k (by omega))
       clear hxr
       go_wp2_with fail
       refine Mix.region [0, 0, 0, 0, 0, 0, 0, 0, 0, 0, 0, 0, 0, 0, 0, 0, 0, 0, 0] (fun _ => True) (by kernel_rfl) (by kernel_rfl) trivial ?_
       simp only [List.zip_cons_cons, List.zip_nil_right]
       iterate 10 (refine Mix.step0 fun K hK => ?_; go_simp; (try (go_bits; try go_simp)); first | ((with_reducible refine hK _ _ ?_); clear hK K) | ((try (simp only [IntWalk.iteOmega]; try go_simp)); (try go_bits); (with_reducible refine hK _ _ ?_); clear hK K))
       iterate 8 (first | (refine Mix.stepS rfl fun K hK => ?_; go_simp; (with_reducible refine hK _ _ ?_); clear hK K) | (refine Mix.step0 fun K hK => ?_; go_simp; (try (go_bits; try go_simp)); first | ((with_reducible refine hK _ _ ?_); clear hK K) | ((try (simp only [IntWalk.iteOmega]; try go_simp)); (try go_bits); (with_reducible refine hK _ _ ?_); clear hK K)))
       iterate 1 (refine Mix.step0 fun K hK => ?_; go_simp; (try (go_bits; try go_simp)); first | ((with_reducible refine hK _ _ ?_); clear hK K) | ((try (simp only [IntWalk.iteOmega]; try go_simp)); (try go_bits); (with_reducible refine hK _ _ ?_); clear hK K))
       refine Mix.done ?_
       go_wp2_with fail
       refine Round.intro (rooms.length - (j + 1)) ?measure4 (by kernel_rfl) (hJ2 _ _ _ ?rel4)
       case' rel4 => (try dsimp only [nthV])
       case measure4 => omega
       case rel4 => exact ⟨j + 1, by go_num, hlj, rfl, HF2, hs.drew⟩
      ·by_cases hx0 : X = 0
       ·have HF2 := Lib.hid (show ∀ k, k < j + 1 → fitI rooms true OX k = true from fun k hk => by
         by_cases hkj : k = j
         ·subst hkj; rw [HFJ.out]; simp [hxr, hx0]; omega
         ·exact HF.out k (by omega))
        have e2 : (X != 0) = false := by simpa using hx0
        clear hxr hx0
        go_wp2_with fail
        refine Mix.region [0, 0, 0, 0, 0, 0, 0, 0, 0, 0, 0, 0, 0, 0, 0, 0, 0, 0, 0] (fun _ => True) (by kernel_rfl) (by kernel_rfl) trivial ?_
        simp only [List.zip_cons_cons, List.zip_nil_right]
        iterate 10 (refine Mix.step0 fun K hK => ?_; go_simp; (try (go_bits; try go_simp)); first | ((with_reducible refine hK _ _ ?_); clear hK K) | ((try (simp only [IntWalk.iteOmega]; try go_simp)); (try go_bits); (with_reducible refine hK _ _ ?_); clear hK K))
        iterate 8 (first | (refine Mix.stepS rfl fun K hK => ?_; go_simp; (with_reducible refine hK _ _ ?_); clear hK K) | (refine Mix.step0 fun K hK => ?_; go_simp; (try (go_bits; try go_simp)); first | ((with_reducible refine hK _ _ ?_); clear hK K) | ((try (simp only [IntWalk.iteOmega]; try go_simp)); (try go_bits); (with_reducible refine hK _ _ ?_); clear hK K)))
        iterate 1 (refine Mix.step0 fun K hK => ?_; go_simp; (try (go_bits; try go_simp)); first | ((with_reducible refine hK _ _ ?_); clear hK K) | ((try (simp only [IntWalk.iteOmega]; try go_simp)); (try go_bits); (with_reducible refine hK _ _ ?_); clear hK K))
        refine Mix.done ?_
        go_wp2_with fail
        refine Round.intro (rooms.length - (j + 1)) ?measure5 (by kernel_rfl) (hJ2 _ _ _ ?rel5)
        case' rel5 => (try dsimp only [nthV])
        case measure5 => omega
        case rel5 => exact ⟨j + 1, by go_num, hlj, rfl, HF2, hs.drew⟩
       ·have HE := Lib.hid (HFI.out (by rw [HFJ.out]; simp [hx0]))
        have e2 : (X != 0) = true := by simpa using hx0
        clear hxr hx0
        go_wp2_with fail
        refine Mix.region [0, 0, 0, 0, 0, 0, 0, 0, 0, 0, 0, 0, 0, 0, 0, 0, 0, 0, 0] (fun _ => True) (by kernel_rfl) (by kernel_rfl) trivial ?_
        simp only [List.zip_cons_cons, List.zip_nil_right]
        iterate 10 (refine Mix.step0 fun K hK => ?_; go_simp; (try (go_bits; try go_simp)); first | ((with_reducible refine hK _ _ ?_); clear hK K) | ((try (simp only [IntWalk.iteOmega]; try go_simp)); (try go_bits); (with_reducible refine hK _ _ ?_); clear hK K))
        iterate 8 (first | (refine Mix.stepS rfl fun K hK => ?_; go_simp; (with_reducible refine hK _ _ ?_); clear hK K) | (refine Mix.step0 fun K hK => ?_; go_simp; (try (go_bits; try go_simp)); first | ((with_reducible refine hK _ _ ?_); clear hK K) | ((try (simp only [IntWalk.iteOmega]; try go_simp)); (try go_bits); (with_reducible refine hK _ _ ?_); clear hK K)))
        iterate 1 (refine Mix.step0 fun K hK => ?_; go_simp; (try (go_bits; try go_simp)); first | ((with_reducible refine hK _ _ ?_); clear hK K) | ((try (simp only [IntWalk.iteOmega]; try go_simp)); (try go_bits); (with_reducible refine hK _ _ ?_); clear hK K))
        refine Mix.done ?_
        go_wp2_with fail
        go_ret
        exact ⟨by rw [HPE.out, HE.out]; rfl, hs.drew.below⟩
     ·have HE := Lib.hid (fit_all (rooms := rooms) (c := c) (Q := O.zip ps) HIA.out.2 (fun k hk => by rw [← HIA.out.1]; exact HF.out k (by omega)))
      go_wp2_with fail
      go_ret
      exact ⟨by rw [HPE.out, HE.out]; rfl, hs.below⟩
end Go.Proofs.Ytjijhpflkkicaaa
namespace Go.BuildP
open Go Go.RowKit Go.Mem Go.MoneyP Go.NetP
/-- Is what is left of a room not permitted? -/
def badX (c : Bool) (x : Int) : Bool := decide (x < 0) || (c && decide (x ≠ 0))
def startL (rooms : List Int) (c : Bool) : List Int := if c then List.replicate rooms.length 0 else rooms
def leftQ (rooms : List Int) (c : Bool) (Q : List (Du × Int)) : List Int := Q.foldl stepL (startL rooms c)
def IdxB (zs : List Int) (c : Bool) (k : Int) : Prop := (k = -1 ∧ zs.any (badX c) = false) ∨ (0 ≤ k ∧ zs.any (badX c) = true)
end Go.BuildP
namespace Go.Proofs.Ytjijhpflkkicaaa
open Go Go.RowKit Go.Mem Go.MoneyP Go.NetP Go.BuildP Go.Shelf
end Go.Proofs.Ytjijhpflkkicaaa
