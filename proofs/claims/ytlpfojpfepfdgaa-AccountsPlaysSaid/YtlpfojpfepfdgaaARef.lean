/-
  The reference's accounts, walked.
-/
import Derived.Test.YtlpfojpfepfdgaaAPlain2
import Derived.Test.YtlpfojpfepfdgaaObj
import Derived.Test.YtlpfojpfepfdgaaMRef2W
import Derived.Test.YtlpfojpfepfdgaaMW3
namespace Go.Proofs.Ytlpfojpfepfdgaa
open Go Go.RowKit Go.Mem Go.MoneyP Go.AcctP

theorem Try.infoAcctR : (Try.prog.info? 27).map (fun i => (i.zero, i.size, i.bytes)) = some (some (.agg #[.int .i64 0, .int .i64 0]), 2, 16) := by kernel_rfl
theorem Try.infoI64R : (Try.prog.info? 2).map (fun i => (i.zero, i.size, i.bytes)) = some (some (.int .i64 0), 1, 8) := by kernel_rfl
/-- The reference's accounts in block b. -/
abbrev raccT (b : Nat) (xs : List Ac) : Thing := objT acR 51 27 (fun v => #[v]) b xs
theorem rone_inj : ∀ x y : Value, (fun v : Value => #[v]) x = (fun v : Value => #[v]) y → x = y := fun x y h => by simpa using h
set_option maxHeartbeats 1000000 in
theorem rbals_any (v : Value) (xs : List Ac) (w : World) (h : RdG acR w v xs) (hsm : xs.length ≤ 1000000) :
    Calls Try.prog 43 #[v] w fun en w' => ∃ u, en = .returned u ∧ Sep w w' [intsT .i64 2 u (bals xs)] := by
  obtain ⟨i0, hi0, hz0, hz1, hz2⟩ := info_parts Try.infoI64R
  obtain ⟨a, c, rfl⟩ := h.shape
  go_enter Try.func43, Try.ntmps43
  go_wp2_with fail
  refine wp_loopM [none, none, none, some 3, some 4, some 5, some 6, some 7, some 8, some 9, some 10, some 11, some 12, some 13, some 14, some 15, some 16, some 17, some 18, none] (fun (r : Nat) (f : Nat → Value) (wr : World) => (fun (vo v : Value) => ∃ (i : Nat), v = .int .i64 i ∧ i ≤ xs.length ∧ r = xs.length - i ∧ Sep w wr [intsT .i64 2 vo ((bals xs).take i)]) (f 3) (f 4)) (xs.length) (by kernel_rfl) ?atStart1 ?round1
  case' atStart1 => (try dsimp only [nthV])
  case' round1 =>
    intro gk f wr l hl hrel J1 K1 hJ1 hK1
    (try simp only [mask] at hl)
    generalize f 3 = u3 at hl hrel
    generalize f 4 = u4 at hl hrel
    subst hl
    (try dsimp only at hrel)
  case atStart1 => exact ⟨0, rfl, Nat.zero_le _, rfl, (Sep.start w).nilInts _ _⟩
  case round1 =>
    obtain ⟨i, rfl, hi, rfl, hs⟩ := hrel
    by_cases hlt : i < xs.length
    · obtain ⟨b1, o1, e1, hb1, hc1⟩ := (hs.rdG h).at i hlt
      subst e1
      have x0 := hc1 0 (by decide)
      simp only [acR, Nat.add_zero, List.getElem?_toArray, List.getElem?_cons_zero, List.getElem?_cons_succ] at x0
      have HB := Lib.hid (bals_take hlt)
      obtain ⟨B, hB⟩ : ∃ B, B = xs[i].bal := ⟨_, rfl⟩
      rw [← hB] at x0 HB
      clear hB hc1
      go_wp2_with (at_builtin; refine wpList_appInt rfl (.tmp 11) (.tmp 17) 35 rfl 2 i0 _ 8 Try.underlying35 hi0 hz0 hz1 hz2 rfl _ _ .i64 B hs 0 rfl rfl (by simp [go_sem]) ?c3 ?c4 ?grow)
      case c3 => (try simp); (try simp only [maxLen]); omega
      case c4 => (try simp); omega
      case grow =>
        intro vo w4 hs4 HSH
        rw [← HB.out] at hs4
        clear hs
        go_wp2_with fail
        refine Round.intro (xs.length - (i + 1)) ?measure2 (by kernel_rfl) (hJ1 _ _ _ ?rel2)
        case' rel2 => (try dsimp only [nthV])
        case measure2 => omega
        case rel2 => exact ⟨i + 1, by go_num, hlt, rfl, hs4⟩
    · obtain rfl : i = xs.length := by omega
      rw [← bals_length xs, List.take_length] at hs
      go_wp2_with fail
      go_ret
      exact ⟨_, rfl, hs⟩
theorem rbank_any (b : Nat) (v : Value) (xs : List Ac) (k : Int) (w : World) (hb : w.cell? ⟨b, 0, none⟩ = some v) (h : RdG acR w v xs) :
    Calls Try.prog 44 #[.pointer (some ⟨b, 0, none⟩), .int .i64 k] w fun en w' => en = .returned (.bool (bankB xs.length k)) ∧ w = w' := by
  obtain ⟨a, c, rfl⟩ := h.shape
  have hle := h.le'
  by_cases h0 : k < 0
  · have H := Lib.hid ((bankB_no xs.length k).2 (.inl h0))
    go_enter Try.func44, Try.ntmps44
    go_wp2_with fail
    go_ret
    exact ⟨by rw [H.out]; rfl, rfl⟩
  · by_cases h1 : (xs.length : Int) ≤ k
    · have H := Lib.hid ((bankB_no xs.length k).2 (.inr h1))
      have d1 : decide (k < (xs.length : Int)) = false := by simp; omega
      go_enter Try.func44, Try.ntmps44
      go_wp2_with fail
      go_ret
      exact ⟨by rw [H.out]; rfl, rfl⟩
    · have H := Lib.hid ((bankB_iff xs.length k).2 ⟨by omega, by omega⟩)
      have d1 : decide (k < (xs.length : Int)) = true := by simp; omega
      go_enter Try.func44, Try.ntmps44
      go_wp2_with fail
      go_ret
      exact ⟨by rw [H.out]; rfl, rfl⟩
set_option maxHeartbeats 1000000 in
theorem ropen_any {w0 w : World} {L : List Thing} (hs : Sep w0 w L) (i b : Nat) (xs : List Ac) (hi : L[i]? = some (raccT b xs)) (hsm : xs.length ≤ 1000000) :
    Calls Try.prog 21 #[.pointer (some ⟨b, 0, none⟩)] w fun en w' => en = .returned (.tuple #[.int .i64 (openV xs), .int .i64 (openE xs)]) ∧ Sep w0 w' (L.set i (raccT b (openL xs))) := by
  obtain ⟨i0, hi0, hz0, hz1, hz2⟩ := info_parts Try.infoAcctR
  obtain ⟨v, hb, ho, hn, hlow, _⟩ := hs.objUse i hi
  obtain ⟨a, c, rfl⟩ := ho.shape
  have hbl := lt_of hb
  have hc := cell_of hb 0
  have hfz := frozen_of hb 0
  simp only [List.getElem?_toArray, List.getElem?_cons_zero] at hc
  by_cases hl : 16 ≤ xs.length
  · have H := Lib.hid (show openV xs = 0 ∧ openE xs = 6 ∧ openL xs = xs by simp [openV, openE, openL, hl])
    have HS := Lib.hid (set_same hi)
    clear hb ho hn
    go_enter Try.func21, Try.ntmps21
    go_wp2_with fail
    go_ret2
    exact ⟨by rw [H.out.1, H.out.2.1]; rfl, by rw [H.out.2.2, HS.out]; exact hs⟩
  · have H := Lib.hid (show openV xs = xs.length ∧ openE xs = 0 ∧ openL xs = xs ++ [⟨0, 0⟩] by simp [openV, openE, openL, hl])
    have HO := Lib.hid ho
    have HNB := Lib.hid hn
    have HBB := Lib.hid hb
    clear hb ho hn
    go_enter Try.func21, Try.ntmps21
    go_wp2_with (at_builtin; refine wpList_append1 rfl (.tmp 14) (.tmp 16) 25 rfl 27 i0 _ 2 16 Try.underlying25 hi0 hz0 hz1 hz2 rfl (by decide) _ xs.length _ rfl (World.ownsRow.alloc HO.out _) w.heap.size #[.int .i64 0, .int .i64 0] 27 (0, 0) rfl (heap_alloc_new w _) rfl (by simp [Value.oneCell']) ?c3 ?c4 ?grow)
    case c3 => (try simp); (try simp only [maxLen]); (try omega)
    case c4 => (try simp); (try simp only [maxLen]); (try omega)
    case grow =>
      intro v' w2 hA
      have hbl2 : b < (w.alloc (.cells #[.int .i64 0, .int .i64 0] 27)).heap.size := by simp; omega
      have hcc := (hA.fr.cell (b := b) (o := 0) hbl2 HNB.out)
      have hff := (hA.fr.frozen (b := b) (o := 0) hbl2 HNB.out)
      have hcc2 : (w.alloc (.cells #[.int .i64 0, .int .i64 0] 27)).cell? ⟨b, 0, none⟩ = w.cell? ⟨b, 0, none⟩ := (Fr.alloc (S := fun _ => False) w _).cell hbl (fun e => e)
      have hff2 : (w.alloc (.cells #[.int .i64 0, .int .i64 0] 27)).frozen? ⟨b, 0, none⟩ = w.frozen? ⟨b, 0, none⟩ := (Fr.alloc (S := fun _ => False) w _).frozen hbl (fun e => e)
      have c0 := hcc.trans (hcc2.trans hc)
      have f0 := hff.trans (hff2.trans hfz)
      obtain ⟨g, cap, rfl⟩ := hA.shape (by omega)
      have hfin := hs.objApp (w1 := w2) i hi rone_inj HBB.out (ys := [⟨0, 0⟩]) (n := xs.length + 1) (by simp) (Fr.alloc w (.cells #[.int .i64 0, .int .i64 0] 27)) (by simpa [Rec.flat, acR] using hA) 0 (fun x => rfl)
      have HFIN := Lib.hid hfin
      clear hA hcc hff hcc2 hff2 hfin
      go_wp2_with fail
      go_ret2
      exact ⟨by rw [H.out.1, H.out.2.1]; simp, by rw [H.out.2.2]; exact HFIN.out⟩
theorem fund_sum {xs : List Ac} {k x : Int} (hg : GoodA xs) (hb : bankB xs.length k = true) (ha : argB x = true) : fundE xs k x = sumE (bals xs ++ [x]) := by
  have hm : mays (bals xs ++ [x]) = true := by
    simp only [argB, Bool.and_eq_true] at ha
    have := hg.bal
    simp only [mays, List.all_append, List.all_cons, List.all_nil, Bool.and_true, Bool.and_eq_true] at this ⊢
    exact ⟨this, ha.2⟩
  unfold fundE
  rw [if_neg (by rw [hb]; simp), if_neg (by rw [ha]; simp)]
  unfold sumE
  rw [if_pos hm]
  split <;> simp
set_option maxHeartbeats 2000000 in
theorem rfund_any {w0 w : World} {L : List Thing} (hs : Sep w0 w L) (i b : Nat) (xs : List Ac) (hi : L[i]? = some (raccT b xs)) (hgd : GoodA xs) (k x : Int) :
    Calls Try.prog 22 #[.pointer (some ⟨b, 0, none⟩), .int .i64 k, .int .i64 x] w fun en w' => en = .returned (.int .i64 (fundE xs k x)) ∧ Sep w0 w' (L.set i (raccT b (fundL xs k x))) := by
  obtain ⟨i0, hi0, hz0, hz1, hz2⟩ := info_parts Try.infoI64R
  have HS := Lib.hid (set_same hi)
  have hlen := hgd.len
  have HGD := Lib.hid hgd
  have hbl := bals_length xs
  cases hb : bankB xs.length k
  · have H := Lib.hid (fund_nobank (x := x) hb)
    have HB := Lib.hid hb
    obtain ⟨v, hv, hr⟩ := hs.obj i hi
    obtain ⟨a, c, rfl⟩ := hr.shape
    have hc := cell_of hv 0
    simp only [List.getElem?_toArray, List.getElem?_cons_zero] at hc
    clear hv
    clear hb hgd hbl
    go_enter Try.func22, Try.ntmps22
    go_wp2_with fail
    refine (rbank_any b _ xs k _ hc hr).mono ?_
    rintro en w1 ⟨rfl, rfl⟩
    rw [HB.out]
    go_wp2_with fail
    go_ret
    exact ⟨by rw [H.out.1]; rfl, by rw [H.out.2, HS.out]; exact hs⟩
  · have HB := Lib.hid hb
    cases ha : argB x
    · have H := Lib.hid (fund_noarg hb ha)
      obtain ⟨v, hv, hr⟩ := hs.obj i hi
      obtain ⟨a, c, rfl⟩ := hr.shape
      have hc := cell_of hv 0
      simp only [List.getElem?_toArray, List.getElem?_cons_zero] at hc
      clear hv
      by_cases h1 : x < 1
      · clear hb ha hgd hbl
        go_enter Try.func22, Try.ntmps22
        go_wp2_with fail
        refine (rbank_any b _ xs k _ hc hr).mono ?_
        rintro en w1 ⟨rfl, rfl⟩
        rw [HB.out]
        go_wp2_with fail
        go_ret
        exact ⟨by rw [H.out.1]; rfl, by rw [H.out.2, HS.out]; exact hs⟩
      · have hm : mayB x = false := by
          rw [Bool.eq_false_iff]; intro h'
          have : argB x = true := by simp [argB, h']; omega
          rw [this] at ha; cases ha
        have HM := Lib.hid hm
        clear hb ha hgd hbl hm
        go_enter Try.func22, Try.ntmps22
        go_wp2_with fail
        refine (rbank_any b _ xs k _ hc hr).mono ?_
        rintro en w1 ⟨rfl, rfl⟩
        rw [HB.out]
        go_wp2_with fail
        refine (rmay_any x _).mono ?_
        rintro en w1 ⟨rfl, rfl⟩
        rw [HM.out]
        go_wp2_with fail
        go_ret
        exact ⟨by rw [H.out.1]; rfl, by rw [H.out.2, HS.out]; exact hs⟩
    · have hk := (bankB_iff _ _).1 hb
      obtain ⟨m, rfl⟩ : ∃ m : Nat, k = m := ⟨k.toNat, by omega⟩
      have hm : m < xs.length := by omega
      have hx : 0 < x ∧ mayB x = true := by simpa [argB] using ha
      obtain ⟨hx0, hx1⟩ := hx
      have HM := Lib.hid hx1
      have HE := Lib.hid (fund_sum hgd hb ha)
      have hx2 := ((mayB_iff x).1 hx1).2
      have hbal := hgd.at hm
      rw [← acAt_of hm] at hbal
      obtain ⟨E, hE⟩ : ∃ E, E = sumE (bals xs ++ [x]) := ⟨_, rfl⟩
      rw [← hE] at HE
      have HEE := Lib.hid hE
      have HBL := Lib.hid hbl
      have HI := Lib.hid hi
      obtain ⟨v, hv, hr⟩ := hs.obj i hi
      obtain ⟨a, c, rfl⟩ := hr.shape
      have hc := cell_of hv 0
      simp only [List.getElem?_toArray, List.getElem?_cons_zero] at hc
      clear hv
      clear hb ha hgd hbl hk hx1 hE
      go_enter Try.func22, Try.ntmps22
      go_wp2_with fail
      refine (rbank_any b _ xs m _ hc hr).mono ?_
      rintro en w1 ⟨rfl, rfl⟩
      rw [HB.out]
      go_wp2_with fail
      refine (rmay_any x _).mono ?_
      rintro en w1 ⟨rfl, rfl⟩
      rw [HM.out]
      go_wp2_with fail
      refine (rbals_any _ xs _ hr (by omega)).mono ?_
      rintro en w2 ⟨u, rfl, k2⟩
      go_wp2_with (at_builtin; refine wpList_appInt rfl (.tmp 25) (.tmp 27) 35 rfl 2 i0 _ 8 Try.underlying35 hi0 hz0 hz1 hz2 rfl _ _ .i64 x (hs.join k2) 0 rfl rfl (by simp [go_sem]) ?c3 ?c4 ?grow)
      case c3 => rw [HBL.out]; simp only [maxLen]; omega
      case c4 => rw [HBL.out]; omega
      case grow =>
        intro vo w4 hs4 HSH
        clear hs k2 hc hr
        have hs := hs4
        clear hs4
        (try simp only [List.cons_append, List.nil_append, List.set_cons_zero] at hs)
        go_wp2_with fail
        refine (rsum_any _ _ _ (hs.rdInts 0 rfl)).mono ?_
        rintro en w5 ⟨rfl, rfl⟩
        rw [← HEE.out]
        replace hs := hs.tail
        by_cases h0 : E = 0
        · subst h0
          have hi := HI.out
          obtain ⟨v, hv, ho, _⟩ := hs.objUse i hi
          obtain ⟨g, c, rfl, hg, hcell, hfr⟩ := ho.get m hm
          have hc := cell_of hv 0
          simp only [List.getElem?_toArray, List.getElem?_cons_zero] at hc
          have x0 := hcell m hm 0 (by decide)
          simp only [acR, Nat.add_zero, List.getElem?_cons_zero, List.getElem?_cons_succ] at x0
          rw [← acAt_of hm] at x0
          clear hcell ho
          have HST := Lib.hid (fun (B R : Int) (hB : acAt xs m = ⟨B, R⟩) => (show Sep w0 (w4.setCell ⟨g, m * 2, none⟩ (.int .i64 (B + x))) (L.set i (raccT b (fundL xs m x))) from by
            have := hs.objSet i hi rone_inj hv m hm 0 (by decide) ⟨B + x, R⟩ (.int .i64 (B + x)) (by rw [← acAt_of hm, hB]; rfl)
            rw [show fundL xs m x = addAt xs m x by unfold fundL; rw [HE.out]; rfl]
            unfold addAt
            rw [hB]
            exact this))
          obtain ⟨⟨g0, g1⟩, _, _⟩ := hbal
          obtain ⟨B, hB⟩ : ∃ B, B = (acAt xs m).bal := ⟨_, rfl⟩
          rw [← hB] at x0 g0 g1
          have HB2 := Lib.hid hB
          clear hB hv hs hi
          go_wp2_with fail
          go_ret
          exact ⟨by rw [HE.out]; rfl, HST.out B _ (by rw [HB2.out])⟩
        · have e0 : (E == 0) = false := by simpa using h0
          have HF := Lib.hid (show fundL xs m x = xs by unfold fundL; rw [HE.out, if_neg h0])
          clear h0
          go_wp2_with fail
          go_ret
          exact ⟨by rw [HE.out]; rfl, by rw [HF.out, HS.out]; exact hs⟩
end Go.Proofs.Ytlpfojpfepfdgaa
