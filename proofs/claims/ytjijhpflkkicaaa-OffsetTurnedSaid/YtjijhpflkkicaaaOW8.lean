/-
  Package offset: Pays, walked.
-/
import Derived.Test.YtjijhpflkkicaaaOW7
import Derived.Test.YtjijhpflkkicaaaOPlain3
set_option linter.unusedVariables false
set_option linter.unusedSimpArgs false
namespace Go.Proofs.Ytjijhpflkkicaaa
open Go Go.RowKit Go.Mem Go.MoneyP Go.NetP Go.BuildP Go.OffP Go.Shelf
theorem ent_pays1 : Enters Try.prog 29 := enters_of Try.func29 (by kernel_rfl) rfl
set_option maxRecDepth 100000 in
set_option maxHeartbeats 2000000 in
theorem pays1_any {w0 w : World} {L : List Thing} (hs : Sep w0 w L) (q B : Nat) (Z : List Int) (d : Du) (hq : L[q]? = some (tabT .i64 B 65 Z)) (hm : MayD d) (hZ : Z.length = 256) (hb : ∀ k, 0 ≤ Z.getD k 0 ∧ Z.getD k 0 ≤ 4503599627370496) :
    Calls Try.prog 29 #[d.val, .pointer (some ⟨B, 0, none⟩)] w fun en w' => en = .returned (.int .i64 (payX Z d)) ∧ Sep w0 w' (L.set q (tabT .i64 B 65 (payZ Z d))) := by
  obtain ⟨id, f, t, x, we, u, hh⟩ := d
  obtain ⟨hf0, hf1, ht0, ht1, hne, hx0, hx1, _, _, _⟩ := hm
  dsimp only [Du.val] at hf0 hf1 ht0 ht1 hne hx0 hx1 ⊢
  obtain ⟨F, rfl⟩ : ∃ F : Nat, f = F := ⟨f.toNat, by omega⟩
  obtain ⟨T, rfl⟩ : ∃ T : Nat, t = T := ⟨t.toNat, by omega⟩
  have hF : F < 16 := by omega
  have hT : T < 16 := by omega
  have HP := Lib.hid (show payX Z ⟨id, F, T, x, we, u, hh⟩ = min (Z.getD (F * 16 + T) 0) x by unfold payX; dsimp only; rw [Int.toNat_natCast, Int.toNat_natCast])
  have HZ := Lib.hid (show payZ Z ⟨id, F, T, x, we, u, hh⟩ = Z.set (F * 16 + T) (Z.getD (F * 16 + T) 0 - min (Z.getD (F * 16 + T) 0) x) by unfold payZ; rw [HP.out]; dsimp only; rw [Int.toNat_natCast, Int.toNat_natCast])
  have hqlt : q < L.length := (List.getElem?_eq_some_iff.1 hq).1
  have hq1 : ∀ A : Thing, (A :: L)[q + 1]? = some (tabT .i64 B 65 Z) := fun A => by rw [List.getElem?_cons_succ]; exact hq
  have HQ := Lib.hid hq1
  replace hs := hs.newCells #[.int .u64 id, .int .i64 F, .int .i64 T, .int .i64 x, .int .i64 we, .int .i64 u, .bool hh] 44
  obtain ⟨BX, hB⟩ : ∃ BX, BX = w.heap.size := ⟨_, rfl⟩
  rw [← hB] at hs
  obtain ⟨z0, z1⟩ := hb (F * 16 + T)
  obtain ⟨X, hX⟩ : ∃ X, X = Z.getD (F * 16 + T) 0 := ⟨_, rfl⟩
  have HX := Lib.hid hX
  rw [← hX] at z0 z1 HP HZ
  clear hX hq hq1 hqlt hb
  go_enter Try.func29, Try.ntmps29
  go_upto_region 1 with fail
  rw [← hB]
  clear hB
  generalize World.alloc w _ = W1 at hs ⊢
  have x0 := cell_of (hs.cells 0 rfl) 0
  have x1 := cell_of (hs.cells 0 rfl) 1
  have x2 := cell_of (hs.cells 0 rfl) 2
  have x3 := cell_of (hs.cells 0 rfl) 3
  have x4 := cell_of (hs.cells 0 rfl) 4
  have x5 := cell_of (hs.cells 0 rfl) 5
  have x6 := cell_of (hs.cells 0 rfl) 6
  simp only [List.getElem?_toArray, List.getElem?_cons_zero, List.getElem?_cons_succ] at x0 x1 x2 x3 x4 x5 x6
  obtain ⟨r0, rf⟩ := hs.tabAt (q + 1) (HQ.out _) (F * 16 + T) (by omega)
  rw [← HX.out] at r0
  refine Mix.region [0, 0, 0, 0, 0, 0, 0, 0, 0, 0, 0] (fun _ => True) (by kernel_rfl) (by kernel_rfl) trivial ?_
  simp only [List.zip_cons_cons, List.zip_nil_right]
  iterate 11 (refine Mix.step0 fun K hK => ?_; go_simp; (try (go_bits; try go_simp)); first | ((with_reducible refine hK _ _ ?_); clear hK K) | ((try (simp only [IntWalk.iteOmega]; try go_simp)); (try go_bits); (with_reducible refine hK _ _ ?_); clear hK K))
  refine Mix.done ?_
  replace hs := hs.drew
  clear x0 x1 x2 x3 x4 x5 x6 r0 rf
  obtain ⟨Mn, hMn⟩ : ∃ Mn, Mn = min X x := ⟨_, rfl⟩
  have hm0 : 0 ≤ Mn ∧ Mn ≤ X := by omega
  obtain ⟨m0, m1⟩ := hm0
  rw [show (if x < X then x else X) = Mn by rw [hMn]; split <;> omega]
  have HM := Lib.hid hMn
  clear hMn
  go_upto_region 2 with fail
  generalize World.drew W1 = W2 at hs ⊢
  have x0 := cell_of (hs.cells 0 rfl) 0
  have x1 := cell_of (hs.cells 0 rfl) 1
  have x2 := cell_of (hs.cells 0 rfl) 2
  have x3 := cell_of (hs.cells 0 rfl) 3
  have x4 := cell_of (hs.cells 0 rfl) 4
  have x5 := cell_of (hs.cells 0 rfl) 5
  have x6 := cell_of (hs.cells 0 rfl) 6
  simp only [List.getElem?_toArray, List.getElem?_cons_zero, List.getElem?_cons_succ] at x0 x1 x2 x3 x4 x5 x6
  obtain ⟨r0, rf⟩ := hs.tabAt (q + 1) (HQ.out _) (F * 16 + T) (by omega)
  rw [← HX.out] at r0
  refine Mix.region [0, 0, 0, 0, 0, 0, 0, 0, 0, 0, 0, 2] (fun _ => True) (by kernel_rfl) (by kernel_rfl) trivial ?_
  simp only [List.zip_cons_cons, List.zip_nil_right]
  iterate 11 (refine Mix.step0 fun K hK => ?_; go_simp; (try (go_bits; try go_simp)); first | ((with_reducible refine hK _ _ ?_); clear hK K) | ((try (simp only [IntWalk.iteOmega]; try go_simp)); (try go_bits); (with_reducible refine hK _ _ ?_); clear hK K))
  refine Mix.step2n (by first | rfl | simp [Region.wanted, yielded]) fun K hK => ?_
  go_wp2_with fail
  refine Mix.post_mk (C := (fun _ => True)) trivial (hK _ _ ?_)
  clear hK K
  refine Mix.done ?_
  have hs2 := (hs.tabSet (q + 1) (HQ.out _) (F * 16 + T) (X - Mn)).drew
  rw [List.set_cons_succ, HM.out] at hs2
  rw [HM.out]
  clear hs
  go_wp2_with fail
  go_ret
  exact ⟨by rw [HP.out]; rfl, by rw [HZ.out]; exact hs2.tail⟩
/-- What Pays answers. -/
def PaysD (n : Int) (l : List Du) (w : World) (en : Ending) (w' : World) : Prop :=
  (netsE n l ≠ 0 ∧ en = .returned (.tuple #[.slice none 0 0, .int .i64 (netsE n l)]) ∧ Below w.heap.size w w') ∨
  (netsE n l = 0 ∧ ∃ v, en = .returned (.tuple #[v, .int .i64 0]) ∧ Sep w w' [intsT .i64 2 v (paysL n.toNat (openL l))])
set_option maxRecDepth 100000 in
set_option maxHeartbeats 4000000 in
theorem opays_any (n : Int) (l : List Du) (vl : Value) (w : World) (h : RdG duR w vl l) :
    Calls Try.prog 10 #[.int .i64 n, vl] w fun en w' => PaysD n l w en w' := by
  obtain ⟨i0, hi0, hz0, hz1, hz2⟩ := info_parts Try.infoI64o
  have HOF := Lib.hid (of_any n l vl w h)
  have hen := fun W args => ent_pays1 W args
  go_enter Try.func10, Try.ntmps10
  go_wp2_with fail
  refine HOF.out.mono ?_
  clear HOF
  rintro en w1 (⟨hne, rfl, hb⟩ | ⟨he, rfl, hb⟩)
  · have hs := (Sep.start w).belowStep hb
    clear hb
    have HNE := Lib.hid hne
    have d0 : (netsE n l != 0) = true := by simpa using hne
    obtain ⟨EE, hEE⟩ : ∃ EE, EE = netsE n l := ⟨_, rfl⟩
    rw [← hEE] at d0 ⊢
    have HEE := Lib.hid hEE
    clear hne hEE
    replace hs := hs.newCells Try.zeroCells65 65
    obtain ⟨B6, hB⟩ : ∃ B6, B6 = w1.heap.size := ⟨_, rfl⟩
    rw [← hB] at hs
    have HB := Lib.hid hB
    clear hB
    go_wp2_with (refine wpList_store_mid rfl 65 (.tmp 6) (.tmp 20) rfl B6 0 (tabV .i64 zero256).toArray (by rw [HB.out]; rfl) rfl ?hta ?hia (tabV_one _ _) (Stop.out ?nxa))
    case hta =>
      have := there_of (hs.cells 0 rfl)
      rw [Try.zeros65] at this ⊢
      simp only [List.size_toArray, tabV_len, zero_len, zero_len] at this ⊢
      exact this
    case hia => rw [Try.size65]; simp only [List.size_toArray, tabV_len, zero_len]
    refine Stop.mk ?_
    rw [Try.zeros65, ← HB.out]
    rw [Try.zeros65] at hs
    clear HB
    generalize World.alloc w1 _ = W1 at hs ⊢
    have hs2 := hs.tabStore (Z := zero256) 0 rfl (by simp only [zero_len, zero_len])
    (try simp only [List.set_cons_zero] at hs2)
    clear hs
    generalize World.setCells W1 _ _ _ = W2 at hs2 ⊢
    have hs := hs2
    clear hs2
    go_wp2_with fail
    (repeat rw [Exit.noGoto_ret])
    go_ret2
    exact .inl ⟨HNE.out, by rw [HEE.out]; rfl, hs.below⟩
  · have HE := Lib.hid he
    obtain ⟨N, rfl, hgood⟩ := netsE_good he
    have hs := (Sep.start w).belowStep hb
    have hN16 := hgood.n16
    have hl64 := hgood.len
    have HMAY := Lib.hid (show ∀ d ∈ openL l, MayD d from fun d hd => hgood.may d (open_mem hd))
    have HSO := Lib.hid (show sumX (openL l) ≤ 4503599627370496 by
      have h1 := sum_open l fun d hd => (hgood.may d hd).x0
      have h2 := hgood.sum
      omega)
    have hol : (openL l).length ≤ 64 := by have := open_le l; omega
    clear he hgood hb
    obtain ⟨O, hO⟩ : ∃ O, O = openL l := ⟨_, rfl⟩
    obtain ⟨Z, hZ⟩ : ∃ Z, Z = tabL (openL l) := ⟨_, rfl⟩
    rw [← hZ]
    rw [← hO] at HMAY HSO hol
    have HZL := Lib.hid (show Z.length = 256 by rw [hZ]; exact tabL_len _)
    have HZA := Lib.hid (show ∀ a b, a < 16 → b < 16 → Z.getD (a * 16 + b) 0 = owesS O a b from fun a b ha hb => by rw [hZ, ← hO]; exact tabL_at ha hb HMAY.out)
    have HO := Lib.hid hO
    clear hO hZ
    have HOB := Lib.hid (fun a b => owes_bound O (fun d hd => (HMAY.out d hd).x0) a b)
    replace hs := hs.newCells Try.zeroCells65 65
    obtain ⟨B6, hB⟩ : ∃ B6, B6 = w1.heap.size := ⟨_, rfl⟩
    rw [← hB] at hs
    have HB := Lib.hid hB
    clear hB
    go_wp2_with (refine wpList_store_mid rfl 65 (.tmp 6) (.tmp 20) rfl B6 0 (tabV .i64 Z).toArray (by rw [HB.out]; rfl) rfl ?htb ?hib (tabV_one _ _) (Stop.out ?nxb))
    case htb =>
      have := there_of (hs.cells 0 rfl)
      rw [Try.zeros65] at this ⊢
      simp only [List.size_toArray, tabV_len, zero_len, HZL.out] at this ⊢
      exact this
    case hib => rw [Try.size65]; simp only [List.size_toArray, tabV_len, HZL.out]
    refine Stop.mk ?_
    rw [Try.zeros65, ← HB.out]
    rw [Try.zeros65] at hs
    clear HB
    generalize World.alloc w1 _ = W1 at hs ⊢
    have hs2 := hs.tabStore (Z := Z) 0 rfl (by simp only [zero_len, HZL.out])
    (try simp only [List.set_cons_zero] at hs2)
    clear hs
    generalize World.setCells W1 _ _ _ = W2 at hs2 ⊢
    have hs := hs2
    clear hs2
    go_upto_region 5 with fail
    replace hs := hs.newCells Try.zeroCells65 65
    obtain ⟨B8, hB8⟩ : ∃ B8, B8 = W2.heap.size := ⟨_, rfl⟩
    rw [← hB8] at hs ⊢
    clear hB8
    rw [Try.zeros65] at hs ⊢
    generalize World.alloc W2 _ = W3 at hs ⊢
    go_wp2_with fail
    refine wp_loopM [none, none, none, none, none, none, none, none, none, some 9, some 10, none, none, none, none, none, none, none, none, none, none, none, none, none, none, none, some 26, some 27, some 28, some 29, some 30, some 31, some 32, some 33, some 34, some 35, some 36, some 37, some 38, some 39, some 40, some 41, some 42, some 43, some 44, some 45, some 46, some 47, some 48, some 49, none, none, none, none, none, none, none, none, none, none, none, none, none, none, none, none, none, none, none, none, none] (fun (r : Nat) (f : Nat → Value) (wr : World) => (fun (v : Value) => ∃ (i : Nat), v = .int .i64 i ∧ i ≤ N ∧ r = N - i ∧ Sep w wr [tabT .i64 B8 65 (leftI N O i 0), tabT .i64 B6 65 Z]) (f 26)) (N) (by kernel_rfl) ?atStart1 ?round1
    case' atStart1 => (try dsimp only [nthV])
    case' round1 =>
      intro gk f wr l hl hrel J1 K1 hJ1 hK1
      (try simp only [mask] at hl)
      generalize f 26 = u26 at hl hrel
      subst hl
      (try dsimp only at hrel)
    case atStart1 => exact ⟨0, rfl, Nat.zero_le _, rfl, by rw [leftI_start]; exact hs⟩
    case round1 =>
      clear hs
      obtain ⟨i, rfl, hi, rfl, hs⟩ := hrel
      by_cases hlt : i < N
      · have hiI : (i : Int) < N := by omega
        go_wp2_with fail
        refine wp_loopM [none, none, none, none, none, none, none, none, none, none, some 10, none, none, none, none, none, none, none, none, none, none, none, none, none, none, none, none, none, none, none, some 30, some 31, some 32, some 33, some 34, some 35, some 36, some 37, some 38, some 39, some 40, some 41, some 42, some 43, some 44, some 45, some 46, some 47, some 48, none, none, none, none, none, none, none, none, none, none, none, none, none, none, none, none, none, none, none, none, none, none] (fun (r : Nat) (f : Nat → Value) (wq : World) => (fun (v : Value) => ∃ (j : Nat), v = .int .i64 j ∧ j ≤ N ∧ r = N - j ∧ Sep w wq [tabT .i64 B8 65 (leftI N O i j), tabT .i64 B6 65 Z]) (f 30)) (N) (by kernel_rfl) ?atStart2 ?round2
        case' atStart2 => (try dsimp only [nthV])
        case' round2 =>
          intro gk f wr l hl hrel J2 K2 hJ2 hK2
          (try simp only [mask] at hl)
          generalize f 30 = u30 at hl hrel
          subst hl
          (try dsimp only at hrel)
        case atStart2 => exact ⟨0, rfl, Nat.zero_le _, rfl, hs⟩
        case round2 =>
          clear hs
          obtain ⟨j, rfl, hj, rfl, hs⟩ := hrel
          by_cases hjt : j < N
          · have hjI : (j : Int) < N := by omega
            have hi16 : i < 16 := by omega
            have hj16 : j < 16 := by omega
            have HST := Lib.hid (leftI_step (O := O) hlt hjt hN16)
            obtain ⟨x0, _⟩ := hs.tabAt 1 rfl (i * 16 + j) (by rw [HZL.out]; omega)
            obtain ⟨x1, _⟩ := hs.tabAt 1 rfl (j * 16 + i) (by rw [HZL.out]; omega)
            obtain ⟨x2, rf⟩ := hs.tabAt 0 rfl (i * 16 + j) (by rw [leftI_len]; omega)
            rw [HZA.out i j hi16 hj16] at x0
            rw [HZA.out j i hj16 hi16] at x1
            obtain ⟨b0, b1⟩ := HOB.out i j
            obtain ⟨b2, b3⟩ := HOB.out j i
            have HBT := Lib.hid (show (if owesS O j i < owesS O i j then owesS O j i else owesS O i j) = both O i j by unfold both; split <;> omega)
            obtain ⟨X, hX⟩ : ∃ X, X = owesS O i j := ⟨_, rfl⟩
            obtain ⟨Y, hY⟩ : ∃ Y, Y = owesS O j i := ⟨_, rfl⟩
            rw [← hX] at x0 b0 b1 HBT
            rw [← hY] at x1 b2 b3 HBT
            clear hX hY
            by_cases hq : Y < X
            · rw [if_pos hq] at HBT
              go_wp2_with fail
              refine Mix.region [0, 0, 0, 0, 0, 0, 0, 0, 0, 0, 0, 0, 0, 0, 0, 2] (fun _ => True) (by kernel_rfl) (by kernel_rfl) trivial ?_
              simp only [List.zip_cons_cons, List.zip_nil_right]
              iterate 15 (refine Mix.step0 fun K hK => ?_; go_simp; (try (go_bits; try go_simp)); first | ((with_reducible refine hK _ _ ?_); clear hK K) | ((try (simp only [IntWalk.iteOmega]; try go_simp)); (try go_bits); (with_reducible refine hK _ _ ?_); clear hK K))
              refine Mix.step2n (by first | rfl | simp [Region.wanted, yielded]) fun K hK => ?_
              go_wp2_with fail
              refine Mix.post_mk (C := (fun _ => True)) trivial (hK _ _ ?_)
              clear hK K
              refine Mix.done ?_
              have hs2 := (hs.tabSet (k := .i64) 0 rfl (i * 16 + j) (Y)).drew
              (try simp only [List.set_cons_zero] at hs2)
              rw [HBT.out, HST.out] at hs2
              rw [HBT.out]
              clear hs x0 x1 x2 rf
              go_wp2_with fail
              refine Round.intro (N - (j + 1)) ?measure3 (by kernel_rfl) (hJ2 _ _ _ ?rel3)
              case' rel3 => (try dsimp only [nthV])
              case measure3 => omega
              case rel3 => exact ⟨j + 1, by go_num, hjt, rfl, hs2⟩
            · rw [if_neg hq] at HBT
              go_wp2_with fail
              refine Mix.region [0, 0, 0, 0, 0, 0, 0, 0, 0, 0, 0, 0, 0, 0, 0, 2] (fun _ => True) (by kernel_rfl) (by kernel_rfl) trivial ?_
              simp only [List.zip_cons_cons, List.zip_nil_right]
              iterate 15 (refine Mix.step0 fun K hK => ?_; go_simp; (try (go_bits; try go_simp)); first | ((with_reducible refine hK _ _ ?_); clear hK K) | ((try (simp only [IntWalk.iteOmega]; try go_simp)); (try go_bits); (with_reducible refine hK _ _ ?_); clear hK K))
              refine Mix.step2n (by first | rfl | simp [Region.wanted, yielded]) fun K hK => ?_
              go_wp2_with fail
              refine Mix.post_mk (C := (fun _ => True)) trivial (hK _ _ ?_)
              clear hK K
              refine Mix.done ?_
              have hs2 := (hs.tabSet (k := .i64) 0 rfl (i * 16 + j) (X)).drew
              (try simp only [List.set_cons_zero] at hs2)
              rw [HBT.out, HST.out] at hs2
              rw [HBT.out]
              clear hs x0 x1 x2 rf
              go_wp2_with fail
              refine Round.intro (N - (j + 1)) ?measure4 (by kernel_rfl) (hJ2 _ _ _ ?rel4)
              case' rel4 => (try dsimp only [nthV])
              case measure4 => omega
              case rel4 => exact ⟨j + 1, by go_num, hjt, rfl, hs2⟩
          · obtain rfl : N = j := by omega
            rw [leftI_next] at hs
            go_wp2_with fail
            refine Round.intro (N - (i + 1)) ?measure5 (by kernel_rfl) (hJ1 _ _ _ ?rel5)
            case' rel5 => (try dsimp only [nthV])
            case measure5 => omega
            case rel5 => exact ⟨i + 1, by go_num, hlt, rfl, hs⟩
      · obtain rfl : N = i := by omega
        clear hlt hi
        replace hs := hs.takeN 1
        go_wp2_with fail
        refine (openo_any l vl _ (hs.rdG h) (by omega)).mono ?_
        rintro en w4 ⟨u, rfl, k2⟩
        replace hs := hs.join k2
        rw [← HO.out] at hs
        clear k2
        obtain ⟨au, cu, rfl⟩ := (hs.rdRecs 0 rfl).shape
        go_wp2_with (at_make; refine wpList_makeInts rfl (.tmp 54) (.tmp 54) 23 rfl 2 i0 .i64 8 Try.underlying23 hi0 hz0 hz1 hz2 O.length .i64 .i64 rfl rfl hs ?m1 ?m2 ?m3)
        case m1 => unfold maxLen; omega
        case m2 => omega
        case m3 =>
          intro w5 g hs3
          clear hs
          (try simp only [List.cons_append, List.nil_append, List.take_succ_cons, List.take_zero] at hs3)
          go_wp2_with fail
          refine wp_loopM [none, none, none, none, none, none, none, none, none, none, none, none, none, none, some 14, some 15, none, none, none, none, none, none, none, none, none, none, none, none, none, none, none, none, none, none, none, none, none, none, none, none, none, none, none, none, none, none, none, none, none, none, none, none, none, none, none, none, none, none, some 58, some 59, some 60, some 61, some 62, some 63, some 64, some 65, some 66, some 67, some 68, some 69, none] (fun (r : Nat) (f : Nat → Value) (wr : World) => (fun (v : Value) => ∃ (i : Nat), v = .int .i64 i ∧ i ≤ O.length ∧ r = O.length - i ∧ Sep w wr [intsT .i64 2 (.slice (some ⟨g, 0, none⟩) O.length O.length) ((paysL N O).take i ++ List.replicate (O.length - i) 0), recT duR 44 (.slice au O.length cu) O, tabT .i64 B8 65 (leftZ N O i)]) (f 58)) (O.length) (by kernel_rfl) ?atStart6 ?round6
          case' atStart6 => (try dsimp only [nthV])
          case' round6 =>
            intro gk f wr l hl hrel J3 K3 hJ3 hK3
            (try simp only [mask] at hl)
            generalize f 58 = u58 at hl hrel
            subst hl
            (try dsimp only at hrel)
          case atStart6 => exact ⟨0, rfl, Nat.zero_le _, rfl, hs3⟩
          case round6 =>
            clear hs3
            obtain ⟨i, rfl, hi, rfl, hs⟩ := hrel
            by_cases hlt : i < O.length
            · have hiI : (i : Int) < O.length := by omega
              obtain ⟨b1, o1, e1, _, hc1⟩ := (hs.rdRecs 1 rfl).at i hlt
              subst e1
              have hm := HMAY.out _ (List.getElem_mem hlt)
              have HLZ := Lib.hid (leftZ_succ (n := N) hlt)
              have HPA := Lib.hid (paysL_at (n := N) hlt)
              have HBZ := Lib.hid (show ∀ k, 0 ≤ (leftZ N O i).getD k 0 ∧ (leftZ N O i).getD k 0 ≤ 4503599627370496 from fun k => by
                have h1 := leftZ_bound (n := N) (fun d hd => (HMAY.out d hd).x0) i hi k
                have h2 := HSO.out
                omega)
              have HOUT := Lib.hid (show ((paysL N O).take i ++ List.replicate (O.length - i) 0).set i ((paysL N O).getD i 0) = (paysL N O).take (i + 1) ++ List.replicate (O.length - (i + 1)) 0 from put_next (paysL_len N O) hlt)
              have HOL := Lib.hid (show ((paysL N O).take i ++ List.replicate (O.length - i) (0 : Int)).length = O.length by rw [List.length_append, List.length_take, List.length_replicate, paysL_len]; omega)
              obtain ⟨OX, hOX⟩ : ∃ OX, OX = (paysL N O).take i ++ List.replicate (O.length - i) (0 : Int) := ⟨_, rfl⟩
              rw [← hOX] at hs HOUT HOL
              clear hOX
              obtain ⟨x, hx⟩ : ∃ x, x = O[i] := ⟨_, rfl⟩
              rw [← hx] at hc1 hm HLZ HPA
              clear hx
              have HPY := Lib.hid (fun (L : List Thing) (W : World) (hS : Sep w W L) (q : Nat) (hq : L[q]? = some (tabT .i64 B8 65 (leftZ N O i))) => pays1_any hS q B8 (leftZ N O i) x hq hm (leftZ_len N O i) HBZ.out)
              clear hm
              obtain ⟨id, f, t, x, we, u, hh⟩ := x
              dsimp only [Du.val] at HPY
              have x0 := hc1 0 (by decide)
              have x1 := hc1 1 (by decide)
              have x2 := hc1 2 (by decide)
              have x3 := hc1 3 (by decide)
              have x4 := hc1 4 (by decide)
              have x5 := hc1 5 (by decide)
              have x6 := hc1 6 (by decide)
              simp only [duR, Nat.add_zero, List.getElem?_cons_zero, List.getElem?_cons_succ] at x0 x1 x2 x3 x4 x5 x6
              clear hc1
              go_upto_region 20 with fail
              replace hs := hs.newCells #[.int .u64 id, .int .i64 f, .int .i64 t, .int .i64 x, .int .i64 we, .int .i64 u, .bool hh] 44
              obtain ⟨B, hB⟩ : ∃ B, B = wr.heap.size := ⟨_, rfl⟩
              rw [← hB] at hs ⊢
              clear hB x0 x1 x2 x3 x4 x5 x6
              generalize World.alloc wr _ = W4 at hs ⊢
              have x0 := cell_of (hs.cells 0 rfl) 0
              have x1 := cell_of (hs.cells 0 rfl) 1
              have x2 := cell_of (hs.cells 0 rfl) 2
              have x3 := cell_of (hs.cells 0 rfl) 3
              have x4 := cell_of (hs.cells 0 rfl) 4
              have x5 := cell_of (hs.cells 0 rfl) 5
              have x6 := cell_of (hs.cells 0 rfl) 6
              simp only [List.getElem?_toArray, List.getElem?_cons_zero, List.getElem?_cons_succ] at x0 x1 x2 x3 x4 x5 x6
              go_wp2_with fail
              refine (HPY.out _ _ hs 3 rfl).mono ?_
              rintro en w6 ⟨rfl, hs2⟩
              (try simp only [List.set_cons_zero, List.set_cons_succ] at hs2)
              rw [← HLZ.out] at hs2
              rw [← HPA.out]
              clear hs HPY x0 x1 x2 x3 x4 x5 x6
              have hs := hs2
              clear hs2
              obtain ⟨g', cg', eg, _, hcR, rf⟩ := (hs.ints 1 rfl).get i (by rw [HOL.out]; exact hlt)
              injection eg with eg q1 q2
              injection eg with eg
              injection eg with eg
              subst eg
              have r0 := hcR i (by rw [HOL.out]; exact hlt)
              clear q1 q2 hcR
              go_wp2_with fail
              have hs2 := hs.setInts (j := i) 1 rfl ((paysL N O).getD i 0)
              (try simp only [List.set_cons_zero, List.set_cons_succ] at hs2)
              rw [HOUT.out] at hs2
              refine Round.intro (O.length - (i + 1)) ?measure7 (by kernel_rfl) (hJ3 _ _ _ ?rel7)
              case' rel7 => (try dsimp only [nthV])
              case measure7 => omega
              case rel7 => exact ⟨i + 1, by go_num, hlt, rfl, hs2.tail⟩
            · obtain rfl : i = O.length := by omega
              rw [Nat.sub_self, List.replicate_zero, List.append_nil, List.take_of_length_le (by rw [paysL_len]; omega)] at hs
              go_wp2_with fail
              (repeat rw [Exit.noGoto_ret])
              go_ret2
              exact .inr ⟨HE.out, _, rfl, by rw [Int.toNat_natCast, ← HO.out]; exact hs.takeN 1⟩
end Go.Proofs.Ytjijhpflkkicaaa
