/-
  ArchiveLast, walked.
-/
import Derived.Test.YtfnkmkfkomhhnaaVC
import Derived.Test.YtfnkmkfkomhhnaaWin
namespace Go.Proofs.Ytfnkmkfkomhhnaa
open Go Go.RowKit Go.Mem Go.NetP Go.CertP Go.ArchP

set_option maxHeartbeats 4000000 in
theorem archiveLast_any (l : List Ro) (v : Value) (w : World) (h : RdG roR w v l) (hok : ∀ r ∈ l, r.Ok w ∧ (Lit.int .u64 r.no).wf = true) :
    Calls Try.prog 3 #[v] w fun en w' => en = .returned (.bool true) ∧ Below w.heap.size w w' := by
  obtain ⟨i0, hi0, hz0, hz1, hz2⟩ := info_parts Try.infoRov
  obtain ⟨a, c, rfl⟩ := h.shape
  have hle := h.le'
  have HOK := Lib.hid hok
  clear hok
  go_enter Try.func3, Try.ntmps3
  go_wp2_with fail
  refine (few_any l _ _ h).mono ?_
  rintro en w1 ⟨vf, rfl, hf, rfl⟩
  rcases hf with rfl | ⟨rfl, h12, hsm⟩
  · go_wp2_with fail
    refine (works_any _).mono ?_
    rintro en w2 ⟨rfl, hb⟩
    go_wp2_with fail
    go_ret
    exact ⟨rfl, hb⟩
  have HSM := Lib.hid hsm
  clear hsm
  go_wp2_with fail
  refine (new_any _).mono ?_
  rintro en w2 ⟨b, rfl, hs⟩
  go_wp2_with fail
  refine wp_loopM [none, none, some 2, none, some 4, some 5, some 6, some 7, some 8, none, none, none, none, none, none, none, none, some 17, some 18, some 19, some 20, some 21, some 22, some 23, some 24, some 25, some 26, some 27, some 28, some 29, some 30, some 31, some 32, some 33, some 34, some 35, some 36, some 37, some 38, some 39, some 40, some 41, some 42, some 43, some 44, some 45, some 46, some 47, some 48, none, none, none, none, none, none, none, none, none, none, none, none, none, none, none, none, none, none, none, none, none, none, none, none, none, none, none, none, none, none, none, none, none, none, none, none, none, none, none, none, none, none, none, none, none, none, none, none, none, none, none, none] (fun (r : Nat) (f : Nat → Value) (wr : World) => (fun (vo v : Value) => ∃ (i : Nat) (xs ks : List Ro), v = .int .i64 i ∧ i ≤ l.length ∧ r = l.length - i ∧ xs.length ≤ i ∧ Hid (Good4 ks xs ∧ ∀ x ∈ xs, x.Ok w1 ∧ x.small) ∧ Sep w1 wr [recT roR 39 vo xs, arcT b ks (min4 xs.length) xs.length]) (f 4) (f 5)) (l.length) (by kernel_rfl) ?atStart1 ?round1
  case' atStart1 => (try dsimp only [nthV])
  case' round1 =>
    intro gk f wr l hl hrel J1 K1 hJ1 hK1
    (try simp only [mask] at hl)
    generalize f 4 = u4 at hl hrel
    generalize f 5 = u5 at hl hrel
    subst hl
    (try dsimp only at hrel)
  case atStart1 => exact ⟨0, [], _, rfl, Nat.zero_le _, rfl, Nat.zero_le _, Lib.hid ⟨good4_start, fun x hx => by simp at hx⟩, hs.nilRecs roR _⟩
  case round1 =>
    clear hs
    obtain ⟨i, xs, ks, rfl, hi, rfl, hxi, HG, hs⟩ := hrel
    by_cases hlt : i < l.length
    · obtain ⟨b1, o1, e1, hb1, hc1⟩ := h.at i hlt
      subst e1
      have hx1 := HOK.out _ (List.getElem_mem hlt)
      have hx2 := HSM.out _ (List.getElem_mem hlt)
      generalize l[i] = x at hc1 hx1 hx2
      obtain ⟨hx1, hwf⟩ := hx1
      obtain ⟨no, day, comp, ai, ci, ids, n, ae, ce, es, af, cf, fl, ap, cp, pot⟩ := x
      obtain ⟨al, cl, rfl⟩ := (hs.rdRecs 0 rfl).shape
      obtain ⟨hg4, hgx⟩ := HG.out
      have FSc := Lib.hid (fun (W : World) (L : List Thing) (hs : Sep w1 W L) => (fun j hj => (hs.cell hb1).trans (hc1 j hj) : ∀ j, j < 8 → W.cell? ⟨b1, o1 + i * 8 + j, none⟩ = (roR.cells ⟨no, day, comp, ai, ci, ids, n, ae, ce, es, af, cf, fl, ap, cp, pot⟩)[j]?))
      clear hc1
      cases hm : mayC (Ro.co ⟨no, day, comp, ai, ci, ids, n, ae, ce, es, af, cf, fl, ap, cp, pot⟩)
      · have ADD := Lib.hid (add_no hs b _ (hx1.sep hs) hm)
        clear hm hx1 hx2 hg4 hgx
        have x8 := FSc.out _ _ hs
        have x0 := x8 0 (by decide)
        have x1 := x8 1 (by decide)
        have x2 := x8 2 (by decide)
        have x3 := x8 3 (by decide)
        have x4 := x8 4 (by decide)
        have x5 := x8 5 (by decide)
        have x6 := x8 6 (by decide)
        have x7 := x8 7 (by decide)
        simp only [roR, Nat.add_zero, List.getElem?_cons_zero, List.getElem?_cons_succ] at x0 x1 x2 x3 x4 x5 x6 x7
        clear x8
        go_wp2_with fail
        refine (ADD.out).mono ?_
        rintro en w3 ⟨rfl, hs3⟩
        clear ADD x0 x1 x2 x3 x4 x5 x6 x7 hs
        go_wp2_with fail
        refine Round.intro (l.length - (i + 1)) ?measure2 (by kernel_rfl) (hJ1 _ _ _ ?rel2)
        case' rel2 => (try dsimp only [nthV])
        case measure2 => omega
        case rel2 => exact ⟨i + 1, xs, ks, by go_num, hlt, rfl, by omega, HG, hs3⟩
      · have ADD := Lib.hid (add_yes hs 1 b ks (min4 xs.length) xs.length rfl hg4.1 (min4_le _) _ (hx1.sep hs) hm (by omega))
        rw [cap4_min] at ADD
        have x8 := FSc.out _ _ hs
        have x0 := x8 0 (by decide)
        have x1 := x8 1 (by decide)
        have x2 := x8 2 (by decide)
        have x3 := x8 3 (by decide)
        have x4 := x8 4 (by decide)
        have x5 := x8 5 (by decide)
        have x6 := x8 6 (by decide)
        have x7 := x8 7 (by decide)
        simp only [roR, Nat.add_zero, List.getElem?_cons_zero, List.getElem?_cons_succ] at x0 x1 x2 x3 x4 x5 x6 x7
        clear x8
        go_wp2_with fail
        refine (ADD.out).mono ?_
        rintro en w3 ⟨rfl, r1, hr1, hs3⟩
        simp only [List.set_cons_succ, List.set_cons_zero] at hs3
        clear ADD x0 x1 x2 x3 x4 x5 x6 x7 hs
        have x8 := FSc.out _ _ hs3
        have x0 := x8 0 (by decide)
        have x1 := x8 1 (by decide)
        have x2 := x8 2 (by decide)
        have x3 := x8 3 (by decide)
        have x4 := x8 4 (by decide)
        have x5 := x8 5 (by decide)
        have x6 := x8 6 (by decide)
        have x7 := x8 7 (by decide)
        simp only [roR, Nat.add_zero, List.getElem?_cons_zero, List.getElem?_cons_succ] at x0 x1 x2 x3 x4 x5 x6 x7
        clear x8
        have hs4 := hs3.alloc (.cells #[.int .u64 (xs.length + 1), .int .i64 day, .bool comp, .slice ai ids.length ci, .int .i64 n, .slice ae es.length ce, .slice af fl.length cf, .slice ap pot.length cp] 39)
        obtain ⟨X, hX⟩ : ∃ X : Ro, X = ⟨xs.length + 1, day, comp, ai, ci, ids, n, ae, ce, es, af, cf, fl, ap, cp, pot⟩ := ⟨_, rfl⟩
        have HX := Lib.hid hX
        have HXo := Lib.hid (show X.Ok w1 by rw [hX]; exact hx1)
        have HXs := Lib.hid (show X.small by rw [hX]; exact hx2)
        have HG2 := Lib.hid (good4_add hg4 (x := X) (r := r1) (by rw [hX]; exact hr1) HXs.out)
        have HGX := Lib.hid hgx
        have hL : (xs ++ [X]).length = xs.length + 1 := by simp
        have HL := Lib.hid hL
        have e1 : (((xs.length : Int) + 1) != ((xs.length : Int) + 1)) = false := by simp
        clear hX hx1 hx2 hg4 hgx hr1 hL HG hm hs3
        go_wp2_with (at_builtin; go_loud (refine wpList_appRec roR rfl (.tmp 40) (.tmp 42) 22 rfl 39 i0 _ 128 Try.underlying22 hi0 hz0 hz1 hz2 rfl _ xs X hs4 0 rfl _ (by rw [HX.out]; rfl) rfl (by rw [World.size_alloc]; rfl) ?c3 ?c4 ?grow))
        case c3 => unfold maxLen; omega
        case c4 => omega
        case grow =>
          intro v' w5 hs5 hsh
          obtain ⟨g, cap, rfl⟩ := hsh.out
          (try simp only [List.set_cons_succ, List.set_cons_zero] at hs5)
          clear hs4 hsh x0 x1 x2 x3 x4 x5 x6 x7
          go_wp2_with fail
          refine Round.intro (l.length - (i + 1)) ?measure3 (by kernel_rfl) (hJ1 _ _ _ ?rel3)
          case' rel3 => (try dsimp only [nthV])
          case measure3 => omega
          case rel3 =>
            refine ⟨i + 1, xs ++ [X], _, by go_num, hlt, rfl, by rw [HL.out]; omega, Lib.hid ⟨HG2.out, fun q hq => ?_⟩, by rw [HL.out]; exact hs5⟩
            rcases List.mem_append.1 hq with hq | hq
            · exact HGX.out q hq
            · rw [List.mem_singleton.1 hq]; exact ⟨HXo.out, HXs.out⟩
    · obtain ⟨hg4, hgx⟩ := HG.out
      have hD : xs.length - min4 xs.length + min4 xs.length = xs.length := by have := min4_lem xs.length; omega
      go_upto_region 15 with fail
      refine wp_cutM [none, none, none, none, none, none, none, none, none, none, none, none, none, none, none, none, none, none, none, none, none, none, none, none, none, none, none, none, none, none, none, none, none, none, none, none, none, none, none, none, none, none, none, none, none, none, none, none, none, some 49, some 50, some 51, some 52, some 53, some 54, some 55, some 56, some 57, some 58, some 59, some 60, some 61, some 62, some 63, some 64, some 65, some 66, none, none, none, none, none, none, none, none, none, none, none, none, none, none, none, none, none, none, none, none, none, none, none, none, none, none, none, none, none, none, none, none, none, none] (fun (f : Nat → Value) (wq : World) => (fun (vt : Value) => vt = .bool false ∧ Sep w1 wq [recT roR 39 u4 xs, arcT b ks (min4 xs.length) xs.length]) (f 66)) ?first4 ?rest4
      case' first4 => intro JC KC hJC hKC
      case' rest4 =>
        intro f wr l hl hrel
        (try simp only [mask] at hl)
        generalize f 66 = u66 at hl hrel
        subst hl
        (try dsimp only at hrel)
      case first4 =>
        have HSM4 := Lib.hid hg4.2.1
        have HGX := Lib.hid hgx
        rcases (hs.recs 0 rfl).2 with ⟨hv, h0⟩ | ⟨g, cap, cur, hv, _, hgg, hnc, hcm, _⟩
        · obtain rfl : xs = [] := List.eq_nil_of_length_eq_zero h0
          subst hv
          have hsd := hs.drew
          have hA := (Sep.arch (i := 1) hsd rfl)
          obtain ⟨an, ano⟩ := arch_n hg4.1 hA.1
          refine Mix.region [0, 2, 1, 1, 1, 0, 0, 0, 2, 1, 1, 1, 1, 1, 1, 2, 0, 0] (fun _ => True) (by kernel_rfl) (by kernel_rfl) trivial ?_
          simp only [List.zip_cons_cons, List.zip_nil_right]
          iterate 1 (refine Mix.step0 fun K hK => ?_; go_simp; (try (go_bits; try go_simp)); first | ((with_reducible refine hK _ _ ?_); clear hK K) | ((try (simp only [IntWalk.iteOmega]; try go_simp)); (try go_bits); (with_reducible refine hK _ _ ?_); clear hK K))
          refine Mix.step2n (by first | rfl | simp [Region.wanted, yielded]) fun K hK => ?_
          go_wp2_with fail
          refine (no_any b _ _ ano).mono ?_
          rintro en w3 ⟨rfl, rfl⟩
          clear an ano
          go_wp2_with fail
          refine Mix.post_mk (C := (fun _ => True)) trivial (hK _ _ ?_)
          clear hK K
          iterate 3 (refine Mix.step1 fun K hK => ?_; go_simp; (try (go_bits; try go_simp)); first | ((with_reducible refine hK _ _ ?_); clear hK K) | ((try (simp only [IntWalk.iteOmega]; try go_simp)); (try go_bits); (with_reducible refine hK _ _ ?_); clear hK K))
          iterate 2 (refine Mix.step0 fun K hK => ?_; go_simp; (try (go_bits; try go_simp)); first | ((with_reducible refine hK _ _ ?_); clear hK K) | ((try (simp only [IntWalk.iteOmega]; try go_simp)); (try go_bits); (with_reducible refine hK _ _ ?_); clear hK K))
          iterate 1 (first | (refine Mix.stepS rfl fun K hK => ?_; go_simp; (with_reducible refine hK _ _ ?_); clear hK K) | (refine Mix.step0 fun K hK => ?_; go_simp; (try (go_bits; try go_simp)); first | ((with_reducible refine hK _ _ ?_); clear hK K) | ((try (simp only [IntWalk.iteOmega]; try go_simp)); (try go_bits); (with_reducible refine hK _ _ ?_); clear hK K)))
          refine Mix.step2n (by first | rfl | simp [Region.wanted, yielded]) fun K hK => ?_
          go_wp2_with fail
          refine (list_any b ks (min4 _) (_ - min4 _) _ (by rw [hD]; exact hA.1) hg4.1 (min4_le' _) (by omega) hA.2 HSM4.out).mono ?_
          rintro en w3 ⟨v, rs, rfl, hrs, k1⟩
          rw [good4_list hg4] at hrs
          obtain ⟨vl, cl, rfl⟩ := (k1.rdRecs 0 rfl).shape
          have HRS := Lib.hid hrs
          have HBG := Lib.hid (Sep.bag (i := 1) k1 rfl)
          have hs3 := hsd.join k1
          go_wp2_with fail
          refine Mix.post_mk (C := (fun _ => True)) trivial (hK _ _ ?_)
          clear hK K
          iterate 6 (first | (refine Mix.stepS rfl fun K hK => ?_; go_simp; (with_reducible refine hK _ _ ?_); clear hK K) | (refine Mix.step1 fun K hK => ?_; go_simp; (try (go_bits; try go_simp)); first | ((with_reducible refine hK _ _ ?_); clear hK K) | ((try (simp only [IntWalk.iteOmega]; try go_simp)); (try go_bits); (with_reducible refine hK _ _ ?_); clear hK K)))
          refine Mix.step2n (by first | rfl | simp [Region.wanted, yielded]) fun K hK => ?_
          go_wp2_with fail
          refine (sameL_same rs _ HRS.out _ _ _ (k1.rdRecs 0 rfl) (RdG.nil _ _) HBG.out (fun q hq => (HGX.out q (List.mem_of_mem_drop hq)).1.sep hs3)).mono ?_
          rintro en w4 ⟨rfl, hb⟩
          replace hs3 := (hs3.belowStep hb).tail.tail
          go_wp2_with fail
          refine Mix.post_mk (C := (fun _ => True)) trivial (hK _ _ ?_)
          clear hK K
          iterate 1 (first | (refine Mix.stepS rfl fun K hK => ?_; go_simp; (with_reducible refine hK _ _ ?_); clear hK K) | (refine Mix.step0 fun K hK => ?_; go_simp; (try (go_bits; try go_simp)); first | ((with_reducible refine hK _ _ ?_); clear hK K) | ((try (simp only [IntWalk.iteOmega]; try go_simp)); (try go_bits); (with_reducible refine hK _ _ ?_); clear hK K)))
          iterate 1 (refine Mix.step0 fun K hK => ?_; go_simp; (try (go_bits; try go_simp)); first | ((with_reducible refine hK _ _ ?_); clear hK K) | ((try (simp only [IntWalk.iteOmega]; try go_simp)); (try go_bits); (with_reducible refine hK _ _ ?_); clear hK K))
          refine Mix.done ?_
          go_wp2_with fail
          refine Meet.intro (by kernel_rfl) (hJC _ _ ?rel5)
          case' rel5 => (try dsimp only [nthV])
          exact ⟨rfl, hs3⟩
        · subst hv
          clear hgg
          by_cases h4 : 4 < xs.length
          · have d1 : decide ((0 : Int) < (xs.length : Int) - 4) = true := decide_eq_true (by omega)
            have ht : ((xs.length : Int) - 4).toNat = xs.length - min4 xs.length := by unfold min4; rw [if_neg (by omega)]; omega
            have hsd := hs.drew
            have hA := (Sep.arch (i := 1) hsd rfl)
            obtain ⟨an, ano⟩ := arch_n hg4.1 hA.1
            refine Mix.region [0, 2, 1, 1, 1, 0, 0, 0, 2, 1, 1, 1, 1, 1, 1, 2, 0, 0] (fun _ => True) (by kernel_rfl) (by kernel_rfl) trivial ?_
            simp only [List.zip_cons_cons, List.zip_nil_right]
            iterate 1 (refine Mix.step0 fun K hK => ?_; go_simp; (try (go_bits; try go_simp)); first | ((with_reducible refine hK _ _ ?_); clear hK K) | ((try (simp only [IntWalk.iteOmega]; try go_simp)); (try go_bits); (with_reducible refine hK _ _ ?_); clear hK K))
            refine Mix.step2n (by first | rfl | simp [Region.wanted, yielded]) fun K hK => ?_
            go_wp2_with fail
            refine (no_any b _ _ ano).mono ?_
            rintro en w3 ⟨rfl, rfl⟩
            clear an ano
            go_wp2_with fail
            refine Mix.post_mk (C := (fun _ => True)) trivial (hK _ _ ?_)
            clear hK K
            iterate 3 (refine Mix.step1 fun K hK => ?_; go_simp; (try (go_bits; try go_simp)); first | ((with_reducible refine hK _ _ ?_); clear hK K) | ((try (simp only [IntWalk.iteOmega]; try go_simp)); (try go_bits); (with_reducible refine hK _ _ ?_); clear hK K))
            iterate 2 (refine Mix.step0 fun K hK => ?_; go_simp; (try (go_bits; try go_simp)); first | ((with_reducible refine hK _ _ ?_); clear hK K) | ((try (simp only [IntWalk.iteOmega]; try go_simp)); (try go_bits); (with_reducible refine hK _ _ ?_); clear hK K))
            iterate 1 (first | (refine Mix.stepS rfl fun K hK => ?_; go_simp; (with_reducible refine hK _ _ ?_); clear hK K) | (refine Mix.step0 fun K hK => ?_; go_simp; (try (go_bits; try go_simp)); first | ((with_reducible refine hK _ _ ?_); clear hK K) | ((try (simp only [IntWalk.iteOmega]; try go_simp)); (try go_bits); (with_reducible refine hK _ _ ?_); clear hK K)))
            refine Mix.step2n (by first | rfl | simp [Region.wanted, yielded]) fun K hK => ?_
            go_wp2_with fail
            refine (list_any b ks (min4 _) (_ - min4 _) _ (by rw [hD]; exact hA.1) hg4.1 (min4_le' _) (by omega) hA.2 HSM4.out).mono ?_
            rintro en w3 ⟨v, rs, rfl, hrs, k1⟩
            rw [good4_list hg4] at hrs
            obtain ⟨vl, cl, rfl⟩ := (k1.rdRecs 0 rfl).shape
            have HRS := Lib.hid hrs
            have HBG := Lib.hid (Sep.bag (i := 1) k1 rfl)
            have hs3 := hsd.join k1
            go_wp2_with fail
            refine Mix.post_mk (C := (fun _ => True)) trivial (hK _ _ ?_)
            clear hK K
            iterate 6 (first | (refine Mix.stepS rfl fun K hK => ?_; go_simp; (with_reducible refine hK _ _ ?_); clear hK K) | (refine Mix.step1 fun K hK => ?_; go_simp; (try (go_bits; try go_simp)); first | ((with_reducible refine hK _ _ ?_); clear hK K) | ((try (simp only [IntWalk.iteOmega]; try go_simp)); (try go_bits); (with_reducible refine hK _ _ ?_); clear hK K)))
            refine Mix.step2n (by first | rfl | simp [Region.wanted, yielded]) fun K hK => ?_
            go_wp2_with fail
            refine (sameL_same rs _ HRS.out _ _ _ (k1.rdRecs 0 rfl) (by have RD := RdG.rest (hs3.rdRecs (i := 2) rfl) (xs.length - min4 xs.length) (cap - (xs.length - min4 xs.length)) (by omega) rfl; rw [Nat.zero_add] at RD; exact RD) HBG.out (fun q hq => (HGX.out q (List.mem_of_mem_drop hq)).1.sep hs3)).mono ?_
            rintro en w4 ⟨rfl, hb⟩
            replace hs3 := (hs3.belowStep hb).tail.tail
            go_wp2_with fail
            refine Mix.post_mk (C := (fun _ => True)) trivial (hK _ _ ?_)
            clear hK K
            iterate 1 (first | (refine Mix.stepS rfl fun K hK => ?_; go_simp; (with_reducible refine hK _ _ ?_); clear hK K) | (refine Mix.step0 fun K hK => ?_; go_simp; (try (go_bits; try go_simp)); first | ((with_reducible refine hK _ _ ?_); clear hK K) | ((try (simp only [IntWalk.iteOmega]; try go_simp)); (try go_bits); (with_reducible refine hK _ _ ?_); clear hK K)))
            iterate 1 (refine Mix.step0 fun K hK => ?_; go_simp; (try (go_bits; try go_simp)); first | ((with_reducible refine hK _ _ ?_); clear hK K) | ((try (simp only [IntWalk.iteOmega]; try go_simp)); (try go_bits); (with_reducible refine hK _ _ ?_); clear hK K))
            refine Mix.done ?_
            go_wp2_with fail
            refine Meet.intro (by kernel_rfl) (hJC _ _ ?rel6)
            case' rel6 => (try dsimp only [nthV])
            exact ⟨rfl, hs3⟩
          · have d1 : decide ((0 : Int) < (xs.length : Int) - 4) = false := decide_eq_false (by omega)
            have ht : xs.length - min4 xs.length = 0 := by unfold min4; rw [if_pos (by omega)]; omega
            by_cases hc : cap = 0
            · subst hc
              obtain rfl : xs = [] := List.eq_nil_of_length_eq_zero (by omega)
              have hsd := hs.drew
              have hA := (Sep.arch (i := 1) hsd rfl)
              obtain ⟨an, ano⟩ := arch_n hg4.1 hA.1
              refine Mix.region [0, 2, 1, 1, 1, 0, 0, 0, 2, 1, 1, 1, 1, 1, 1, 2, 0, 0] (fun _ => True) (by kernel_rfl) (by kernel_rfl) trivial ?_
              simp only [List.zip_cons_cons, List.zip_nil_right]
              iterate 1 (refine Mix.step0 fun K hK => ?_; go_simp; (try (go_bits; try go_simp)); first | ((with_reducible refine hK _ _ ?_); clear hK K) | ((try (simp only [IntWalk.iteOmega]; try go_simp)); (try go_bits); (with_reducible refine hK _ _ ?_); clear hK K))
              refine Mix.step2n (by first | rfl | simp [Region.wanted, yielded]) fun K hK => ?_
              go_wp2_with fail
              refine (no_any b _ _ ano).mono ?_
              rintro en w3 ⟨rfl, rfl⟩
              clear an ano
              go_wp2_with fail
              refine Mix.post_mk (C := (fun _ => True)) trivial (hK _ _ ?_)
              clear hK K
              iterate 3 (refine Mix.step1 fun K hK => ?_; go_simp; (try (go_bits; try go_simp)); first | ((with_reducible refine hK _ _ ?_); clear hK K) | ((try (simp only [IntWalk.iteOmega]; try go_simp)); (try go_bits); (with_reducible refine hK _ _ ?_); clear hK K))
              iterate 2 (refine Mix.step0 fun K hK => ?_; go_simp; (try (go_bits; try go_simp)); first | ((with_reducible refine hK _ _ ?_); clear hK K) | ((try (simp only [IntWalk.iteOmega]; try go_simp)); (try go_bits); (with_reducible refine hK _ _ ?_); clear hK K))
              iterate 1 (first | (refine Mix.stepS rfl fun K hK => ?_; go_simp; (with_reducible refine hK _ _ ?_); clear hK K) | (refine Mix.step0 fun K hK => ?_; go_simp; (try (go_bits; try go_simp)); first | ((with_reducible refine hK _ _ ?_); clear hK K) | ((try (simp only [IntWalk.iteOmega]; try go_simp)); (try go_bits); (with_reducible refine hK _ _ ?_); clear hK K)))
              refine Mix.step2n (by first | rfl | simp [Region.wanted, yielded]) fun K hK => ?_
              go_wp2_with fail
              refine (list_any b ks (min4 _) (_ - min4 _) _ (by rw [hD]; exact hA.1) hg4.1 (min4_le' _) (by omega) hA.2 HSM4.out).mono ?_
              rintro en w3 ⟨v, rs, rfl, hrs, k1⟩
              rw [good4_list hg4] at hrs
              obtain ⟨vl, cl, rfl⟩ := (k1.rdRecs 0 rfl).shape
              have HRS := Lib.hid hrs
              have HBG := Lib.hid (Sep.bag (i := 1) k1 rfl)
              have hs3 := hsd.join k1
              go_wp2_with fail
              refine Mix.post_mk (C := (fun _ => True)) trivial (hK _ _ ?_)
              clear hK K
              iterate 6 (first | (refine Mix.stepS rfl fun K hK => ?_; go_simp; (with_reducible refine hK _ _ ?_); clear hK K) | (refine Mix.step1 fun K hK => ?_; go_simp; (try (go_bits; try go_simp)); first | ((with_reducible refine hK _ _ ?_); clear hK K) | ((try (simp only [IntWalk.iteOmega]; try go_simp)); (try go_bits); (with_reducible refine hK _ _ ?_); clear hK K)))
              refine Mix.step2n (by first | rfl | simp [Region.wanted, yielded]) fun K hK => ?_
              go_wp2_with fail
              refine (sameL_same rs _ HRS.out _ _ _ (k1.rdRecs 0 rfl) (by rw [List.drop_nil]; exact hs3.rdRecs 2 rfl) HBG.out (fun q hq => (HGX.out q (List.mem_of_mem_drop hq)).1.sep hs3)).mono ?_
              rintro en w4 ⟨rfl, hb⟩
              replace hs3 := (hs3.belowStep hb).tail.tail
              go_wp2_with fail
              refine Mix.post_mk (C := (fun _ => True)) trivial (hK _ _ ?_)
              clear hK K
              iterate 1 (first | (refine Mix.stepS rfl fun K hK => ?_; go_simp; (with_reducible refine hK _ _ ?_); clear hK K) | (refine Mix.step0 fun K hK => ?_; go_simp; (try (go_bits; try go_simp)); first | ((with_reducible refine hK _ _ ?_); clear hK K) | ((try (simp only [IntWalk.iteOmega]; try go_simp)); (try go_bits); (with_reducible refine hK _ _ ?_); clear hK K)))
              iterate 1 (refine Mix.step0 fun K hK => ?_; go_simp; (try (go_bits; try go_simp)); first | ((with_reducible refine hK _ _ ?_); clear hK K) | ((try (simp only [IntWalk.iteOmega]; try go_simp)); (try go_bits); (with_reducible refine hK _ _ ?_); clear hK K))
              refine Mix.done ?_
              go_wp2_with fail
              refine Meet.intro (by kernel_rfl) (hJC _ _ ?rel7)
              case' rel7 => (try dsimp only [nthV])
              exact ⟨rfl, hs3⟩
            · have hsd := hs.drew
              have hA := (Sep.arch (i := 1) hsd rfl)
              obtain ⟨an, ano⟩ := arch_n hg4.1 hA.1
              refine Mix.region [0, 2, 1, 1, 1, 0, 0, 0, 2, 1, 1, 1, 1, 1, 1, 2, 0, 0] (fun _ => True) (by kernel_rfl) (by kernel_rfl) trivial ?_
              simp only [List.zip_cons_cons, List.zip_nil_right]
              iterate 1 (refine Mix.step0 fun K hK => ?_; go_simp; (try (go_bits; try go_simp)); first | ((with_reducible refine hK _ _ ?_); clear hK K) | ((try (simp only [IntWalk.iteOmega]; try go_simp)); (try go_bits); (with_reducible refine hK _ _ ?_); clear hK K))
              refine Mix.step2n (by first | rfl | simp [Region.wanted, yielded]) fun K hK => ?_
              go_wp2_with fail
              refine (no_any b _ _ ano).mono ?_
              rintro en w3 ⟨rfl, rfl⟩
              clear an ano
              go_wp2_with fail
              refine Mix.post_mk (C := (fun _ => True)) trivial (hK _ _ ?_)
              clear hK K
              iterate 3 (refine Mix.step1 fun K hK => ?_; go_simp; (try (go_bits; try go_simp)); first | ((with_reducible refine hK _ _ ?_); clear hK K) | ((try (simp only [IntWalk.iteOmega]; try go_simp)); (try go_bits); (with_reducible refine hK _ _ ?_); clear hK K))
              iterate 2 (refine Mix.step0 fun K hK => ?_; go_simp; (try (go_bits; try go_simp)); first | ((with_reducible refine hK _ _ ?_); clear hK K) | ((try (simp only [IntWalk.iteOmega]; try go_simp)); (try go_bits); (with_reducible refine hK _ _ ?_); clear hK K))
              iterate 1 (first | (refine Mix.stepS rfl fun K hK => ?_; go_simp; (with_reducible refine hK _ _ ?_); clear hK K) | (refine Mix.step0 fun K hK => ?_; go_simp; (try (go_bits; try go_simp)); first | ((with_reducible refine hK _ _ ?_); clear hK K) | ((try (simp only [IntWalk.iteOmega]; try go_simp)); (try go_bits); (with_reducible refine hK _ _ ?_); clear hK K)))
              refine Mix.step2n (by first | rfl | simp [Region.wanted, yielded]) fun K hK => ?_
              go_wp2_with fail
              refine (list_any b ks (min4 _) (_ - min4 _) _ (by rw [hD]; exact hA.1) hg4.1 (min4_le' _) (by omega) hA.2 HSM4.out).mono ?_
              rintro en w3 ⟨v, rs, rfl, hrs, k1⟩
              rw [good4_list hg4] at hrs
              obtain ⟨vl, cl, rfl⟩ := (k1.rdRecs 0 rfl).shape
              have HRS := Lib.hid hrs
              have HBG := Lib.hid (Sep.bag (i := 1) k1 rfl)
              have hs3 := hsd.join k1
              go_wp2_with fail
              refine Mix.post_mk (C := (fun _ => True)) trivial (hK _ _ ?_)
              clear hK K
              iterate 6 (first | (refine Mix.stepS rfl fun K hK => ?_; go_simp; (with_reducible refine hK _ _ ?_); clear hK K) | (refine Mix.step1 fun K hK => ?_; go_simp; (try (go_bits; try go_simp)); first | ((with_reducible refine hK _ _ ?_); clear hK K) | ((try (simp only [IntWalk.iteOmega]; try go_simp)); (try go_bits); (with_reducible refine hK _ _ ?_); clear hK K)))
              refine Mix.step2n (by first | rfl | simp [Region.wanted, yielded]) fun K hK => ?_
              go_wp2_with fail
              refine (sameL_same rs _ HRS.out _ _ _ (k1.rdRecs 0 rfl) (by rw [ht]; exact hs3.rdRecs 2 rfl) HBG.out (fun q hq => (HGX.out q (List.mem_of_mem_drop hq)).1.sep hs3)).mono ?_
              rintro en w4 ⟨rfl, hb⟩
              replace hs3 := (hs3.belowStep hb).tail.tail
              go_wp2_with fail
              refine Mix.post_mk (C := (fun _ => True)) trivial (hK _ _ ?_)
              clear hK K
              iterate 1 (first | (refine Mix.stepS rfl fun K hK => ?_; go_simp; (with_reducible refine hK _ _ ?_); clear hK K) | (refine Mix.step0 fun K hK => ?_; go_simp; (try (go_bits; try go_simp)); first | ((with_reducible refine hK _ _ ?_); clear hK K) | ((try (simp only [IntWalk.iteOmega]; try go_simp)); (try go_bits); (with_reducible refine hK _ _ ?_); clear hK K)))
              iterate 1 (refine Mix.step0 fun K hK => ?_; go_simp; (try (go_bits; try go_simp)); first | ((with_reducible refine hK _ _ ?_); clear hK K) | ((try (simp only [IntWalk.iteOmega]; try go_simp)); (try go_bits); (with_reducible refine hK _ _ ?_); clear hK K))
              refine Mix.done ?_
              go_wp2_with fail
              refine Meet.intro (by kernel_rfl) (hJC _ _ ?rel8)
              case' rel8 => (try dsimp only [nthV])
              exact ⟨rfl, hs3⟩
      case rest4 =>
        clear hs
        obtain ⟨rfl, hs⟩ := hrel
        obtain ⟨hk4, hksm, hkat⟩ := hg4
        have HKS := Lib.hid hksm
        have HKA := Lib.hid hkat
        have HGX := Lib.hid hgx
        clear hksm hkat hgx
        go_wp2_with fail
        refine wp_loopM [none, none, some 2, none, none, none, none, none, none, some 9, some 10, some 11, none, none, none, none, none, none, none, none, none, none, none, none, none, none, none, none, none, none, none, none, none, none, none, none, none, none, none, none, none, none, none, none, none, none, none, none, none, none, none, none, none, none, none, none, none, none, none, none, none, none, none, none, none, none, none, some 67, some 68, some 69, some 70, some 71, some 72, some 73, some 74, some 75, some 76, some 77, some 78, some 79, some 80, some 81, some 82, some 83, some 84, some 85, some 86, some 87, some 88, some 89, some 90, some 91, some 92, some 93, some 94, some 95, some 96, some 97, some 98, some 99, none] (fun (r : Nat) (f : Nat → Value) (wq : World) => (fun (v : Value) => ∃ (i : Nat), v = .int .i64 i ∧ i ≤ xs.length ∧ r = xs.length - i ∧ Sep w1 wq [recT roR 39 u4 xs, arcT b ks (min4 xs.length) xs.length]) (f 9)) (xs.length) (by kernel_rfl) ?atStart9 ?round9
        case' atStart9 => (try dsimp only [nthV])
        case' round9 =>
          intro gk f wr l hl hrel J2 K2 hJ2 hK2
          (try simp only [mask] at hl)
          generalize f 9 = u9 at hl hrel
          subst hl
          (try dsimp only at hrel)
        case atStart9 => exact ⟨0, rfl, Nat.zero_le _, rfl, hs⟩
        case round9 =>
          clear hs
          obtain ⟨j, rfl, hj, rfl, hs⟩ := hrel
          obtain ⟨al, cl, rfl⟩ := (hs.rdRecs 0 rfl).shape
          by_cases hlt : j < xs.length
          · have hA := (Sep.arch (i := 1) hs rfl)
            obtain ⟨an, ano⟩ := arch_n hk4 hA.1
            by_cases hold : j + 4 < xs.length
            · have d1 : decide ((xs.length : Int) - 4 ≤ (j : Int)) = false := decide_eq_false (by omega)
              have G1 := Lib.hid (get_old b (min4 xs.length) xs.length (j + 1) _ (lt_of hA.1) an ano (by omega) (by omega) (by have := min4_le xs.length; omega))
              clear hA an ano
              go_wp2_with fail
              refine (G1.out).mono ?_
              rintro en w3 ⟨rfl, hb⟩
              replace hs := hs.belowStep hb
              clear G1 hb
              dsimp only [zeroV]
              go_wp2_with fail
              replace hs := hs.alloc (.cells #[.int .u64 0, .int .i64 0, .bool false, .slice none 0 0, .int .i64 0, .slice none 0 0, .slice none 0 0, .slice none 0 0] 39)
              refine Mix.region [0, 0, 0, 0, 0, 0, 0, 0, 0, 0, 0, 0, 0, 0, 0, 2, 0, 0, 0] (fun _ => True) (by kernel_rfl) (by kernel_rfl) trivial ?_
              simp only [List.zip_cons_cons, List.zip_nil_right]
              iterate 8 (refine Mix.step0 fun K hK => ?_; go_simp; (try (go_bits; try go_simp)); first | ((with_reducible refine hK _ _ ?_); clear hK K) | ((try (simp only [IntWalk.iteOmega]; try go_simp)); (try go_bits); (with_reducible refine hK _ _ ?_); clear hK K))
              iterate 7 (first | (refine Mix.stepS rfl fun K hK => ?_; go_simp; (with_reducible refine hK _ _ ?_); clear hK K) | (refine Mix.step0 fun K hK => ?_; go_simp; (try (go_bits; try go_simp)); first | ((with_reducible refine hK _ _ ?_); clear hK K) | ((try (simp only [IntWalk.iteOmega]; try go_simp)); (try go_bits); (with_reducible refine hK _ _ ?_); clear hK K)))
              refine Mix.step2s (by first | rfl | simp [Region.wanted, yielded]) ?_
              iterate 2 (first | (refine Mix.stepS rfl fun K hK => ?_; go_simp; (with_reducible refine hK _ _ ?_); clear hK K) | (refine Mix.step0 fun K hK => ?_; go_simp; (try (go_bits; try go_simp)); first | ((with_reducible refine hK _ _ ?_); clear hK K) | ((try (simp only [IntWalk.iteOmega]; try go_simp)); (try go_bits); (with_reducible refine hK _ _ ?_); clear hK K)))
              iterate 1 (refine Mix.step0 fun K hK => ?_; go_simp; (try (go_bits; try go_simp)); first | ((with_reducible refine hK _ _ ?_); clear hK K) | ((try (simp only [IntWalk.iteOmega]; try go_simp)); (try go_bits); (with_reducible refine hK _ _ ?_); clear hK K))
              refine Mix.done ?_
              go_wp2_with fail
              refine Round.intro (xs.length - (j + 1)) ?measure10 (by kernel_rfl) (hJ2 _ _ _ ?rel10)
              case' rel10 => (try dsimp only [nthV])
              case measure10 => omega
              case rel10 => exact ⟨j + 1, by go_num, hlt, rfl, hs.drew⟩
            · have d1 : decide ((xs.length : Int) - 4 ≤ (j : Int)) = true := decide_eq_true (by omega)
              obtain ⟨k, hk, hkc⟩ := HKA.out j hlt (by omega)
              have hkm := List.mem_of_getElem? hk
              have G1 := Lib.hid (get_yes b ks (min4 xs.length) xs.length (j + 1) _ hA.1 hk4 (by omega) (by omega) (by unfold min4; split <;> omega) k hk (hA.2 k hkm) (HKS.out k hkm))
              have HKC := Lib.hid hkc
              clear hA an ano hk hkc
              go_wp2_with fail
              refine (G1.out).mono ?_
              rintro en w3 ⟨r1, hco, rfl, k1⟩
              have SS := Lib.hid (fun (W : World) (hb : Below w3.heap.size w3 W) (ho : (xs[j]).Ok W) => same_same r1 (xs[j]) (hco.trans HKC.out) W ((Sep.ro (i := 0) k1 rfl).below hb) ho)
              have HX := Lib.hid (HGX.out _ (List.getElem_mem hlt)).1
              replace hs := hs.join k1
              simp only [List.cons_append, List.nil_append] at hs
              clear hco G1 k1
              obtain ⟨xno, xday, xcomp, a1, c1, xids, xn, a2, c2, xes, a3, c3, xfl, a4, c4, xpot⟩ := r1
              dsimp only [Ro.val]
              go_wp2_with fail
              have hbel := (Below.refl w3.heap.size w3).alloc (Nat.le_refl _) (.cells #[.int .u64 xno, .int .i64 xday, .bool xcomp, .slice a1 xids.length c1, .int .i64 xn, .slice a2 xes.length c2, .slice a3 xfl.length c3, .slice a4 xpot.length c4] 39)
              replace hs := hs.alloc (.cells #[.int .u64 xno, .int .i64 xday, .bool xcomp, .slice a1 xids.length c1, .int .i64 xn, .slice a2 xes.length c2, .slice a3 xfl.length c3, .slice a4 xpot.length c4] 39)
              obtain ⟨b2, o2, e2, hb2, hc2⟩ := ((hs.drew).rdRecs 1 rfl).at j hlt
              subst e2
              have SS2 := Lib.hid (SS.out _ (Fr.to_drew (Fr.below hbel) |>.toBelow _ (fun _ _ h => h) (Nat.le_refl _)) (HX.out.sep hs.drew))
              clear SS hbel
              generalize xs[j] = x at hc2 SS2 HX
              obtain ⟨no', day', comp', ai', ci', ids', n', ae', ce', es', af', cf', fl', ap', cp', pot'⟩ := x
              have y0 := hc2 0 (by decide)
              have y1 := hc2 1 (by decide)
              have y2 := hc2 2 (by decide)
              have y3 := hc2 3 (by decide)
              have y4 := hc2 4 (by decide)
              have y5 := hc2 5 (by decide)
              have y6 := hc2 6 (by decide)
              have y7 := hc2 7 (by decide)
              simp only [roR, Nat.add_zero, List.getElem?_cons_zero, List.getElem?_cons_succ] at y0 y1 y2 y3 y4 y5 y6 y7
              clear hc2
              dsimp only [Ro.val] at SS2
              refine Mix.region [0, 0, 0, 0, 0, 0, 0, 0, 0, 0, 0, 0, 0, 0, 0, 2, 0, 0, 0] (fun _ => True) (by kernel_rfl) (by kernel_rfl) trivial ?_
              simp only [List.zip_cons_cons, List.zip_nil_right]
              iterate 8 (refine Mix.step0 fun K hK => ?_; go_simp; (try (go_bits; try go_simp)); first | ((with_reducible refine hK _ _ ?_); clear hK K) | ((try (simp only [IntWalk.iteOmega]; try go_simp)); (try go_bits); (with_reducible refine hK _ _ ?_); clear hK K))
              iterate 7 (first | (refine Mix.stepS rfl fun K hK => ?_; go_simp; (with_reducible refine hK _ _ ?_); clear hK K) | (refine Mix.step0 fun K hK => ?_; go_simp; (try (go_bits; try go_simp)); first | ((with_reducible refine hK _ _ ?_); clear hK K) | ((try (simp only [IntWalk.iteOmega]; try go_simp)); (try go_bits); (with_reducible refine hK _ _ ?_); clear hK K)))
              refine Mix.step2n (by first | rfl | simp [Region.wanted, yielded]) fun K hK => ?_
              go_wp2_with fail
              refine (SS2.out).mono ?_
              rintro en w4 ⟨rfl, hb⟩
              replace hs := (hs.drew.belowStep hb).tail
              clear hb SS2 y0 y1 y2 y3 y4 y5 y6 y7
              go_wp2_with fail
              refine Mix.post_mk (C := (fun _ => True)) trivial (hK _ _ ?_)
              clear hK K
              iterate 2 (first | (refine Mix.stepS rfl fun K hK => ?_; go_simp; (with_reducible refine hK _ _ ?_); clear hK K) | (refine Mix.step0 fun K hK => ?_; go_simp; (try (go_bits; try go_simp)); first | ((with_reducible refine hK _ _ ?_); clear hK K) | ((try (simp only [IntWalk.iteOmega]; try go_simp)); (try go_bits); (with_reducible refine hK _ _ ?_); clear hK K)))
              iterate 1 (refine Mix.step0 fun K hK => ?_; go_simp; (try (go_bits; try go_simp)); first | ((with_reducible refine hK _ _ ?_); clear hK K) | ((try (simp only [IntWalk.iteOmega]; try go_simp)); (try go_bits); (with_reducible refine hK _ _ ?_); clear hK K))
              refine Mix.done ?_
              go_wp2_with fail
              refine Round.intro (xs.length - (j + 1)) ?measure11 (by kernel_rfl) (hJ2 _ _ _ ?rel11)
              case' rel11 => (try dsimp only [nthV])
              case measure11 => omega
              case rel11 => exact ⟨j + 1, by go_num, hlt, rfl, hs⟩
          · go_wp2_with fail
            refine (works_any _).mono ?_
            rintro en w3 ⟨rfl, hb⟩
            replace hs := hs.belowStep hb
            go_wp2_with fail
            go_ret
            exact ⟨rfl, hs.below⟩
end Go.Proofs.Ytfnkmkfkomhhnaa
