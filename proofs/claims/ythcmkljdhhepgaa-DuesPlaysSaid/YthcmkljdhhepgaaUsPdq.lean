/-
  pdqsortOrdered at uint64, walked: what comes is sorted.
-/
import Derived.Test.YthcmkljdhhepgaaUsPdqP
import Derived.Test.YthcmkljdhhepgaaUsPIns
import Derived.Test.YthcmkljdhhepgaaUsPiv
import Derived.Test.YthcmkljdhhepgaaUsRev
set_option linter.unusedVariables false
set_option linter.unusedSimpArgs false
namespace Go.Proofs.Ythcmkljdhhepgaa
open Go Go.RowKit Go.Mem Go.Sort
attribute [local go_sem] Oper.semAt_some
/-- What pdqsort does with the row. -/
def PdqD (w0 : World) (L : List Thing) (q g n c : Nat) (d : Array Int) (a b : Nat) (en : Ending) (w' : World) : Prop :=
  ∃ e, en = .returned (.tuple #[]) ∧ (PermIn a b d e ∧ SortedIn ltInt a b e) ∧ Sep w0 w' (L.set q (uT g n c e))
set_option maxRecDepth 100000 in
set_option maxHeartbeats 8000000 in
theorem pdq_u (w0 : World) (q g n c : Nat) : ∀ (m : Nat) (L : List Thing) (w : World) (d : Array Int) (a b : Nat) (lim : Int), b - a < m → a ≤ b → b ≤ d.size → d.size ≤ 1000 → 0 ≤ lim → lim ≤ 1000 → d.toList.Nodup → Below ltInt a b d → Sep w0 w L → L[q]? = some (uT g n c d) →
    Calls Try.prog 57 #[.slice (some ⟨g, 0, none⟩) n c, .int .i64 a, .int .i64 b, .int .i64 lim] w fun en w' => PdqD w0 L q g n c d a b en w' := by
  intro m
  induction m with
  | zero => intro L w d a b lim h; omega
  | succ m ih =>
    intro L w d A B lim hm hAB hB hsz hl0 hl1 hnd hbe hs hq0
    have HIH := Lib.hid ih
    have hn := (uT_len hs hq0).1
    have HQ := Lib.hid (List.getElem?_eq_some_iff.1 hq0).1
    have HND := Lib.hid hnd
    have HBZ := Lib.hid hB
    obtain ⟨N, hN⟩ : ∃ N, N = d.size := ⟨_, rfl⟩
    have HN := Lib.hid hN
    rw [← hN] at hn hB hsz
    subst hn
    have HP := Lib.hid (PQ.start hAB hbe)
    have hs1 : Sep w0 w (L.set q (uT g n c d)) := by rw [set_same hq0]; exact hs
    have HM := Lib.hid hm
    clear hs hN hq0 ih hnd hbe hm
    go_enter Try.func57, Try.ntmps57
    go_wp2_with fail
    refine wp_loopM [none, some 1, some 2, some 3, none, none, none, none, some 8, some 9, some 10, some 11, some 12, some 13, some 14, some 15, some 16, some 17, some 18, some 19, some 20, some 21, some 22, some 23, some 24, some 25, some 26, some 27, some 28, some 29, some 30, some 31, some 32, some 33, some 34, some 35, some 36, some 37, some 38, some 39, some 40, some 41, some 42, some 43, some 44, some 45, some 46, some 47, some 48, some 49, some 50, some 51, some 52, some 53, some 54, some 55, some 56, some 57, some 58, some 59, some 60, some 61, some 62, some 63, some 64, some 65, some 66, some 67, some 68, some 69, some 70, some 71, some 72, some 73, some 74, some 75, some 76, some 77, some 78, some 79, some 80, some 81, some 82, some 83, some 84, some 85, some 86, some 87, some 88, some 89, some 90, some 91, some 92, some 93, some 94, some 95, some 96, some 97, some 98, some 99, some 100, some 101, some 102, some 103, some 104, some 105, some 106, some 107, some 108, some 109, some 110, some 111, some 112, some 113, some 114, some 115, some 116, some 117, some 118, some 119, some 120, some 121, some 122, some 123, some 124, some 125, some 126, some 127, some 128, some 129, some 130, some 131, some 132, some 133] (fun (r : Nat) (f : Nat → Value) (wr : World) => (fun (va vb vl vwb vwp : Value) => ∃ (a b : Nat) (lim : Int) (wb wp : Bool) (e : Array Int), va = .int .i64 a ∧ vb = .int .i64 b ∧ vl = .int .i64 lim ∧ vwb = .bool wb ∧ vwp = .bool wp ∧ a ≤ b ∧ b ≤ n ∧ 0 ≤ lim ∧ lim ≤ 1000 ∧ r = b - a ∧ Hid (PQ d A B a b e) ∧ Sep w0 wr (L.set q (uT g n c e))) (f 1) (f 2) (f 3) (f 8) (f 9)) ((B - A)) (by kernel_rfl) ?atStart1 ?round1
    case' atStart1 => (try dsimp only [nthV])
    case' round1 =>
      intro gk f wr l hl hrel J1 K1 hJ1 hK1
      (try simp only [mask] at hl)
      generalize f 1 = u1 at hl hrel
      generalize f 2 = u2 at hl hrel
      generalize f 3 = u3 at hl hrel
      generalize f 8 = u8 at hl hrel
      generalize f 9 = u9 at hl hrel
      subst hl
      (try dsimp only at hrel)
    case atStart1 => exact ⟨A, B, lim, true, true, d, rfl, rfl, rfl, rfl, rfl, hAB, hB, hl0, hl1, rfl, HP, hs1⟩
    case round1 =>
      clear hs1 HP hl0 hl1 hAB hB
      obtain ⟨a, b, li, wb, wp, e, rfl, rfl, rfl, rfl, rfl, hab, hbn, hl0, hl1, hr, HP, hs⟩ := hrel
      have HR := Lib.hid hr
      clear hr
      have hq : (L.set q (uT g n c e))[q]? = some (uT g n c e) := List.getElem?_set_self HQ.out
      have HES := Lib.hid (show e.size = n by rw [HP.out.size]; exact HN.out.symm)
      by_cases h12 : b ≤ a + 12
      · have h12I : (b : Int) - (a : Int) ≤ 12 := by omega
        have HC := Lib.hid (insertion_u hs hq a b (by omega) (by rw [HES.out]; exact hbn) (by rw [HES.out]; omega))
        have HSO := Lib.hid (insertionSort_holds (lt := ltInt) swo_int e a b (by omega) (by rw [HES.out]; exact hbn))
        clear hs hq
        go_wp2_with fail
        refine HC.out.mono ?_
        rintro en w2 ⟨rfl, hs2⟩
        rw [List.set_set] at hs2
        clear HC
        go_wp2_with fail
        (try simp only [Exit.inBlock, Exit.then])
        first | (refine bodyPost_ret (results_none rfl _ _ _) rfl ?_) | (refine bodyPost_end (results_none rfl _ _ _) rfl ?_)
        exact ⟨_, rfl, (HP.out.step HBZ.out HSO.out.1).done HSO.out.2, hs2⟩
      · have h12I : ¬ (b : Int) - (a : Int) ≤ 12 := by omega
        by_cases hz : li = 0
        · subst hz
          have HC := Lib.hid (heap_u hs hq a b (by omega) (by rw [HES.out]; exact hbn) (by rw [HES.out]; omega))
          have HSO := Lib.hid (heapSort_holds (lt := ltInt) swo_int e a b (by omega) (by rw [HES.out]; exact hbn))
          clear hs hq
          go_wp2_with fail
          refine HC.out.mono ?_
          rintro en w2 ⟨rfl, hs2⟩
          rw [List.set_set] at hs2
          clear HC
          go_wp2_with fail
          (try simp only [Exit.inBlock, Exit.then])
          first | (refine bodyPost_ret (results_none rfl _ _ _) rfl ?_) | (refine bodyPost_end (results_none rfl _ _ _) rfl ?_)
          exact ⟨_, rfl, (HP.out.step HBZ.out HSO.out.1).done HSO.out.2, hs2⟩
        · go_upto_if 35 with fail
          refine wp_cutM [none, none, none, some 3, none, none, none, none, some 8, none, none, none, none, none, none, none, none, none, none, none, none, none, none, none, none, none, none, none, some 28, some 29, none, none, none, none, some 34, some 35, some 36, some 37, some 38, some 39, some 40, some 41, none, none, none, none, none, none, none, none, none, none, none, none, none, none, none, none, none, none, none, none, none, none, none, none, none, none, none, none, none, none, none, none, none, none, none, none, none, none, none, none, none, none, none, none, none, none, none, none, none, none, none, none, none, none, none, none, none, none, none, none, none, none, none, none, none, none, none, none, none, none, none, none, none, none, none, none, none, none, none, none, none, none, none, none, none, none, none, none, none, none, none, none] (fun (f : Nat → Value) (wq : World) => (fun (vl vb : Value) => ∃ (li : Int) (wb : Bool) (e : Array Int), vl = .int .i64 li ∧ vb = .bool wb ∧ 0 ≤ li ∧ li ≤ 1000 ∧ Hid (PQ d A B a b e) ∧ Sep w0 wq (L.set q (uT g n c e))) (f 3) (f 8)) ?first2 ?rest2
          case' first2 => intro JC KC hJC hKC
          case' rest2 =>
            intro f wr l hl hrel
            (try simp only [mask] at hl)
            generalize f 3 = u3 at hl hrel
            generalize f 8 = u8 at hl hrel
            subst hl
            (try dsimp only at hrel)
          case first2 =>
            cases wb
            · have HC := Lib.hid (break_u hs hq a b (by omega) (by rw [HES.out]; exact hbn) (by rw [HES.out]; omega))
              clear hs hq
              go_wp2_with fail
              refine HC.out.mono ?_
              rintro en w2 ⟨e2, rfl, HP2, hs2⟩
              rw [List.set_set] at hs2
              clear HC
              go_wp2_with fail
              refine Meet.intro (by kernel_rfl) (hJC _ _ ?rel3)
              case' rel3 => (try dsimp only [nthV])
              exact ⟨_, false, e2, rfl, rfl, by omega, by omega, Lib.hid (HP.out.step HBZ.out HP2.out), hs2⟩
            · go_wp2_with fail
              refine Meet.intro (by kernel_rfl) (hJC _ _ ?rel4)
              case' rel4 => (try dsimp only [nthV])
              exact ⟨_, true, e, rfl, rfl, hl0, hl1, HP, hs⟩
          case rest2 =>
            clear hs hq HP HES hl0 hl1 hz
            obtain ⟨li2, wb2, e, rfl, rfl, hl0, hl1, HP, hs⟩ := hrel
            have hq : (L.set q (uT g n c e))[q]? = some (uT g n c e) := List.getElem?_set_self HQ.out
            have HES := Lib.hid (show e.size = n by rw [HP.out.size]; exact HN.out.symm)
            have HC := Lib.hid (pivot_u hs hq a b (by omega) (by rw [HES.out]; exact hbn) (by rw [HES.out]; omega))
            clear hs hq
            go_wp2_with fail
            refine HC.out.mono ?_
            rintro en w2 ⟨p, h, rfl, hp1, hp2, hs⟩
            clear HC
            have hq : (L.set q (uT g n c e))[q]? = some (uT g n c e) := List.getElem?_set_self HQ.out
            go_upto_if 50 with fail
            refine wp_cutM [none, none, none, none, none, none, none, none, none, none, none, some 11, some 12, none, none, none, none, none, none, none, none, none, none, none, none, none, none, none, none, none, none, none, none, none, none, none, none, none, none, none, none, none, some 42, some 43, some 44, some 45, some 46, some 47, some 48, some 49, some 50, some 51, some 52, some 53, some 54, some 55, some 56, some 57, some 58, some 59, some 60, none, none, none, none, none, none, none, none, none, none, none, none, none, none, none, none, none, none, none, none, none, none, none, none, none, none, none, none, none, none, none, none, none, none, none, none, none, none, none, none, none, none, none, none, none, none, none, none, none, none, none, none, none, none, none, none, none, none, none, none, none, none, none, none, none, none, none, none, none, none, none, none, none] (fun (f : Nat → Value) (wq : World) => (fun (vp vh : Value) => ∃ (p : Nat) (h : Int) (e : Array Int), vp = .int .i64 p ∧ vh = .int .i64 h ∧ a ≤ p ∧ p < b ∧ Hid (PQ d A B a b e) ∧ Sep w0 wq (L.set q (uT g n c e))) (f 11) (f 12)) ?first5 ?rest5
            case' first5 => intro JC KC hJC hKC
            case' rest5 =>
              intro f wr l hl hrel
              (try simp only [mask] at hl)
              generalize f 11 = u11 at hl hrel
              generalize f 12 = u12 at hl hrel
              subst hl
              (try dsimp only at hrel)
            case first5 =>
              by_cases hh : h = 2
              · have HC := Lib.hid (reverse_u hs hq a b (by omega) (by rw [HES.out]; exact hbn) (by rw [HES.out]; omega))
                clear hs hq
                go_wp2_with fail
                refine HC.out.mono ?_
                rintro en w3 ⟨e2, rfl, HP2, hs2⟩
                rw [List.set_set] at hs2
                clear HC
                go_wp2_with fail
                refine Meet.intro (by kernel_rfl) (hJC _ _ ?rel6)
                case' rel6 => (try dsimp only [nthV])
                exact ⟨b - 1 - (p - a), 1, e2, by congr 1; omega, rfl, by omega, by omega, Lib.hid (HP.out.step HBZ.out HP2.out), hs2⟩
              · go_wp2_with fail
                refine Meet.intro (by kernel_rfl) (hJC _ _ ?rel7)
                case' rel7 => (try dsimp only [nthV])
                exact ⟨p, h, e, rfl, rfl, hp1, hp2, HP, hs⟩
            case rest5 =>
              clear hs hq HP HES hp1 hp2
              obtain ⟨p, h, e, rfl, rfl, hp1, hp2, HP, hs⟩ := hrel
              have hq : (L.set q (uT g n c e))[q]? = some (uT g n c e) := List.getElem?_set_self HQ.out
              have HES := Lib.hid (show e.size = n by rw [HP.out.size]; exact HN.out.symm)
              go_upto_region 15 with fail
              refine wp_cutM [none, none, none, none, none, none, none, none, some 8, some 9, none, none, none, none, none, none, none, none, none, none, none, none, none, none, none, none, none, none, none, none, none, none, none, none, none, none, none, none, none, none, none, none, none, none, none, none, none, none, none, none, none, none, none, none, none, none, none, none, none, none, none, some 61, some 62, some 63, some 64, some 65, some 66, some 67, some 68, none, none, none, none, none, none, none, none, none, none, none, none, none, none, none, none, none, none, none, none, none, none, none, none, none, none, none, none, none, none, none, none, none, none, none, none, none, none, none, none, none, none, none, none, none, none, none, none, none, none, none, none, none, none, none, none, none, none, none, none, none, none, none, none, none] (fun (f : Nat → Value) (wq : World) => (fun (vt vb vp : Value) => ∃ (t wb wp : Bool), vt = .bool t ∧ vb = .bool wb ∧ vp = .bool wp ∧ Sep w0 wq (L.set q (uT g n c e))) (f 68) (f 8) (f 9)) ?first8 ?rest8
              case' first8 => intro JC KC hJC hKC
              case' rest8 =>
                intro f wr l hl hrel
                (try simp only [mask] at hl)
                generalize f 68 = u68 at hl hrel
                generalize f 8 = u8 at hl hrel
                generalize f 9 = u9 at hl hrel
                subst hl
                (try dsimp only at hrel)
              case first8 =>
                cases wb2 <;> cases wp
                all_goals (go_wp2_with fail)
                all_goals
                  refine Meet.intro (by kernel_rfl) (hJC _ _ ?_)
                  (try dsimp only [nthV])
                  exact ⟨_, _, _, rfl, rfl, rfl, hs⟩
              case rest8 =>
                clear hs
                obtain ⟨t, wb3, wp3, rfl, rfl, rfl, hs⟩ := hrel
                go_upto_if 68 with fail
                refine wp_cutM [none, none, none, none, none, none, none, none, none, none, none, none, none, none, none, none, none, none, none, none, none, none, none, none, none, none, none, none, none, none, none, none, none, none, none, none, none, none, none, none, none, none, none, none, none, none, none, none, none, none, none, none, none, none, none, none, none, none, none, none, none, none, none, none, none, none, none, none, some 68, some 69, some 70, some 71, some 72, none, none, none, none, none, none, none, none, none, none, none, none, none, none, none, none, none, none, none, none, none, none, none, none, none, none, none, none, none, none, none, none, none, none, none, none, none, none, none, none, none, none, none, none, none, none, none, none, none, none, none, none, none, none, none, none, none, none, none, none, none] (fun (f : Nat → Value) (wq : World) => (fun (vt : Value) => ∃ (e : Array Int) (u : Value), vt = u ∧ Hid (PQ d A B a b e) ∧ Sep w0 wq (L.set q (uT g n c e))) (f 68)) ?first9 ?rest9
                case' first9 => intro JC KC hJC hKC
                case' rest9 =>
                  intro f wr l hl hrel
                  (try simp only [mask] at hl)
                  generalize f 68 = u68 at hl hrel
                  subst hl
                  (try dsimp only at hrel)
                case first9 =>
                  cases t
                  · go_wp2_with fail
                    refine Meet.intro (by kernel_rfl) (hJC _ _ ?rel10)
                    case' rel10 => (try dsimp only [nthV])
                    exact ⟨e, _, rfl, HP, hs⟩
                  · have HC := Lib.hid (pins_u hs hq a b (by omega) (by rw [HES.out]; exact hbn) (by rw [HES.out]; omega))
                    have HSO := Lib.hid (partialInsertionSort_holds (lt := ltInt) swo_int e a b (by omega) (by rw [HES.out]; exact hbn) HP.out.below)
                    obtain ⟨T, hT⟩ : ∃ T, T = partialInsertionSort ltInt e a b := ⟨_, rfl⟩
                    rw [← hT] at HC HSO
                    obtain ⟨f1, t1⟩ := T
                    have HP2 := Lib.hid (HP.out.step HBZ.out HSO.out.1)
                    clear hs hq hT
                    go_wp2_with fail
                    refine HC.out.mono ?_
                    rintro en w3 ⟨rfl, hs2⟩
                    rw [List.set_set] at hs2
                    clear HC
                    cases t1
                    · go_wp2_with fail
                      refine Meet.intro (by kernel_rfl) (hJC _ _ ?rel11)
                      case' rel11 => (try dsimp only [nthV])
                      exact ⟨f1, _, rfl, HP2, hs2⟩
                    · go_wp2_with fail
                      (try simp only [Exit.inBlock, Exit.then])
                      first | (refine bodyPost_ret (results_none rfl _ _ _) rfl ?_) | (refine bodyPost_end (results_none rfl _ _ _) rfl ?_)
                      exact ⟨_, rfl, HP2.out.done (HSO.out.2 (by simp)), hs2⟩
                case rest9 =>
                  clear hs hq HP HES
                  obtain ⟨e, u68, rfl, HP, hs⟩ := hrel
                  have hq : (L.set q (uT g n c e))[q]? = some (uT g n c e) := List.getElem?_set_self HQ.out
                  have HES := Lib.hid (show e.size = n by rw [HP.out.size]; exact HN.out.symm)
                  go_upto_region 17 with fail
                  refine wp_cutM [none, none, none, none, none, none, none, none, none, none, none, none, none, none, none, none, none, none, none, none, none, none, none, none, none, none, none, none, none, none, none, none, none, none, none, none, none, none, none, none, none, none, none, none, none, none, none, none, none, none, none, none, none, none, none, none, none, none, none, none, none, none, none, none, none, none, none, none, none, none, none, none, none, some 73, some 74, some 75, some 76, some 77, some 78, some 79, some 80, some 81, some 82, some 83, some 84, some 85, some 86, some 87, none, none, none, none, none, none, none, none, none, none, none, none, none, none, none, none, none, none, none, none, none, none, none, none, none, none, none, none, none, none, none, none, none, none, none, none, none, none, none, none, none, none, none, none, none, none] (fun (f : Nat → Value) (wq : World) => (fun (vt : Value) => vt = .bool false ∧ Sep w0 wq (L.set q (uT g n c e))) (f 87)) ?first12 ?rest12
                  case' first12 => intro JC KC hJC hKC
                  case' rest12 =>
                    intro f wr l hl hrel
                    (try simp only [mask] at hl)
                    generalize f 87 = u87 at hl hrel
                    subst hl
                    (try dsimp only at hrel)
                  case first12 =>
                    by_cases ha : 0 < a
                    · have haI : (0 : Int) < (a : Int) := by omega
                      have ha1 : 1 ≤ a := ha
                      obtain ⟨x1, hx1⟩ : ∃ x, x = e[a - 1]! := ⟨_, rfl⟩
                      obtain ⟨x2, hx2⟩ : ∃ x, x = e[p]! := ⟨_, rfl⟩
                      have y1 := uT_cell hs hq (k := a - 1) (by have := HES.out; omega)
                      have y2 := uT_cell hs hq (k := p) (by have := HES.out; omega)
                      rw [← hx1] at y1
                      rw [← hx2] at y2
                      have HL0 := Lib.hid (show ltInt x1 x2 = true by rw [hx1, hx2]; exact HP.out.strict HBZ.out HND.out ha hp1 hp2)
                      have HS := Lib.hid hs
                      clear hx1 hx2 hs hq
                      refine Mix.region [0, 0, 0, 0, 0, 0, 0, 0, 0, 0, 0, 0, 2, 0, 0] (fun _ => True) (by kernel_rfl) (by kernel_rfl) trivial ?_
                      simp only [List.zip_cons_cons, List.zip_nil_right]
                      iterate 3 (refine Mix.step0 fun K hK => ?_; go_simp; (try (go_bits; try go_simp)); first | ((with_reducible refine hK _ _ ?_); clear hK K) | ((try (simp only [IntWalk.iteOmega]; try go_simp)); (try go_bits); (with_reducible refine hK _ _ ?_); clear hK K))
                      iterate 9 (first | (refine Mix.stepS rfl fun K hK => ?_; go_simp; (with_reducible refine hK _ _ ?_); clear hK K) | (refine Mix.step0 fun K hK => ?_; go_simp; (try (go_bits; try go_simp)); first | ((with_reducible refine hK _ _ ?_); clear hK K) | ((try (simp only [IntWalk.iteOmega]; try go_simp)); (try go_bits); (with_reducible refine hK _ _ ?_); clear hK K)))
                      refine Mix.step2n (by first | rfl | simp [Region.wanted, yielded]) fun K hK => ?_
                      go_wp2_with fail
                      refine (less_u x1 x2 _).mono ?_
                      rintro en w2 ⟨rfl, rfl⟩
                      rw [HL0.out]
                      go_wp2_with fail
                      refine Mix.post_mk (C := (fun _ => True)) trivial (hK _ _ ?_)
                      clear hK K
                      iterate 1 (first | (refine Mix.stepS rfl fun K hK => ?_; go_simp; (with_reducible refine hK _ _ ?_); clear hK K) | (refine Mix.step0 fun K hK => ?_; go_simp; (try (go_bits; try go_simp)); first | ((with_reducible refine hK _ _ ?_); clear hK K) | ((try (simp only [IntWalk.iteOmega]; try go_simp)); (try go_bits); (with_reducible refine hK _ _ ?_); clear hK K)))
                      iterate 1 (refine Mix.step0 fun K hK => ?_; go_simp; (try (go_bits; try go_simp)); first | ((with_reducible refine hK _ _ ?_); clear hK K) | ((try (simp only [IntWalk.iteOmega]; try go_simp)); (try go_bits); (with_reducible refine hK _ _ ?_); clear hK K))
                      refine Mix.done ?_
                      go_wp2_with fail
                      refine Meet.intro (by kernel_rfl) (hJC _ _ ?rel13)
                      case' rel13 => (try dsimp only [nthV])
                      exact ⟨rfl, HS.out.drew⟩
                    · have haI : decide ((0 : Int) < (a : Int)) = false := decide_eq_false (by omega)
                      have HS := Lib.hid hs
                      clear hs hq
                      refine Mix.region [0, 0, 0, 0, 0, 0, 0, 0, 0, 0, 0, 0, 2, 0, 0] (fun _ => True) (by kernel_rfl) (by kernel_rfl) trivial ?_
                      simp only [List.zip_cons_cons, List.zip_nil_right]
                      iterate 3 (refine Mix.step0 fun K hK => ?_; go_simp; (try (go_bits; try go_simp)); first | ((with_reducible refine hK _ _ ?_); clear hK K) | ((try (simp only [IntWalk.iteOmega]; try go_simp)); (try go_bits); (with_reducible refine hK _ _ ?_); clear hK K))
                      iterate 9 (first | (refine Mix.stepS rfl fun K hK => ?_; go_simp; (with_reducible refine hK _ _ ?_); clear hK K) | (refine Mix.step0 fun K hK => ?_; go_simp; (try (go_bits; try go_simp)); first | ((with_reducible refine hK _ _ ?_); clear hK K) | ((try (simp only [IntWalk.iteOmega]; try go_simp)); (try go_bits); (with_reducible refine hK _ _ ?_); clear hK K)))
                      refine Mix.step2s (by first | rfl | simp [Region.wanted, yielded]) ?_
                      iterate 1 (first | (refine Mix.stepS rfl fun K hK => ?_; go_simp; (with_reducible refine hK _ _ ?_); clear hK K) | (refine Mix.step0 fun K hK => ?_; go_simp; (try (go_bits; try go_simp)); first | ((with_reducible refine hK _ _ ?_); clear hK K) | ((try (simp only [IntWalk.iteOmega]; try go_simp)); (try go_bits); (with_reducible refine hK _ _ ?_); clear hK K)))
                      iterate 1 (refine Mix.step0 fun K hK => ?_; go_simp; (try (go_bits; try go_simp)); first | ((with_reducible refine hK _ _ ?_); clear hK K) | ((try (simp only [IntWalk.iteOmega]; try go_simp)); (try go_bits); (with_reducible refine hK _ _ ?_); clear hK K))
                      refine Mix.done ?_
                      go_wp2_with fail
                      refine Meet.intro (by kernel_rfl) (hJC _ _ ?rel14)
                      case' rel14 => (try dsimp only [nthV])
                      exact ⟨rfl, HS.out.drew⟩
                  case rest12 =>
                    clear hs hq
                    obtain ⟨rfl, hs⟩ := hrel
                    have hq : (L.set q (uT g n c e))[q]? = some (uT g n c e) := List.getElem?_set_self HQ.out
                    have HC := Lib.hid (part_u hs hq a b p hp1 hp2 (by rw [HES.out]; exact hbn) (by rw [HES.out]; omega))
                    clear hs hq
                    go_wp2_with fail
                    refine HC.out.mono ?_
                    rintro en w3 ⟨mid, z, f1, rfl, HPD, hs⟩
                    rw [List.set_set] at hs
                    clear HC
                    have HFP := Lib.hid (HP.out.step HBZ.out HPD.out.2.2.1)
                    have hm1 : a ≤ mid := HPD.out.1
                    have hm2 : mid < b := HPD.out.2.1
                    have HFS := Lib.hid (show f1.size = n by rw [HFP.out.size]; exact HN.out.symm)
                    have HFN := Lib.hid (show f1.toList.Nodup from (permIn_list (by have := HP.out.hAa; have := HP.out.hbB; omega) HBZ.out HFP.out.perm).nodup_iff.2 HND.out)
                    have HLQ := Lib.hid (show (L.set q (uT g n c f1))[q]? = some (uT g n c f1) from List.getElem?_set_self HQ.out)
                    have HAb := Lib.hid (show A ≤ a ∧ b ≤ B from ⟨HP.out.hAa, HP.out.hbB⟩)
                    by_cases hlr : (mid : Int) - (a : Int) < (b : Int) - (mid : Int)
                    · have HC := Lib.hid (HIH.out (L.set q (uT g n c f1)) _ f1 a mid li2 (by have := HM.out; have := HAb.out; omega) hm1 (by have := HFS.out; omega) (by rw [HFS.out]; exact hsz) hl0 hl1 HFN.out (below_left HFP.out.below (by omega)) hs HLQ.out)
                      clear hs
                      go_wp2_with fail
                      refine HC.out.mono ?_
                      rintro en w4 ⟨g1, rfl, HG, hs2⟩
                      rw [List.set_set] at hs2
                      have HPN := Lib.hid (HP.out.left HBZ.out HPD.out HG.1 HG.2)
                      clear HC HG
                      go_wp2_with fail
                      refine Round.intro ((b - (mid + 1))) ?measure15 (by kernel_rfl) (hJ1 _ _ _ ?rel15)
                      case' rel15 => (try dsimp only [nthV])
                      case measure15 => have := HR.out; omega
                      case rel15 => exact ⟨mid + 1, b, li2, _, z, g1, by go_num, rfl, rfl, rfl, rfl, by omega, hbn, hl0, hl1, rfl, HPN, hs2⟩
                    · have HC := Lib.hid (HIH.out (L.set q (uT g n c f1)) _ f1 (mid + 1) b li2 (by have := HM.out; have := HAb.out; omega) (by omega) (by have := HFS.out; omega) (by rw [HFS.out]; exact hsz) hl0 hl1 HFN.out (below_right HPD.out) hs HLQ.out)
                      clear hs
                      go_wp2_with fail
                      refine HC.out.mono ?_
                      rintro en w4 ⟨g1, rfl, HG, hs2⟩
                      rw [List.set_set] at hs2
                      have HPN := Lib.hid (HP.out.right HBZ.out HPD.out HG.1 HG.2)
                      clear HC HG
                      go_wp2_with fail
                      refine Round.intro ((mid - a)) ?measure16 (by kernel_rfl) (hJ1 _ _ _ ?rel16)
                      case' rel16 => (try dsimp only [nthV])
                      case measure16 => have := HR.out; omega
                      case rel16 => exact ⟨a, mid, li2, _, z, g1, rfl, rfl, rfl, rfl, rfl, hm1, by omega, hl0, hl1, rfl, HPN, hs2⟩
end Go.Proofs.Ythcmkljdhhepgaa
