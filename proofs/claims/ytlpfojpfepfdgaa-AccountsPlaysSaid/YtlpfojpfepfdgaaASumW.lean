/-
  The law AccountsSum, walked.
-/
import Derived.Test.YtlpfojpfepfdgaaAPlain2
import Derived.Test.YtlpfojpfepfdgaaAWorks
import Derived.Deep.CutBlock
namespace Go.Proofs.Ytlpfojpfepfdgaa
open Go Go.RowKit Go.Mem Go.MoneyP Go.AcctP Go.Shelf

set_option maxHeartbeats 1000000 in
theorem few_any (a : Option Addr) (c : Nat) (l : List St) (w : World) (h : RdG stR w (.slice a l.length c) l) :
    Calls Try.prog 15 #[.slice a l.length c] w fun en w' => en = .returned (.bool (fewB l)) ∧ w = w' := by
  have hle := h.le'
  by_cases h1 : 100 < l.length
  · have d1 : decide (100 < (l.length : Int)) = true := by simp; omega
    have H := Lib.hid (show fewB l = false by simp [fewB]; intro; omega)
    go_enter Try.func15, Try.ntmps15
    go_wp2_with fail
    go_ret
    exact ⟨by rw [H.out]; rfl, rfl⟩
  · have d1 : decide (100 < (l.length : Int)) = false := by simp; omega
    go_enter Try.func15, Try.ntmps15
    go_wp2_with fail
    refine wp_loopM [none, none, some 2, some 3, none, none, none, some 7, some 8, some 9, some 10, some 11, some 12, some 13, some 14, some 15, some 16, some 17, some 18, some 19] (fun (r : Nat) (f : Nat → Value) (wr : World) => (fun (v : Value) => ∃ (i : Nat), v = .int .i64 i ∧ i ≤ l.length ∧ r = l.length - i ∧ Hid (∀ s ∈ l.take i, s.by_.length ≤ 40) ∧ wr = w) (f 3)) (l.length) (by kernel_rfl) ?atStart1 ?round1
    case' atStart1 => (try dsimp only [nthV])
    case' round1 =>
      intro gk f wr l hl hrel J1 K1 hJ1 hK1
      (try simp only [mask] at hl)
      generalize f 3 = u3 at hl hrel
      subst hl
      (try dsimp only at hrel)
    case atStart1 => exact ⟨0, rfl, Nat.zero_le _, rfl, Lib.hid (by simp), rfl⟩
    case round1 =>
      obtain ⟨i, rfl, hi, rfl, HA, rfl⟩ := hrel
      by_cases hlt : i < l.length
      · obtain ⟨b1, o1, e1, hb1, hc1⟩ := h.at i hlt
        subst e1
        have x3 := hc1 3 (by decide)
        simp only [stR, List.getElem?_cons_succ, List.getElem?_cons_zero] at x3
        obtain ⟨s, hs⟩ : ∃ s, s = l[i] := ⟨_, rfl⟩
        rw [← hs] at x3
        have HS := Lib.hid hs
        clear hs hc1
        by_cases h4 : 40 < s.by_.length
        · have d2 : decide (40 < (s.by_.length : Int)) = true := by simp; omega
          have H := Lib.hid (few_stop hlt (by rw [← HS.out]; exact h4))
          go_wp2_with fail
          go_ret
          exact ⟨by rw [H.out]; rfl, rfl⟩
        · have d2 : decide (40 < (s.by_.length : Int)) = false := by simp; omega
          have H := Lib.hid (show ∀ s ∈ l.take (i + 1), s.by_.length ≤ 40 from fun s' hs' => by
            rw [List.take_succ_eq_append_getElem hlt] at hs'
            rcases List.mem_append.1 hs' with q | q
            · exact HA.out s' q
            · simp only [List.mem_singleton] at q; rw [q, ← HS.out]; omega)
          go_wp2_with fail
          refine Round.intro (l.length - (i + 1)) ?measure2 (by kernel_rfl) (hJ1 _ _ _ ?rel2)
          case' rel2 => (try dsimp only [nthV])
          case measure2 => omega
          case rel2 => exact ⟨i + 1, by go_num, hlt, rfl, H, rfl⟩
      · obtain rfl : i = l.length := by omega
        have H := Lib.hid (few_end (l := l) (by omega) (by have := HA.out; rwa [List.take_length] at this))
        go_wp2_with fail
        go_ret
        exact ⟨by rw [H.out]; rfl, rfl⟩
set_option maxRecDepth 100000 in
set_option maxHeartbeats 4000000 in
theorem accountsSum_any (a : Option Addr) (c : Nat) (l : List St) (w : World) (h : RdG stR w (.slice a l.length c) l) (hr : ∀ s ∈ l, Rd .i64 w (.slice s.a s.by_.length s.c) s.by_) :
    Calls Try.prog 4 #[.slice a l.length c] w fun en w' => en = .returned (.bool true) ∧ Below w.heap.size w w' := by
  have hle := h.le'
  cases hf : fewB l
  · have H := Lib.hid hf
    clear hf
    go_enter Try.func4, Try.ntmps4
    go_wp2_with fail
    refine (few_any a c l _ h).mono ?_
    rintro en w1 ⟨rfl, rfl⟩
    rw [H.out]
    go_wp2_with fail
    refine (works_any _).mono ?_
    rintro en w2 ⟨rfl, hb⟩
    go_wp2_with fail
    go_ret
    exact ⟨rfl, hb⟩
  · have HF := Lib.hid hf
    have HR := Lib.hid hr
    have hll := (few_cap hf).1
    clear hf hr
    go_enter Try.func4, Try.ntmps4
    go_wp2_with fail
    refine (few_any a c l _ h).mono ?_
    rintro en w1 ⟨rfl, rfl⟩
    rw [HF.out]
    go_wp2_with fail
    refine (new_any _).mono ?_
    rintro en w1 ⟨b, rfl, hs⟩
    go_wp2_with fail
    refine wp_loopM [none, none, some 2, none, some 4, some 5, some 6, some 7, some 8, some 9, none, none, none, none, none, some 15, some 16, some 17, some 18, some 19, some 20, some 21, some 22, some 23, some 24, some 25, some 26, some 27, some 28, some 29, some 30, some 31, some 32, some 33, some 34, some 35, some 36, some 37, some 38, some 39, some 40, some 41, some 42, some 43, some 44, some 45, some 46, some 47, some 48, some 49, some 50, some 51, some 52, some 53, some 54, some 55, some 56, some 57, some 58, some 59, some 60, some 61, some 62, some 63, some 64, some 65, some 66, some 67, some 68, some 69, some 70, some 71, some 72, some 73, some 74, some 75, some 76, some 77, some 78, some 79, some 80, some 81, some 82, some 83, some 84, some 85, some 86, some 87, some 88, some 89, some 90, some 91, some 92, some 93, some 94, some 95, some 96, some 97, some 98, some 99, some 100, some 101, some 102, some 103, none] (fun (r : Nat) (f : Nat → Value) (wr : World) => (fun (vs v : Value) => ∃ (i : Nat) (xs : List Ac), v = .int .i64 i ∧ vs = .int .i64 (bals xs).sum ∧ i ≤ l.length ∧ r = l.length - i ∧ Hid (GoodA xs) ∧ Sep w wr [accT b xs]) (f 4) (f 5)) (l.length) (by kernel_rfl) ?atStart3 ?round3
    case' atStart3 => (try dsimp only [nthV])
    case' round3 =>
      intro gk f wr l hl hrel J1 K1 hJ1 hK1
      (try simp only [mask] at hl)
      generalize f 4 = u4 at hl hrel
      generalize f 5 = u5 at hl hrel
      subst hl
      (try dsimp only at hrel)
    case atStart3 => exact ⟨0, [], rfl, rfl, Nat.zero_le _, rfl, Lib.hid GoodA.nil, hs⟩
    case round3 =>
      clear hs
      obtain ⟨i, xs, rfl, rfl, hi, rfl, HG, hs⟩ := hrel
      by_cases hlt : i < l.length
      · obtain ⟨b1, o1, e1, hb1, hc1⟩ := (hs.rdG h).at i hlt
        subst e1
        have x0 := hc1 0 (by decide)
        have x1 := hc1 1 (by decide)
        have x2 := hc1 2 (by decide)
        have x3 := hc1 3 (by decide)
        simp only [stR, Nat.add_zero, List.getElem?_cons_succ, List.getElem?_cons_zero] at x0 x1 x2 x3
        obtain ⟨s, hsl⟩ : ∃ s, s = l[i] := ⟨_, rfl⟩
        rw [← hsl] at x0 x1 x2 x3
        have HRS := Lib.hid (HR.out s (by rw [hsl]; exact List.getElem_mem hlt))
        clear hsl hc1
        replace hs := hs.newCells (stR.cells s).toArray 44
        go_upto_block 2 with fail
        refine wp_cutM [none, none, none, none, some 4, none, none, none, none, none, none, none, none, none, none, none, none, none, none, none, none, none, none, none, none, some 25, some 26, some 27, some 28, some 29, some 30, some 31, some 32, some 33, some 34, some 35, some 36, some 37, some 38, some 39, some 40, some 41, some 42, some 43, some 44, some 45, some 46, some 47, some 48, some 49, some 50, some 51, some 52, some 53, some 54, some 55, some 56, some 57, some 58, some 59, some 60, some 61, some 62, some 63, some 64, some 65, some 66, some 67, some 68, some 69, some 70, none, none, none, none, none, none, none, none, none, none, none, none, none, none, none, none, none, none, none, none, none, none, none, none, none, none, none, none, none, none, none, none, none, none] (fun (f : Nat → Value) (wq : World) => (fun (vs : Value) => ∃ ys : List Ac, vs = .int .i64 (bals ys).sum ∧ Hid (GoodA ys) ∧ Sep w wq [accT b ys]) (f 4)) ?first4 ?rest4
        case' first4 => intro JC KC hJC hKC
        case' rest4 =>
          intro f wr l hl hrel
          (try simp only [mask] at hl)
          generalize f 4 = u4 at hl hrel
          subst hl
          (try dsimp only at hrel)
        case first4 =>
          have bx := cell_of (hs.cells 0 rfl)
          have c1 := bx 1
          have c2 := bx 2
          have c3 := bx 3
          simp only [stR, List.getElem?_toArray, List.getElem?_cons_succ, List.getElem?_cons_zero] at c1 c2 c3
          clear bx x0 x1 x2 x3
          obtain ⟨t0, t1⟩ := sum_bound HG.out
          by_cases d1 : s.d = 1
          · have e1 : (s.d == 1) = true := by simp [d1]
            clear d1
            go_wp2_with fail
            refine (open_any hs 1 b xs rfl (by have := HG.out.len; omega)).mono ?_
            rintro en w2 ⟨rfl, hs2⟩
            simp only [List.set_cons_succ, List.set_cons_zero] at hs2
            go_wp2_with fail
            refine Meet.intro (by kernel_rfl) (hJC _ _ ?rel5)
            case' rel5 => (try dsimp only [nthV])
            case rel5 => exact ⟨openL xs, by rw [sum_open], Lib.hid HG.out.openL, hs2.tail⟩
          · have e1 : (s.d == 1) = false := by simp [d1]
            clear d1
            by_cases d2 : s.d = 2
            · have e2 : (s.d == 2) = true := by simp [d2]
              clear d2
              go_wp2_with fail
              refine (fund_any hs 1 b xs rfl HG.out s.k s.x).mono ?_
              rintro en w2 ⟨rfl, hs2⟩
              simp only [List.set_cons_succ, List.set_cons_zero] at hs2
              have HS := Lib.hid (sum_fund (xs := xs) (k := s.k) (x := s.x))
              by_cases h0 : fundE xs s.k s.x = 0
              · have hx := (fund_ok h0).2
                have bx := cell_of (hs2.cells 0 rfl) 2
                simp only [stR, List.getElem?_toArray, List.getElem?_cons_succ, List.getElem?_cons_zero] at bx
                obtain ⟨hx0, hx1⟩ := hx
                have HE := Lib.hid h0
                rw [h0]
                clear h0
                go_wp2_with fail
                refine Meet.intro (by kernel_rfl) (hJC _ _ ?rel6)
                case' rel6 => (try dsimp only [nthV])
                case rel6 => exact ⟨fundL xs s.k s.x, by rw [HS.out, if_pos HE.out], Lib.hid (HG.out.fundL _ _), hs2.tail⟩
              · have HE := Lib.hid h0
                have e0 : (fundE xs s.k s.x == 0) = false := by simpa using h0
                clear h0
                go_wp2_with fail
                refine Meet.intro (by kernel_rfl) (hJC _ _ ?rel7)
                case' rel7 => (try dsimp only [nthV])
                case rel7 => exact ⟨fundL xs s.k s.x, by rw [HS.out, if_neg HE.out, Int.add_zero], Lib.hid (HG.out.fundL _ _), hs2.tail⟩
            · have e2 : (s.d == 2) = false := by simp [d2]
              clear d2
              by_cases d3 : s.d = 3
              · have e3 : (s.d == 3) = true := by simp [d3]
                clear d3
                go_wp2_with fail
                refine (draw_any hs 1 b xs rfl HG.out s.k s.x).mono ?_
                rintro en w2 ⟨rfl, hs2⟩
                simp only [List.set_cons_succ, List.set_cons_zero] at hs2
                have HS := Lib.hid (sum_draw (xs := xs) (k := s.k) (x := s.x))
                by_cases h0 : drawE xs s.k s.x = 0
                · have hx := (draw_ok h0).2.1
                  have bx := cell_of (hs2.cells 0 rfl) 2
                  simp only [stR, List.getElem?_toArray, List.getElem?_cons_succ, List.getElem?_cons_zero] at bx
                  obtain ⟨hx0, hx1⟩ := hx
                  have HE := Lib.hid h0
                  rw [h0]
                  clear h0
                  go_wp2_with fail
                  refine Meet.intro (by kernel_rfl) (hJC _ _ ?rel8)
                  case' rel8 => (try dsimp only [nthV])
                  case rel8 => exact ⟨drawL xs s.k s.x, by rw [HS.out, if_pos HE.out], Lib.hid (HG.out.drawL _ _), hs2.tail⟩
                · have HE := Lib.hid h0
                  have e0 : (drawE xs s.k s.x == 0) = false := by simpa using h0
                  clear h0
                  go_wp2_with fail
                  refine Meet.intro (by kernel_rfl) (hJC _ _ ?rel9)
                  case' rel9 => (try dsimp only [nthV])
                  case rel9 => exact ⟨drawL xs s.k s.x, by rw [HS.out, if_neg HE.out, Int.sub_zero], Lib.hid (HG.out.drawL _ _), hs2.tail⟩
              · have e3 : (s.d == 3) = false := by simp [d3]
                clear d3
                by_cases d4 : s.d = 4
                · have e4 : (s.d == 4) = true := by simp [d4]
                  clear d4
                  go_wp2_with fail
                  refine (reserve_any hs 1 b xs rfl HG.out s.k s.x).mono ?_
                  rintro en w2 ⟨rfl, hs2⟩
                  simp only [List.set_cons_succ, List.set_cons_zero] at hs2
                  go_wp2_with fail
                  refine Meet.intro (by kernel_rfl) (hJC _ _ ?rel10)
                  case' rel10 => (try dsimp only [nthV])
                  case rel10 => exact ⟨resL xs s.k s.x, by rw [sum_res], Lib.hid (HG.out.resL _ _), hs2.tail⟩
                · have e4 : (s.d == 4) = false := by simp [d4]
                  clear d4
                  by_cases d5 : s.d = 5
                  · have e5 : (s.d == 5) = true := by simp [d5]
                    clear d5
                    go_wp2_with fail
                    refine (ashift_any hs 1 b xs rfl (by have := HG.out.len; omega) _ s.by_ (fun W q => q.rd HRS.out)).mono ?_
                    rintro en w2 ⟨rfl, hs2⟩
                    simp only [List.set_cons_succ, List.set_cons_zero] at hs2
                    go_wp2_with fail
                    refine Meet.intro (by kernel_rfl) (hJC _ _ ?rel11)
                    case' rel11 => (try dsimp only [nthV])
                    case rel11 => exact ⟨shiftL xs s.by_, by rw [(HG.out.shiftL _).2], Lib.hid (HG.out.shiftL _).1, hs2.tail⟩
                  · have e5 : (s.d == 5) = false := by simp [d5]
                    clear d5
                    go_wp2_with fail
                    refine Meet.intro (by kernel_rfl) (hJC _ _ ?rel12)
                    case' rel12 => (try dsimp only [nthV])
                    case rel12 => exact ⟨xs, rfl, HG, hs.tail⟩
        case rest4 =>
          clear hs x0 x1 x2 x3
          obtain ⟨ys, rfl, HG2, hs⟩ := hrel
          obtain ⟨v, hv, hr⟩ := hs.obj 0 rfl
          have hc := cell_of hv 0
          simp only [List.getElem?_toArray, List.getElem?_cons_zero] at hc
          clear hv
          have hyl := HG2.out.len
          go_wp2_with fail
          refine (list_any b v ys _ hc hr (by omega)).mono ?_
          rintro en w3 ⟨u, rfl, k3⟩
          clear hc hr
          replace hs := hs.join k3
          simp only [List.cons_append, List.nil_append] at hs
          obtain ⟨am, cm, rfl⟩ := (hs.rdRecs 0 rfl).shape
          obtain ⟨t0, t1⟩ := sum_bound HG2.out
          clear k3
          go_wp2_with fail
          refine wp_loopM [none, none, some 2, none, none, none, none, some 7, none, some 9, none, none, none, none, none, none, none, none, none, none, none, none, none, none, none, none, none, none, none, none, none, none, none, none, none, none, none, none, none, none, none, none, none, none, none, none, none, none, none, none, none, none, none, none, none, none, none, none, none, none, none, none, none, none, none, none, none, none, none, none, none, none, none, some 73, some 74, some 75, some 76, some 77, some 78, some 79, some 80, some 81, some 82, some 83, some 84, some 85, some 86, some 87, some 88, some 89, some 90, some 91, none, none, none, none, none, none, none, none, none, none, none, none, none] (fun (r : Nat) (f : Nat → Value) (wq : World) => (fun (va v : Value) => ∃ (q : Nat), v = .int .i64 q ∧ va = .int .i64 ((bals ys).take q).sum ∧ q ≤ ys.length ∧ r = ys.length - q ∧ Sep w wq [recT acR 27 (.slice am ys.length cm) ys, accT b ys]) (f 7) (f 9)) (ys.length) (by kernel_rfl) ?atStart13 ?round13
          case' atStart13 => (try dsimp only [nthV])
          case' round13 =>
            intro gk f wr l hl hrel J2 K2 hJ2 hK2
            (try simp only [mask] at hl)
            generalize f 7 = u7 at hl hrel
            generalize f 9 = u9 at hl hrel
            subst hl
            (try dsimp only at hrel)
          case atStart13 => exact ⟨0, rfl, by simp, Nat.zero_le _, rfl, hs⟩
          case round13 =>
            clear hs
            obtain ⟨q, rfl, rfl, hq, rfl, hs⟩ := hrel
            by_cases hqt : q < ys.length
            · obtain ⟨b2, o2, e2, hb2, hc2⟩ := (hs.rdRecs 0 rfl).at q hqt
              subst e2
              have y0 := hc2 0 (by decide)
              simp only [acR, Nat.add_zero, List.getElem?_cons_zero] at y0
              have hs1 := sum_step (l := bals ys) (i := q) (by rw [bals_length]; exact hqt)
              rw [bals_get hqt] at hs1
              obtain ⟨u0, u1⟩ := sum_pre HG2.out q
              obtain ⟨⟨g0, g1⟩, _, _⟩ := HG2.out.at hqt
              obtain ⟨B, hB⟩ : ∃ B, B = ys[q].bal := ⟨_, rfl⟩
              obtain ⟨S, hS⟩ : ∃ S, S = ((bals ys).take q).sum := ⟨_, rfl⟩
              rw [← hB] at y0 hs1 g0 g1
              rw [← hS] at hs1 u0 u1 ⊢
              have HST := Lib.hid hs1
              have dB : decide (B < 0) = false := by simp; omega
              clear hB hS hs1 hc2
              go_wp2_with fail
              refine Round.intro (ys.length - (q + 1)) ?measure14 (by kernel_rfl) (hJ2 _ _ _ ?rel14)
              case' rel14 => (try dsimp only [nthV])
              case measure14 => omega
              case rel14 => exact ⟨q + 1, by go_num, by rw [HST.out], hqt, rfl, hs⟩
            · obtain rfl : q = ys.length := by omega
              rw [← bals_length ys, List.take_length]
              obtain ⟨S, hS⟩ : ∃ S, S = (bals ys).sum := ⟨_, rfl⟩
              rw [← hS] at t0 t1 ⊢
              have HS := Lib.hid hS
              rw [bals_length ys]
              have n0 : (S != S) = false := by simp
              have n1 : decide (4503599627370496 < S) = false := by simp; omega
              have n2 : decide (16 < (ys.length : Int)) = false := by simp; omega
              clear hS
              go_wp2_with fail
              refine Round.intro (l.length - (i + 1)) ?measure15 (by kernel_rfl) (hJ1 _ _ _ ?rel15)
              case' rel15 => (try dsimp only [nthV])
              case measure15 => omega
              case rel15 => exact ⟨i + 1, ys, by go_num, by rw [HS.out], hlt, rfl, HG2, hs.tail⟩
      · obtain rfl : i = l.length := by omega
        go_wp2_with fail
        refine (works_any _).mono ?_
        rintro en w2 ⟨rfl, hb⟩
        go_wp2_with fail
        go_ret
        exact ⟨rfl, (hs.belowStep hb).below⟩
end Go.Proofs.Ytlpfojpfepfdgaa
