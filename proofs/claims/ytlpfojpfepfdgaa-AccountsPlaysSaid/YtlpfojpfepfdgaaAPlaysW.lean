/-
  The law AccountsPlays, walked.
-/
import Derived.Test.YtlpfojpfepfdgaaARef2
import Derived.Test.YtlpfojpfepfdgaaASame
import Derived.Test.YtlpfojpfepfdgaaASumW
namespace Go.Proofs.Ytlpfojpfepfdgaa
open Go Go.RowKit Go.Mem Go.MoneyP Go.AcctP Go.Shelf

set_option maxRecDepth 100000 in
set_option maxHeartbeats 8000000 in
theorem accountsPlays_any (a0 : Option Addr) (c0 : Nat) (from_ : List Ac) (a : Option Addr) (c : Nat) (l : List St) (w : World) (h0 : RdG acR w (.slice a0 from_.length c0) from_) (h : RdG stR w (.slice a l.length c) l) (hr : ∀ s ∈ l, Rd .i64 w (.slice s.a s.by_.length s.c) s.by_) :
    Calls Try.prog 6 #[.slice a0 from_.length c0, .slice a l.length c] w fun en w' => en = .returned (.bool true) ∧ Below w.heap.size w w' := by
  obtain ⟨i0, hi0, hz0, hz1, hz2⟩ := info_parts Try.infoAcct
  have hle := h.le'
  have hle0 := h0.le'
  cases hf : fewB l
  · have H := Lib.hid hf
    clear hf
    go_enter Try.func6, Try.ntmps6
    go_wp2_with fail
    refine (few_any a c l _ h).mono ?_
    rintro en w1 ⟨rfl, rfl⟩
    rw [H.out]
    go_wp2_with fail
    refine (works_any _).mono ?_
    rintro en w2 ⟨rfl, hb⟩
    go_wp2_with fail
    go_ret
    exact ⟨rfl, hb⟩
  · by_cases h40 : 40 < from_.length
    · have H := Lib.hid hf
      have d40 : decide (40 < (from_.length : Int)) = true := by simp; omega
      clear hf
      go_enter Try.func6, Try.ntmps6
      go_wp2_with fail
      refine (few_any a c l _ h).mono ?_
      rintro en w1 ⟨rfl, rfl⟩
      rw [H.out]
      go_wp2_with fail
      refine (works_any _).mono ?_
      rintro en w2 ⟨rfl, hb⟩
      go_wp2_with fail
      go_ret
      exact ⟨rfl, hb⟩
    · have HF := Lib.hid hf
      have HR := Lib.hid hr
      have hll := (few_cap hf).1
      have d40 : decide (40 < (from_.length : Int)) = false := by simp; omega
      clear hf hr
      go_enter Try.func6, Try.ntmps6
      go_wp2_with fail
      refine (few_any a c l _ h).mono ?_
      rintro en w1 ⟨rfl, rfl⟩
      rw [HF.out]
      go_wp2_with fail
      refine (new_any _).mono ?_
      rintro en w1 ⟨b0, rfl, hs⟩
      replace hs := Sep.objNew (f := fun v => #[v]) ((hs.nilRecs acR 27).newCells #[.slice none 0 0] 51)
      go_upto_if 36 with fail
      generalize w1.heap.size = b1 at hs ⊢
      refine wp_cutM [none, none, none, none, some 4, some 5, some 6, some 7, some 8, some 9, some 10, none, none, none, none, none, none, none, none, none, none, none, none, none, none, none, none, none, none, none, none, none, none, none, some 34, some 35, some 36, some 37, some 38, some 39, some 40, some 41, some 42, some 43, some 44, some 45, some 46, some 47, some 48, some 49, some 50, some 51, some 52, some 53, some 54, some 55, some 56, some 57, some 58, some 59, some 60, some 61, some 62, some 63, none, none, none, none, none, none, none, none, none, none, none, none, none, none, none, none, none, none, none, none, none, none, none, none, none, none, none, none, none, none, none, none, none, none, none, none, none, none, none, none, none, none, none, none, none, none, none, none, none, none, none, none, none, none, none, none, none, none, none, none, none, none, none, none, none, none, none, none, none, none, none, none, none, none, none, none, none, none, none, none, none, none, none, none, none, none, none, none, none, none, none, none, none, none, none, none, none, none, none, none, none, none, none, none, none, none, none, none, none, none, none, none, none, none, none, none, none, none, none, none, none, none, none, none, none, none, none, none, none, none, none, none, none, none, none, none, none, none, none, none, none, none, none, none, none, none, none, none, none, none, none, none, none, none, none, none] (fun (f : Nat → Value) (wq : World) => (fun (va vb : Value) => ∃ (ba bb : Nat) (xs : List Ac), va = .pointer (some ⟨ba, 0, none⟩) ∧ vb = .pointer (some ⟨bb, 0, none⟩) ∧ Hid (GoodA xs) ∧ Sep w wq [raccT bb xs, accT ba xs]) (f 5) (f 6)) ?first1 ?rest1
      case' first1 => intro JC KC hJC hKC
      case' rest1 =>
        intro f wr l hl hrel
        (try simp only [mask] at hl)
        generalize f 5 = u5 at hl hrel
        generalize f 6 = u6 at hl hrel
        subst hl
        (try dsimp only at hrel)
      case first1 =>
        by_cases hp : 0 < from_.length
        · have dp : decide (0 < (from_.length : Int)) = true := decide_eq_true (by omega)
          replace hs := hs.litRecs acR 27 [] (by simp [maxLen])
          simp only [List.length_nil, Rec.flat, List.flatMap_nil, World.size_alloc] at hs
          go_wp2_with (at_builtin; refine wpList_appRdG acR rfl (.tmp 38) (.tmp 39) 25 rfl 27 i0 _ 16 Try.underlying25 hi0 hz0 hz1 hz2 rfl _ [] _ from_ hs 0 rfl (hs.rdG h0) rfl rfl ?c3 ?c4 ?grow)
          case c3 => (try simp); (try simp only [maxLen]); (try omega)
          case c4 => (try simp); (try simp only [maxLen]); (try omega)
          case grow =>
            intro v' w2 hs2
            (try simp only [List.set_cons_zero, List.nil_append] at hs2)
            clear hs
            go_wp2_with fail
            refine (of_any _ from_ _ (hs2.rdRecs 0 rfl) (by omega)).mono ?_
            rintro en w3 (⟨hE, b3, rfl, k3⟩ | ⟨hE, rfl, hb⟩)
            · have HE := Lib.hid hE
              clear hE
              replace hs2 := hs2.join k3
              clear k3
              go_wp2_with fail
              refine (rof_any _ from_ _ (hs2.rdG h0) (by omega)).mono ?_
              rintro en w4 (⟨_, b4, rfl, k4⟩ | ⟨hE4, _, _⟩)
              · replace hs2 := hs2.join k4
                clear k4
                go_wp2_with fail
                refine Meet.intro (by kernel_rfl) (hJC _ _ ?rel2)
                case' rel2 => (try dsimp only [nthV])
                case rel2 => exact ⟨b3, b4, from_, rfl, rfl, Lib.hid (GoodA.of HE.out), hs2.takeN 2⟩
              · exact (hE4 HE.out).elim
            · replace hs2 := hs2.belowStep hb
              clear hb
              have HE := Lib.hid hE
              clear hE
              obtain ⟨E, hE⟩ : ∃ E, E = ofE from_ := ⟨_, rfl⟩
              rw [← hE] at HE ⊢
              have HEE := Lib.hid hE
              clear hE
              go_wp2_with fail
              refine (rof_any _ from_ _ (hs2.rdG h0) (by omega)).mono ?_
              rintro en w4 (⟨hE4, _, _, _⟩ | ⟨_, rfl, hb⟩)
              · exact (HE.out (HEE.out.trans hE4)).elim
              · rw [← HEE.out]
                replace hs2 := hs2.belowStep hb
                clear hb
                have n0 : (E != E) = false := by simp
                go_wp2_with fail
                refine (works_any _).mono ?_
                rintro en w5 ⟨rfl, hb⟩
                go_wp2_with fail
                go_ret
                exact ⟨rfl, (hs2.belowStep hb).below⟩
        · have dp : decide (0 < (from_.length : Int)) = false := decide_eq_false (by omega)
          go_wp2_with fail
          refine Meet.intro (by kernel_rfl) (hJC _ _ ?rel3)
          case' rel3 => (try dsimp only [nthV])
          case rel3 => exact ⟨b0, b1, [], rfl, rfl, Lib.hid GoodA.nil, hs⟩
      case rest1 =>
        clear hs
        obtain ⟨ba, bb, xs0, rfl, rfl, HG0, hs⟩ := hrel
        go_wp2_with fail
        refine wp_loopM [none, none, none, none, some 4, none, none, none, none, none, none, some 11, some 12, some 13, some 14, some 15, some 16, some 17, some 18, none, none, none, none, none, none, none, none, none, none, none, none, none, none, none, none, none, none, none, none, none, none, none, none, none, none, none, none, none, none, none, none, none, none, none, none, none, none, none, none, none, none, none, none, none, some 64, some 65, some 66, some 67, some 68, some 69, some 70, some 71, some 72, some 73, some 74, some 75, some 76, some 77, some 78, some 79, some 80, some 81, some 82, some 83, some 84, some 85, some 86, some 87, some 88, some 89, some 90, some 91, some 92, some 93, some 94, some 95, some 96, some 97, some 98, some 99, some 100, some 101, some 102, some 103, some 104, some 105, some 106, some 107, some 108, some 109, some 110, some 111, some 112, some 113, some 114, some 115, some 116, some 117, some 118, some 119, some 120, some 121, some 122, some 123, some 124, some 125, some 126, some 127, some 128, some 129, some 130, some 131, some 132, some 133, some 134, some 135, some 136, some 137, some 138, some 139, some 140, some 141, some 142, some 143, some 144, some 145, some 146, some 147, some 148, some 149, some 150, some 151, some 152, some 153, some 154, some 155, some 156, some 157, some 158, some 159, some 160, some 161, some 162, some 163, some 164, some 165, some 166, some 167, some 168, some 169, some 170, some 171, some 172, some 173, some 174, some 175, some 176, some 177, some 178, some 179, some 180, some 181, some 182, some 183, some 184, some 185, some 186, some 187, some 188, some 189, some 190, some 191, some 192, some 193, some 194, none, none, none, none, none, none, none, none, none, none, none, none, none, none, none, none, none, none, none, none, none, none, none, none, none] (fun (r : Nat) (f : Nat → Value) (wr : World) => (fun (v : Value) => ∃ (i : Nat) (xs : List Ac), v = .int .i64 i ∧ i ≤ l.length ∧ r = l.length - i ∧ Hid (GoodA xs) ∧ Sep w wr [raccT bb xs, accT ba xs]) (f 11)) (l.length) (by kernel_rfl) ?atStart4 ?round4
        case' atStart4 => (try dsimp only [nthV])
        case' round4 =>
          intro gk f wr l hl hrel J1 K1 hJ1 hK1
          (try simp only [mask] at hl)
          generalize f 11 = u11 at hl hrel
          subst hl
          (try dsimp only at hrel)
        case atStart4 => exact ⟨0, xs0, rfl, Nat.zero_le _, rfl, HG0, hs⟩
        case round4 =>
          clear hs
          obtain ⟨i, xs, rfl, hi, rfl, HG, hs⟩ := hrel
          have hxl := HG.out.len
          by_cases hlt : i < l.length
          ·
            obtain ⟨b2, o2, e2, hb2, hc2⟩ := (hs.rdG h).at i hlt
            subst e2
            have x0 := hc2 0 (by decide)
            have x1 := hc2 1 (by decide)
            have x2 := hc2 2 (by decide)
            have x3 := hc2 3 (by decide)
            simp only [stR, Nat.add_zero, List.getElem?_cons_succ, List.getElem?_cons_zero] at x0 x1 x2 x3
            obtain ⟨s, hsl⟩ : ∃ s, s = l[i] := ⟨_, rfl⟩
            rw [← hsl] at x0 x1 x2 x3
            have HRS := Lib.hid (HR.out s (by rw [hsl]; exact List.getElem_mem hlt))
            clear hsl hc2
            replace hs := hs.newCells (stR.cells s).toArray 44
            go_upto_block 2 with fail
            generalize wr.heap.size = bs at hs ⊢
            clear x0 x1 x2 x3
            refine wp_cutM [none, none, none, none, some 4, none, none, none, none, none, none, none, none, some 13, some 14, some 15, some 16, none, none, none, none, none, none, none, none, none, none, none, none, none, none, none, none, none, none, none, none, none, none, none, none, none, none, none, none, none, none, none, none, none, none, none, none, none, none, none, none, none, none, none, none, none, none, none, none, none, none, none, none, none, none, none, none, none, none, none, some 76, some 77, some 78, some 79, some 80, some 81, some 82, some 83, some 84, some 85, some 86, some 87, some 88, some 89, some 90, some 91, some 92, some 93, some 94, some 95, some 96, some 97, some 98, some 99, some 100, some 101, some 102, some 103, some 104, some 105, some 106, some 107, some 108, some 109, some 110, some 111, some 112, some 113, some 114, some 115, some 116, some 117, some 118, some 119, some 120, some 121, some 122, some 123, some 124, some 125, some 126, some 127, some 128, some 129, some 130, some 131, some 132, some 133, some 134, some 135, some 136, some 137, some 138, some 139, some 140, some 141, some 142, none, none, none, none, none, none, none, none, none, none, none, none, none, none, none, none, none, none, none, none, none, none, none, none, none, none, none, none, none, none, none, none, none, none, none, none, none, none, none, none, none, none, none, none, none, none, none, none, none, none, none, none, none, none, none, none, none, none, none, none, none, none, none, none, none, none, none, none, none, none, none, none, none, none, none, none, none] (fun (f : Nat → Value) (wq : World) => (fun (ve vf : Value) => ∃ (E : Int) (ys : List Ac), ve = .int .i64 E ∧ vf = .int .i64 E ∧ Hid (GoodA ys) ∧ Sep w wq [cellsT bs (stR.cells s).toArray 44, raccT bb ys, accT ba ys]) (f 13) (f 14)) ?first5 ?rest5
            case' first5 => intro JC KC hJC hKC
            case' rest5 =>
              intro f wr l hl hrel
              (try simp only [mask] at hl)
              generalize f 13 = u13 at hl hrel
              generalize f 14 = u14 at hl hrel
              subst hl
              (try dsimp only at hrel)
            case first5 =>
              have bx := cell_of (hs.cells 0 rfl)
              have c1 := bx 1
              have c2 := bx 2
              have c3 := bx 3
              simp only [stR, List.getElem?_toArray, List.getElem?_cons_succ, List.getElem?_cons_zero] at c1 c2 c3
              clear bx
              have NX : ∀ E : Int, (E != E) = false := fun E => by simp
              by_cases d1 : s.d = 1
              · have e1 : (s.d == 1) = true := by simp [d1]
                clear d1 NX
                go_wp2_with fail
                refine (open_any hs 2 ba xs rfl (by omega)).mono ?_
                rintro en w2 ⟨rfl, hs2⟩
                go_wp2_with fail
                refine (ropen_any hs2 1 bb xs rfl (by omega)).mono ?_
                rintro en w3 ⟨rfl, hs3⟩
                clear hs hs2
                have n0 : (openV xs != openV xs) = false := by simp
                go_wp2_with fail
                refine Meet.intro (by kernel_rfl) (hJC _ _ ?rel6)
                case' rel6 => (try dsimp only [nthV])
                case rel6 => exact ⟨openE xs, openL xs, rfl, rfl, Lib.hid HG.out.openL, hs3⟩
              · have e1 : (s.d == 1) = false := by simp [d1]
                clear d1
                by_cases d2 : s.d = 2
                · have e2 : (s.d == 2) = true := by simp [d2]
                  clear d2 NX
                  go_wp2_with fail
                  refine (fund_any hs 2 ba xs rfl HG.out s.k s.x).mono ?_
                  rintro en w2 ⟨rfl, hs2⟩
                  have bx := cell_of (hs2.cells 0 rfl)
                  have y1 := bx 1
                  have y2 := bx 2
                  have y3 := bx 3
                  simp only [stR, List.getElem?_toArray, List.getElem?_cons_succ, List.getElem?_cons_zero] at y1 y2 y3
                  clear bx
                  go_wp2_with fail
                  refine (rfund_any hs2 1 bb xs rfl HG.out s.k s.x).mono ?_
                  rintro en w3 ⟨rfl, hs3⟩
                  clear hs hs2
                  go_wp2_with fail
                  refine Meet.intro (by kernel_rfl) (hJC _ _ ?rel7)
                  case' rel7 => (try dsimp only [nthV])
                  case rel7 => exact ⟨fundE xs s.k s.x, fundL xs s.k s.x, rfl, rfl, Lib.hid (HG.out.fundL _ _), hs3⟩
                · have e2 : (s.d == 2) = false := by simp [d2]
                  clear d2
                  by_cases d3 : s.d = 3
                  · have e3 : (s.d == 3) = true := by simp [d3]
                    clear d3 NX
                    go_wp2_with fail
                    refine (draw_any hs 2 ba xs rfl HG.out s.k s.x).mono ?_
                    rintro en w2 ⟨rfl, hs2⟩
                    have bx := cell_of (hs2.cells 0 rfl)
                    have y1 := bx 1
                    have y2 := bx 2
                    have y3 := bx 3
                    simp only [stR, List.getElem?_toArray, List.getElem?_cons_succ, List.getElem?_cons_zero] at y1 y2 y3
                    clear bx
                    go_wp2_with fail
                    refine (rdraw_any hs2 1 bb xs rfl HG.out s.k s.x).mono ?_
                    rintro en w3 ⟨rfl, hs3⟩
                    clear hs hs2
                    go_wp2_with fail
                    refine Meet.intro (by kernel_rfl) (hJC _ _ ?rel8)
                    case' rel8 => (try dsimp only [nthV])
                    case rel8 => exact ⟨drawE xs s.k s.x, drawL xs s.k s.x, rfl, rfl, Lib.hid (HG.out.drawL _ _), hs3⟩
                  · have e3 : (s.d == 3) = false := by simp [d3]
                    clear d3
                    by_cases d4 : s.d = 4
                    · have e4 : (s.d == 4) = true := by simp [d4]
                      clear d4 NX
                      go_wp2_with fail
                      refine (reserve_any hs 2 ba xs rfl HG.out s.k s.x).mono ?_
                      rintro en w2 ⟨rfl, hs2⟩
                      have bx := cell_of (hs2.cells 0 rfl)
                      have y1 := bx 1
                      have y2 := bx 2
                      have y3 := bx 3
                      simp only [stR, List.getElem?_toArray, List.getElem?_cons_succ, List.getElem?_cons_zero] at y1 y2 y3
                      clear bx
                      go_wp2_with fail
                      refine (rres_any hs2 1 bb xs rfl HG.out s.k s.x).mono ?_
                      rintro en w3 ⟨rfl, hs3⟩
                      clear hs hs2
                      go_wp2_with fail
                      refine Meet.intro (by kernel_rfl) (hJC _ _ ?rel9)
                      case' rel9 => (try dsimp only [nthV])
                      case rel9 => exact ⟨resE xs s.k s.x, resL xs s.k s.x, rfl, rfl, Lib.hid (HG.out.resL _ _), hs3⟩
                    · have e4 : (s.d == 4) = false := by simp [d4]
                      clear d4
                      by_cases d5 : s.d = 5
                      · have e5 : (s.d == 5) = true := by simp [d5]
                        clear d5 NX
                        go_wp2_with fail
                        refine (ashift_any hs 2 ba xs rfl (by omega) _ s.by_ (fun W q => q.rd HRS.out)).mono ?_
                        rintro en w2 ⟨rfl, hs2⟩
                        have bx := cell_of (hs2.cells 0 rfl)
                        have y1 := bx 1
                        have y2 := bx 2
                        have y3 := bx 3
                        simp only [stR, List.getElem?_toArray, List.getElem?_cons_succ, List.getElem?_cons_zero] at y1 y2 y3
                        clear bx
                        go_wp2_with fail
                        refine (rashift_any hs2 1 bb xs rfl (by omega) _ s.by_ (fun W q => q.rd HRS.out)).mono ?_
                        rintro en w3 ⟨rfl, hs3⟩
                        clear hs hs2
                        go_wp2_with fail
                        refine Meet.intro (by kernel_rfl) (hJC _ _ ?rel10)
                        case' rel10 => (try dsimp only [nthV])
                        case rel10 => exact ⟨shiftE (bals xs) s.by_, shiftL xs s.by_, rfl, rfl, Lib.hid (HG.out.shiftL _).1, hs3⟩
                      · have e5 : (s.d == 5) = false := by simp [d5]
                        clear d5
                        clear NX
                        go_wp2_with fail
                        refine Meet.intro (by kernel_rfl) (hJC _ _ ?rel11)
                        case' rel11 => (try dsimp only [nthV])
                        case rel11 => exact ⟨0, xs, rfl, rfl, HG, hs⟩
            case rest5 =>
              clear hs
              obtain ⟨E, ys, rfl, rfl, HG2, hs⟩ := hrel
              have hyl := HG2.out.len
              have nE : (E != E) = false := by simp
              have nB : ∀ q : Bool, (q != q) = false := fun q => by simp
              have c1 := cell_of (hs.cells 0 rfl) 1
              simp only [stR, List.getElem?_toArray, List.getElem?_cons_succ, List.getElem?_cons_zero] at c1
              obtain ⟨v, hv, hr⟩ := hs.obj 2 rfl
              have hc := cell_of hv 0
              simp only [List.getElem?_toArray, List.getElem?_cons_zero] at hc
              clear hv
              go_wp2_with fail
              refine (get_any ba v ys s.k _ hc hr).mono ?_
              rintro en w5 ⟨rfl, hb⟩
              clear hc hr
              replace hs := hs.belowStep hb
              clear hb c1
              have c1 := cell_of (hs.cells 0 rfl) 1
              simp only [stR, List.getElem?_toArray, List.getElem?_cons_succ, List.getElem?_cons_zero] at c1
              by_cases hb0 : s.k < 0
              · have HB := Lib.hid ((bankB_no ys.length s.k).2 (.inl hb0))
                rw [HB.out]
                have g0 : decide (0 ≤ s.k) = false := decide_eq_false (by omega)
                clear hb0
                replace hs := hs.newCells #[.int .i64 ((getV ys s.k).bal), .int .i64 ((getV ys s.k).res)] 27
                go_upto_region 40 with fail
                clear c1
                obtain ⟨vb, hvb, hrb⟩ := hs.obj 2 rfl
                obtain ⟨ab, cb, rfl⟩ := hrb.shape
                have hcb := cell_of hvb 0
                simp only [List.getElem?_toArray, List.getElem?_cons_zero] at hcb
                have hCW := (show (fun W : World => W.cell? ⟨bb, 0, none⟩ = some (.slice ab ys.length cb)) _ from hcb)
                refine Mix.region [0, 0, 0, 0, 0, 2, 1, 1, 1, 1, 2, 0, 0, 0, 0, 0, 0, 0, 0, 0, 0, 0, 0, 0, 0, 0, 0, 0, 0, 0, 0, 0, 0, 0, 0, 0, 0, 0, 0, 0, 0, 0, 0, 0, 0] (fun W : World => W.cell? ⟨bb, 0, none⟩ = some (.slice ab ys.length cb)) (by kernel_rfl) (by kernel_rfl) hCW ?_
                simp only [List.zip_cons_cons, List.zip_nil_right]
                iterate 4 (refine Mix.step0 fun K hK => ?_; go_simp; (try (go_bits; try go_simp)); first | ((with_reducible refine hK _ _ ?_); clear hK K) | ((try (simp only [IntWalk.iteOmega]; try go_simp)); (try go_bits); (with_reducible refine hK _ _ ?_); clear hK K))
                iterate 1 (first | (refine Mix.stepS rfl fun K hK => ?_; go_simp; (with_reducible refine hK _ _ ?_); clear hK K) | (refine Mix.step0 fun K hK => ?_; go_simp; (try (go_bits; try go_simp)); first | ((with_reducible refine hK _ _ ?_); clear hK K) | ((try (simp only [IntWalk.iteOmega]; try go_simp)); (try go_bits); (with_reducible refine hK _ _ ?_); clear hK K)))
                refine Mix.step2n (by first | rfl | simp [Region.wanted, yielded]) fun K hK => ?_
                go_wp2_with fail
                replace hs := hs.drew
                obtain ⟨va, hva, hra⟩ := hs.obj 3 rfl
                have hca := cell_of hva 0
                simp only [List.getElem?_toArray, List.getElem?_cons_zero] at hca
                refine (list_any ba va ys _ hca hra (by omega)).mono ?_
                rintro en w6 ⟨u, rfl, k6⟩
                have hcb6 := (k6.below.cell (p := ⟨bb, 0, none⟩) (lt_of hvb)).trans hcb
                clear hca hra hva hCW hcb
                replace hs := hs.join k6
                simp only [List.cons_append, List.nil_append] at hs
                have hrb6 := (Sep.ofBelow k6.below).rdG hrb
                clear hvb hrb k6
                have hCW := (show (fun W : World => W.cell? ⟨bb, 0, none⟩ = some (.slice ab ys.length cb)) _ from hcb6)
                go_wp2_with fail
                refine Mix.post_mk (C := (fun W : World => W.cell? ⟨bb, 0, none⟩ = some (.slice ab ys.length cb))) (by first | exact hCW | exact HCW.out _) (hK _ _ ?_)
                clear hK K
                (first | (refine Mix.stepS rfl fun K hK => ?_; go_simp; (with_reducible refine hK _ _ ?_); clear hK K) | (refine Mix.step1 fun K hK => ?_; go_simp; (try (go_bits; try go_simp)); first | ((with_reducible refine hK _ _ ?_); clear hK K) | ((try (simp only [IntWalk.iteOmega]; try go_simp)); (try go_bits); (with_reducible refine hK _ _ ?_); clear hK K)))
                (first | (refine Mix.stepS rfl fun K hK => ?_; go_simp; (with_reducible refine hK _ _ ?_); clear hK K) | (refine Mix.step1 fun K hK => ?_; go_simp; (try (go_bits; try go_simp)); first | ((with_reducible refine hK _ _ ?_); clear hK K) | ((try (simp only [IntWalk.iteOmega]; try go_simp)); (try go_bits); (with_reducible refine hK _ _ ?_); clear hK K)))
                (first | (refine Mix.stepS rfl fun K hK => ?_; go_simp; (with_reducible refine hK _ _ ?_); clear hK K) | (refine Mix.step1 fun K hK => ?_; go_simp; (try (go_bits; try go_simp)); first | ((with_reducible refine hK _ _ ?_); clear hK K) | ((try (simp only [IntWalk.iteOmega]; try go_simp)); (try go_bits); (with_reducible refine hK _ _ ?_); clear hK K)))
                (first | (refine Mix.stepS rfl fun K hK => ?_; go_simp; (with_reducible refine hK _ _ ?_); clear hK K) | (refine Mix.step1 fun K hK => ?_; go_simp; refine ⟨fun W => ?_, hK _ _ ?_⟩; (intro hW1; (try intro hW2); (try intro hW3); (try intro hW4); (try intro hW5); (try intro hW6); (try intro hW7); (try intro hW8); go_simp); clear hK K))
                refine Mix.step2n (by first | rfl | simp [Region.wanted, yielded]) fun K hK => ?_
                go_wp2_with fail
                refine (same_same u _ ys _ (hs.rdRecs 0 rfl) hrb6).mono ?_
                rintro en w7 ⟨rfl, hb⟩
                have hcb7 := (hb.cell (p := ⟨bb, 0, none⟩) (World.block_lt_of_cell? w6 _ hcb6)).trans hcb6
                have hrb7 := hrb6.below hb
                clear hCW hcb6 hrb6
                replace hs := hs.tail.belowStep hb
                clear hb
                have c1 := cell_of (hs.cells 1 rfl) 1
                simp only [stR, List.getElem?_toArray, List.getElem?_cons_succ, List.getElem?_cons_zero] at c1
                have hCW := (show (fun W : World => W.cell? ⟨bb, 0, none⟩ = some (.slice ab ys.length cb)) _ from hcb7)
                go_wp2_with fail
                refine Mix.post_mk (C := (fun W : World => W.cell? ⟨bb, 0, none⟩ = some (.slice ab ys.length cb))) (by first | exact hCW | exact HCW.out _) (hK _ _ ?_)
                clear hK K
                iterate 1 (first | (refine Mix.stepS rfl fun K hK => ?_; go_simp; (with_reducible refine hK _ _ ?_); clear hK K) | (refine Mix.step0 fun K hK => ?_; go_simp; (try (go_bits; try go_simp)); first | ((with_reducible refine hK _ _ ?_); clear hK K) | ((try (simp only [IntWalk.iteOmega]; try go_simp)); (try go_bits); (with_reducible refine hK _ _ ?_); clear hK K)))
                iterate 2 (refine Mix.step0 fun K hK => ?_; go_simp; (try (go_bits; try go_simp)); first | ((with_reducible refine hK _ _ ?_); clear hK K) | ((try (simp only [IntWalk.iteOmega]; try go_simp)); (try go_bits); (with_reducible refine hK _ _ ?_); clear hK K))
                iterate 15 (first | (refine Mix.stepS rfl fun K hK => ?_; go_simp; (with_reducible refine hK _ _ ?_); clear hK K) | (refine Mix.step0 fun K hK => ?_; go_simp; (try (go_bits; try go_simp)); first | ((with_reducible refine hK _ _ ?_); clear hK K) | ((try (simp only [IntWalk.iteOmega]; try go_simp)); (try go_bits); (with_reducible refine hK _ _ ?_); clear hK K)))
                iterate 2 (refine Mix.step0 fun K hK => ?_; go_simp; (try (go_bits; try go_simp)); first | ((with_reducible refine hK _ _ ?_); clear hK K) | ((try (simp only [IntWalk.iteOmega]; try go_simp)); (try go_bits); (with_reducible refine hK _ _ ?_); clear hK K))
                iterate 13 (first | (refine Mix.stepS rfl fun K hK => ?_; go_simp; (with_reducible refine hK _ _ ?_); clear hK K) | (refine Mix.step0 fun K hK => ?_; go_simp; (try (go_bits; try go_simp)); first | ((with_reducible refine hK _ _ ?_); clear hK K) | ((try (simp only [IntWalk.iteOmega]; try go_simp)); (try go_bits); (with_reducible refine hK _ _ ?_); clear hK K)))
                iterate 1 (refine Mix.step0 fun K hK => ?_; go_simp; (try (go_bits; try go_simp)); first | ((with_reducible refine hK _ _ ?_); clear hK K) | ((try (simp only [IntWalk.iteOmega]; try go_simp)); (try go_bits); (with_reducible refine hK _ _ ?_); clear hK K))
                refine Mix.done ?_
                clear hCW
                go_wp2_with fail
                refine Round.intro (l.length - (i + 1)) ?measure12 (by kernel_rfl) (hJ1 _ _ _ ?rel12)
                case' rel12 => (try dsimp only [nthV])
                case measure12 => omega
                case rel12 => exact ⟨i + 1, ys, by go_num, hlt, rfl, HG2, hs.tail.tail⟩
              · by_cases hb1 : (ys.length : Int) ≤ s.k
                · have HB := Lib.hid ((bankB_no ys.length s.k).2 (.inr hb1))
                  rw [HB.out]
                  have g0 : decide (0 ≤ s.k) = true := decide_eq_true (by omega)
                  have g1 : decide (s.k < (ys.length : Int)) = false := decide_eq_false (by omega)
                  clear hb0 hb1
                  replace hs := hs.newCells #[.int .i64 ((getV ys s.k).bal), .int .i64 ((getV ys s.k).res)] 27
                  go_upto_region 40 with fail
                  clear c1
                  obtain ⟨vb, hvb, hrb⟩ := hs.obj 2 rfl
                  obtain ⟨ab, cb, rfl⟩ := hrb.shape
                  have hcb := cell_of hvb 0
                  simp only [List.getElem?_toArray, List.getElem?_cons_zero] at hcb
                  have hCW := (show (fun W : World => W.cell? ⟨bb, 0, none⟩ = some (.slice ab ys.length cb)) _ from hcb)
                  refine Mix.region [0, 0, 0, 0, 0, 2, 1, 1, 1, 1, 2, 0, 0, 0, 0, 0, 0, 0, 0, 0, 0, 0, 0, 0, 0, 0, 0, 0, 0, 0, 0, 0, 0, 0, 0, 0, 0, 0, 0, 0, 0, 0, 0, 0, 0] (fun W : World => W.cell? ⟨bb, 0, none⟩ = some (.slice ab ys.length cb)) (by kernel_rfl) (by kernel_rfl) hCW ?_
                  simp only [List.zip_cons_cons, List.zip_nil_right]
                  iterate 4 (refine Mix.step0 fun K hK => ?_; go_simp; (try (go_bits; try go_simp)); first | ((with_reducible refine hK _ _ ?_); clear hK K) | ((try (simp only [IntWalk.iteOmega]; try go_simp)); (try go_bits); (with_reducible refine hK _ _ ?_); clear hK K))
                  iterate 1 (first | (refine Mix.stepS rfl fun K hK => ?_; go_simp; (with_reducible refine hK _ _ ?_); clear hK K) | (refine Mix.step0 fun K hK => ?_; go_simp; (try (go_bits; try go_simp)); first | ((with_reducible refine hK _ _ ?_); clear hK K) | ((try (simp only [IntWalk.iteOmega]; try go_simp)); (try go_bits); (with_reducible refine hK _ _ ?_); clear hK K)))
                  refine Mix.step2n (by first | rfl | simp [Region.wanted, yielded]) fun K hK => ?_
                  go_wp2_with fail
                  replace hs := hs.drew
                  obtain ⟨va, hva, hra⟩ := hs.obj 3 rfl
                  have hca := cell_of hva 0
                  simp only [List.getElem?_toArray, List.getElem?_cons_zero] at hca
                  refine (list_any ba va ys _ hca hra (by omega)).mono ?_
                  rintro en w6 ⟨u, rfl, k6⟩
                  have hcb6 := (k6.below.cell (p := ⟨bb, 0, none⟩) (lt_of hvb)).trans hcb
                  clear hca hra hva hCW hcb
                  replace hs := hs.join k6
                  simp only [List.cons_append, List.nil_append] at hs
                  have hrb6 := (Sep.ofBelow k6.below).rdG hrb
                  clear hvb hrb k6
                  have hCW := (show (fun W : World => W.cell? ⟨bb, 0, none⟩ = some (.slice ab ys.length cb)) _ from hcb6)
                  go_wp2_with fail
                  refine Mix.post_mk (C := (fun W : World => W.cell? ⟨bb, 0, none⟩ = some (.slice ab ys.length cb))) (by first | exact hCW | exact HCW.out _) (hK _ _ ?_)
                  clear hK K
                  (first | (refine Mix.stepS rfl fun K hK => ?_; go_simp; (with_reducible refine hK _ _ ?_); clear hK K) | (refine Mix.step1 fun K hK => ?_; go_simp; (try (go_bits; try go_simp)); first | ((with_reducible refine hK _ _ ?_); clear hK K) | ((try (simp only [IntWalk.iteOmega]; try go_simp)); (try go_bits); (with_reducible refine hK _ _ ?_); clear hK K)))
                  (first | (refine Mix.stepS rfl fun K hK => ?_; go_simp; (with_reducible refine hK _ _ ?_); clear hK K) | (refine Mix.step1 fun K hK => ?_; go_simp; (try (go_bits; try go_simp)); first | ((with_reducible refine hK _ _ ?_); clear hK K) | ((try (simp only [IntWalk.iteOmega]; try go_simp)); (try go_bits); (with_reducible refine hK _ _ ?_); clear hK K)))
                  (first | (refine Mix.stepS rfl fun K hK => ?_; go_simp; (with_reducible refine hK _ _ ?_); clear hK K) | (refine Mix.step1 fun K hK => ?_; go_simp; (try (go_bits; try go_simp)); first | ((with_reducible refine hK _ _ ?_); clear hK K) | ((try (simp only [IntWalk.iteOmega]; try go_simp)); (try go_bits); (with_reducible refine hK _ _ ?_); clear hK K)))
                  (first | (refine Mix.stepS rfl fun K hK => ?_; go_simp; (with_reducible refine hK _ _ ?_); clear hK K) | (refine Mix.step1 fun K hK => ?_; go_simp; refine ⟨fun W => ?_, hK _ _ ?_⟩; (intro hW1; (try intro hW2); (try intro hW3); (try intro hW4); (try intro hW5); (try intro hW6); (try intro hW7); (try intro hW8); go_simp); clear hK K))
                  refine Mix.step2n (by first | rfl | simp [Region.wanted, yielded]) fun K hK => ?_
                  go_wp2_with fail
                  refine (same_same u _ ys _ (hs.rdRecs 0 rfl) hrb6).mono ?_
                  rintro en w7 ⟨rfl, hb⟩
                  have hcb7 := (hb.cell (p := ⟨bb, 0, none⟩) (World.block_lt_of_cell? w6 _ hcb6)).trans hcb6
                  have hrb7 := hrb6.below hb
                  clear hCW hcb6 hrb6
                  replace hs := hs.tail.belowStep hb
                  clear hb
                  have c1 := cell_of (hs.cells 1 rfl) 1
                  simp only [stR, List.getElem?_toArray, List.getElem?_cons_succ, List.getElem?_cons_zero] at c1
                  have hCW := (show (fun W : World => W.cell? ⟨bb, 0, none⟩ = some (.slice ab ys.length cb)) _ from hcb7)
                  go_wp2_with fail
                  refine Mix.post_mk (C := (fun W : World => W.cell? ⟨bb, 0, none⟩ = some (.slice ab ys.length cb))) (by first | exact hCW | exact HCW.out _) (hK _ _ ?_)
                  clear hK K
                  iterate 1 (first | (refine Mix.stepS rfl fun K hK => ?_; go_simp; (with_reducible refine hK _ _ ?_); clear hK K) | (refine Mix.step0 fun K hK => ?_; go_simp; (try (go_bits; try go_simp)); first | ((with_reducible refine hK _ _ ?_); clear hK K) | ((try (simp only [IntWalk.iteOmega]; try go_simp)); (try go_bits); (with_reducible refine hK _ _ ?_); clear hK K)))
                  iterate 2 (refine Mix.step0 fun K hK => ?_; go_simp; (try (go_bits; try go_simp)); first | ((with_reducible refine hK _ _ ?_); clear hK K) | ((try (simp only [IntWalk.iteOmega]; try go_simp)); (try go_bits); (with_reducible refine hK _ _ ?_); clear hK K))
                  iterate 15 (first | (refine Mix.stepS rfl fun K hK => ?_; go_simp; (with_reducible refine hK _ _ ?_); clear hK K) | (refine Mix.step0 fun K hK => ?_; go_simp; (try (go_bits; try go_simp)); first | ((with_reducible refine hK _ _ ?_); clear hK K) | ((try (simp only [IntWalk.iteOmega]; try go_simp)); (try go_bits); (with_reducible refine hK _ _ ?_); clear hK K)))
                  iterate 2 (refine Mix.step0 fun K hK => ?_; go_simp; (try (go_bits; try go_simp)); first | ((with_reducible refine hK _ _ ?_); clear hK K) | ((try (simp only [IntWalk.iteOmega]; try go_simp)); (try go_bits); (with_reducible refine hK _ _ ?_); clear hK K))
                  iterate 13 (first | (refine Mix.stepS rfl fun K hK => ?_; go_simp; (with_reducible refine hK _ _ ?_); clear hK K) | (refine Mix.step0 fun K hK => ?_; go_simp; (try (go_bits; try go_simp)); first | ((with_reducible refine hK _ _ ?_); clear hK K) | ((try (simp only [IntWalk.iteOmega]; try go_simp)); (try go_bits); (with_reducible refine hK _ _ ?_); clear hK K)))
                  iterate 1 (refine Mix.step0 fun K hK => ?_; go_simp; (try (go_bits; try go_simp)); first | ((with_reducible refine hK _ _ ?_); clear hK K) | ((try (simp only [IntWalk.iteOmega]; try go_simp)); (try go_bits); (with_reducible refine hK _ _ ?_); clear hK K))
                  refine Mix.done ?_
                  clear hCW
                  go_wp2_with fail
                  refine Round.intro (l.length - (i + 1)) ?measure13 (by kernel_rfl) (hJ1 _ _ _ ?rel13)
                  case' rel13 => (try dsimp only [nthV])
                  case measure13 => omega
                  case rel13 => exact ⟨i + 1, ys, by go_num, hlt, rfl, HG2, hs.tail.tail⟩
                · obtain ⟨m, hm⟩ : ∃ m : Nat, s.k = m := ⟨s.k.toNat, by omega⟩
                  have hml : m < ys.length := by omega
                  have hbk := (bankB_iff ys.length s.k).2 ⟨by omega, by omega⟩
                  have HV := Lib.hid (show getV ys s.k = ys[m] by simp [getV, hm, (hm ▸ hbk : bankB ys.length (m : Int) = true), acAt_of hml])
                  have HB := Lib.hid hbk
                  have HM := Lib.hid hm
                  rw [HB.out, HV.out]
                  have g1 : decide ((m : Int) < (ys.length : Int)) = true := decide_eq_true (by omega)
                  rw [hm] at c1
                  obtain ⟨B, hB⟩ : ∃ B, B = ys[m].bal := ⟨_, rfl⟩
                  obtain ⟨R, hR⟩ : ∃ R, R = ys[m].res := ⟨_, rfl⟩
                  have HVB := Lib.hid hB.symm
                  have HVR := Lib.hid hR.symm
                  rw [← hB, ← hR]
                  clear hb0 hb1 hbk hm hB hR
                  replace hs := hs.newCells #[.int .i64 (B), .int .i64 (R)] 27
                  go_upto_region 40 with fail
                  clear c1
                  obtain ⟨vb, hvb, hrb⟩ := hs.obj 2 rfl
                  obtain ⟨ab, cb, rfl⟩ := hrb.shape
                  have hcb := cell_of hvb 0
                  simp only [List.getElem?_toArray, List.getElem?_cons_zero] at hcb
                  obtain ⟨b5, o5, e5, hb5, hc5⟩ := hrb.at m hml
                  subst e5
                  clear hc5 hb5
                  have hCW := (show (fun W : World => W.cell? ⟨bb, 0, none⟩ = some (.slice (some ⟨b5, o5, none⟩) ys.length cb)) _ from hcb)
                  refine Mix.region [0, 0, 0, 0, 0, 2, 1, 1, 1, 1, 2, 0, 0, 0, 0, 0, 0, 0, 0, 0, 0, 0, 0, 0, 0, 0, 0, 0, 0, 0, 0, 0, 0, 0, 0, 0, 0, 0, 0, 0, 0, 0, 0, 0, 0] (fun W : World => W.cell? ⟨bb, 0, none⟩ = some (.slice (some ⟨b5, o5, none⟩) ys.length cb)) (by kernel_rfl) (by kernel_rfl) hCW ?_
                  simp only [List.zip_cons_cons, List.zip_nil_right]
                  iterate 4 (refine Mix.step0 fun K hK => ?_; go_simp; (try (go_bits; try go_simp)); first | ((with_reducible refine hK _ _ ?_); clear hK K) | ((try (simp only [IntWalk.iteOmega]; try go_simp)); (try go_bits); (with_reducible refine hK _ _ ?_); clear hK K))
                  iterate 1 (first | (refine Mix.stepS rfl fun K hK => ?_; go_simp; (with_reducible refine hK _ _ ?_); clear hK K) | (refine Mix.step0 fun K hK => ?_; go_simp; (try (go_bits; try go_simp)); first | ((with_reducible refine hK _ _ ?_); clear hK K) | ((try (simp only [IntWalk.iteOmega]; try go_simp)); (try go_bits); (with_reducible refine hK _ _ ?_); clear hK K)))
                  refine Mix.step2n (by first | rfl | simp [Region.wanted, yielded]) fun K hK => ?_
                  go_wp2_with fail
                  replace hs := hs.drew
                  obtain ⟨va, hva, hra⟩ := hs.obj 3 rfl
                  have hca := cell_of hva 0
                  simp only [List.getElem?_toArray, List.getElem?_cons_zero] at hca
                  refine (list_any ba va ys _ hca hra (by omega)).mono ?_
                  rintro en w6 ⟨u, rfl, k6⟩
                  have hcb6 := (k6.below.cell (p := ⟨bb, 0, none⟩) (lt_of hvb)).trans hcb
                  clear hca hra hva hCW hcb
                  replace hs := hs.join k6
                  simp only [List.cons_append, List.nil_append] at hs
                  have hrb6 := (Sep.ofBelow k6.below).rdG hrb
                  clear hvb hrb k6
                  have hCW := (show (fun W : World => W.cell? ⟨bb, 0, none⟩ = some (.slice (some ⟨b5, o5, none⟩) ys.length cb)) _ from hcb6)
                  go_wp2_with fail
                  refine Mix.post_mk (C := (fun W : World => W.cell? ⟨bb, 0, none⟩ = some (.slice (some ⟨b5, o5, none⟩) ys.length cb))) (by first | exact hCW | exact HCW.out _) (hK _ _ ?_)
                  clear hK K
                  (first | (refine Mix.stepS rfl fun K hK => ?_; go_simp; (with_reducible refine hK _ _ ?_); clear hK K) | (refine Mix.step1 fun K hK => ?_; go_simp; (try (go_bits; try go_simp)); first | ((with_reducible refine hK _ _ ?_); clear hK K) | ((try (simp only [IntWalk.iteOmega]; try go_simp)); (try go_bits); (with_reducible refine hK _ _ ?_); clear hK K)))
                  (first | (refine Mix.stepS rfl fun K hK => ?_; go_simp; (with_reducible refine hK _ _ ?_); clear hK K) | (refine Mix.step1 fun K hK => ?_; go_simp; (try (go_bits; try go_simp)); first | ((with_reducible refine hK _ _ ?_); clear hK K) | ((try (simp only [IntWalk.iteOmega]; try go_simp)); (try go_bits); (with_reducible refine hK _ _ ?_); clear hK K)))
                  (first | (refine Mix.stepS rfl fun K hK => ?_; go_simp; (with_reducible refine hK _ _ ?_); clear hK K) | (refine Mix.step1 fun K hK => ?_; go_simp; (try (go_bits; try go_simp)); first | ((with_reducible refine hK _ _ ?_); clear hK K) | ((try (simp only [IntWalk.iteOmega]; try go_simp)); (try go_bits); (with_reducible refine hK _ _ ?_); clear hK K)))
                  (first | (refine Mix.stepS rfl fun K hK => ?_; go_simp; (with_reducible refine hK _ _ ?_); clear hK K) | (refine Mix.step1 fun K hK => ?_; go_simp; refine ⟨fun W => ?_, hK _ _ ?_⟩; (intro hW1; (try intro hW2); (try intro hW3); (try intro hW4); (try intro hW5); (try intro hW6); (try intro hW7); (try intro hW8); go_simp); clear hK K))
                  refine Mix.step2n (by first | rfl | simp [Region.wanted, yielded]) fun K hK => ?_
                  go_wp2_with fail
                  refine (same_same u _ ys _ (hs.rdRecs 0 rfl) hrb6).mono ?_
                  rintro en w7 ⟨rfl, hb⟩
                  have hcb7 := (hb.cell (p := ⟨bb, 0, none⟩) (World.block_lt_of_cell? w6 _ hcb6)).trans hcb6
                  have hrb7 := hrb6.below hb
                  clear hCW hcb6 hrb6
                  replace hs := hs.tail.belowStep hb
                  clear hb
                  have c1 := cell_of (hs.cells 1 rfl) 1
                  simp only [stR, List.getElem?_toArray, List.getElem?_cons_succ, List.getElem?_cons_zero] at c1
                  rw [HM.out] at c1
                  obtain ⟨b6, o6, e6, hb6, hc6⟩ := hrb7.at m hml
                  injection e6 with e6
                  injection e6 with e6 e7
                  subst e6
                  subst e7
                  have z0 := hc6 0 (by decide)
                  have z1 := hc6 1 (by decide)
                  have y0 := cell_of (hs.cells 0 rfl) 0
                  have y1 := cell_of (hs.cells 0 rfl) 1
                  simp only [acR, Nat.add_zero, List.getElem?_toArray, List.getElem?_cons_zero, List.getElem?_cons_succ] at z0 z1 y0 y1
                  rw [HVB.out] at z0
                  rw [HVR.out] at z1
                  clear hc6 hb6
                  have hCW := (show (fun W : World => W.cell? ⟨bb, 0, none⟩ = some (.slice (some ⟨b5, o5, none⟩) ys.length cb)) _ from hcb7)
                  go_wp2_with fail
                  refine Mix.post_mk (C := (fun W : World => W.cell? ⟨bb, 0, none⟩ = some (.slice (some ⟨b5, o5, none⟩) ys.length cb))) (by first | exact hCW | exact HCW.out _) (hK _ _ ?_)
                  clear hK K
                  iterate 1 (first | (refine Mix.stepS rfl fun K hK => ?_; go_simp; (with_reducible refine hK _ _ ?_); clear hK K) | (refine Mix.step0 fun K hK => ?_; go_simp; (try (go_bits; try go_simp)); first | ((with_reducible refine hK _ _ ?_); clear hK K) | ((try (simp only [IntWalk.iteOmega]; try go_simp)); (try go_bits); (with_reducible refine hK _ _ ?_); clear hK K)))
                  iterate 2 (refine Mix.step0 fun K hK => ?_; go_simp; (try (go_bits; try go_simp)); first | ((with_reducible refine hK _ _ ?_); clear hK K) | ((try (simp only [IntWalk.iteOmega]; try go_simp)); (try go_bits); (with_reducible refine hK _ _ ?_); clear hK K))
                  iterate 15 (first | (refine Mix.stepS rfl fun K hK => ?_; go_simp; (with_reducible refine hK _ _ ?_); clear hK K) | (refine Mix.step0 fun K hK => ?_; go_simp; (try (go_bits; try go_simp)); first | ((with_reducible refine hK _ _ ?_); clear hK K) | ((try (simp only [IntWalk.iteOmega]; try go_simp)); (try go_bits); (with_reducible refine hK _ _ ?_); clear hK K)))
                  iterate 2 (refine Mix.step0 fun K hK => ?_; go_simp; (try (go_bits; try go_simp)); first | ((with_reducible refine hK _ _ ?_); clear hK K) | ((try (simp only [IntWalk.iteOmega]; try go_simp)); (try go_bits); (with_reducible refine hK _ _ ?_); clear hK K))
                  iterate 13 (first | (refine Mix.stepS rfl fun K hK => ?_; go_simp; (with_reducible refine hK _ _ ?_); clear hK K) | (refine Mix.step0 fun K hK => ?_; go_simp; (try (go_bits; try go_simp)); first | ((with_reducible refine hK _ _ ?_); clear hK K) | ((try (simp only [IntWalk.iteOmega]; try go_simp)); (try go_bits); (with_reducible refine hK _ _ ?_); clear hK K)))
                  iterate 1 (refine Mix.step0 fun K hK => ?_; go_simp; (try (go_bits; try go_simp)); first | ((with_reducible refine hK _ _ ?_); clear hK K) | ((try (simp only [IntWalk.iteOmega]; try go_simp)); (try go_bits); (with_reducible refine hK _ _ ?_); clear hK K))
                  refine Mix.done ?_
                  clear hCW
                  go_wp2_with fail
                  refine Round.intro (l.length - (i + 1)) ?measure14 (by kernel_rfl) (hJ1 _ _ _ ?rel14)
                  case' rel14 => (try dsimp only [nthV])
                  case measure14 => omega
                  case rel14 => exact ⟨i + 1, ys, by go_num, hlt, rfl, HG2, hs.tail.tail⟩
          · obtain rfl : i = l.length := by omega
            obtain ⟨v, hv, hr⟩ := hs.obj 1 rfl
            have hc := cell_of hv 0
            simp only [List.getElem?_toArray, List.getElem?_cons_zero] at hc
            go_wp2_with fail
            refine (rooms_any ba v xs _ hc hr HG.out).mono ?_
            rintro en w5 ⟨u5, rfl, k5⟩
            clear hv hc hr
            replace hs := hs.join k5
            simp only [List.cons_append, List.nil_append] at hs
            clear k5
            obtain ⟨v, hv, hr⟩ := hs.obj 1 rfl
            have hc := cell_of hv 0
            simp only [List.getElem?_toArray, List.getElem?_cons_zero] at hc
            go_wp2_with fail
            refine (rrooms_any bb v xs _ hc hr HG.out).mono ?_
            rintro en w6 ⟨u6, rfl, k6⟩
            clear hv hc hr
            replace hs := hs.join k6
            simp only [List.cons_append, List.nil_append] at hs
            clear k6
            obtain ⟨S, hS⟩ : ∃ S, S = roomsL xs := ⟨_, rfl⟩
            rw [← hS] at hs
            have hSl : S.length ≤ 16 := by rw [hS, rooms_length]; exact hxl
            clear hS
            obtain ⟨a6, c6, rfl⟩ := (hs.rdInts 0 rfl).shape
            obtain ⟨a5, c5, rfl⟩ := (hs.rdInts 1 rfl).shape
            have nS : ((S.length : Int) != S.length) = false := by simp
            go_wp2_with fail
            refine wp_loopM [none, none, none, none, some 4, none, none, none, none, none, none, none, none, none, none, none, none, none, none, none, none, some 21, none, none, none, none, none, none, none, none, none, none, none, none, none, none, none, none, none, none, none, none, none, none, none, none, none, none, none, none, none, none, none, none, none, none, none, none, none, none, none, none, none, none, none, none, none, none, none, none, none, none, none, none, none, none, none, none, none, none, none, none, none, none, none, none, none, none, none, none, none, none, none, none, none, none, none, none, none, none, none, none, none, none, none, none, none, none, none, none, none, none, none, none, none, none, none, none, none, none, none, none, none, none, none, none, none, none, none, none, none, none, none, none, none, none, none, none, none, none, none, none, none, none, none, none, none, none, none, none, none, none, none, none, none, none, none, none, none, none, none, none, none, none, none, none, none, none, none, none, none, none, none, none, none, none, none, none, none, none, none, none, none, none, none, none, none, none, none, none, none, none, none, none, none, none, none, none, none, none, none, none, none, none, some 204, some 205, some 206, some 207, some 208, some 209, some 210, some 211, some 212, some 213, some 214, some 215, some 216, some 217, some 218, none] (fun (r : Nat) (f : Nat → Value) (wq : World) => (fun (v : Value) => ∃ (q : Nat), v = .int .i64 q ∧ q ≤ S.length ∧ r = S.length - q ∧ Sep w wq [intsT .i64 2 (.slice a6 S.length c6) S, intsT .i64 2 (.slice a5 S.length c5) S]) (f 21)) (S.length) (by kernel_rfl) ?atStart15 ?round15
            case' atStart15 => (try dsimp only [nthV])
            case' round15 =>
              intro gk f wr l hl hrel J2 K2 hJ2 hK2
              (try simp only [mask] at hl)
              generalize f 21 = u21 at hl hrel
              subst hl
              (try dsimp only at hrel)
            case atStart15 => exact ⟨0, rfl, Nat.zero_le _, rfl, hs.takeN 2⟩
            case round15 =>
              clear hs
              obtain ⟨q, rfl, hq, rfl, hs⟩ := hrel
              by_cases hqt : q < S.length
              · obtain ⟨b7, o7, e7, hb7, hc7⟩ := (hs.rdInts 0 rfl).at q hqt
                obtain ⟨b8, o8, e8, hb8, hc8⟩ := (hs.rdInts 1 rfl).at q hqt
                subst e7
                subst e8
                obtain ⟨V, hV⟩ : ∃ V, V = S.getD q 0 := ⟨_, rfl⟩
                rw [← hV] at hc7 hc8
                have nV : (V != V) = false := by simp
                clear hV
                go_wp2_with fail
                refine Mix.region [0, 0, 0, 0, 0, 0, 0, 0, 0] (fun _ => True) (by kernel_rfl) (by kernel_rfl) trivial ?_
                simp only [List.zip_cons_cons, List.zip_nil_right]
                iterate 9 (refine Mix.step0 fun K hK => ?_; go_simp; (try (go_bits; try go_simp)); first | ((with_reducible refine hK _ _ ?_); clear hK K) | ((try (simp only [IntWalk.iteOmega]; try go_simp)); (try go_bits); (with_reducible refine hK _ _ ?_); clear hK K))
                refine Mix.done ?_
                go_wp2_with fail
                refine Round.intro (S.length - (q + 1)) ?measure16 (by kernel_rfl) (hJ2 _ _ _ ?rel16)
                case' rel16 => (try dsimp only [nthV])
                case measure16 => omega
                case rel16 => exact ⟨q + 1, by go_num, hqt, rfl, hs.drew⟩
              · obtain rfl : q = S.length := by omega
                go_wp2_with fail
                refine (works_any _).mono ?_
                rintro en w7 ⟨rfl, hb⟩
                go_wp2_with fail
                go_ret
                exact ⟨rfl, (hs.belowStep hb).below⟩
end Go.Proofs.Ytlpfojpfepfdgaa
