/-
  OffsetTurned, walked.
-/
import Derived.Test.YtjijhpflkkicaaaOPlaysW
import Derived.Test.YtjijhpflkkicaaaOPlain12
set_option linter.unusedVariables false
set_option linter.unusedSimpArgs false
namespace Go.OffP
open Go Go.Mem Go.MoneyP Go.BuildP
theorem may29_parts {n : Int} {l : List Du} (h : may29 n l = true) : (0 ≤ n ∧ n ≤ 16) ∧ allB l = true ∧ belowB n l = true := by
  unfold may29 at h
  simp only [Bool.and_eq_true, decide_eq_true_eq] at h
  exact ⟨⟨h.1.1.1, h.1.1.2⟩, h.1.2, h.2⟩
theorem may29_nets {n : Int} {l : List Du} (h : may29 n l = true) : netsE n l = 0 ∨ netsE n l = 13 := by
  obtain ⟨h1, h2, h3⟩ := may29_parts h
  rw [netsE_sum h1 h2 h3]
  split
  · right; rfl
  · left; rfl
theorem turn_take {l : List Du} {i : Nat} (h : i < l.length) : turnL (l.take (i + 1)) = turnL (l.take i) ++ [turnD l[i]] := by
  unfold turnL
  rw [List.take_succ_eq_append_getElem h, List.map_append]; rfl
theorem turnL_len (l : List Du) : (turnL l).length = l.length := by unfold turnL; rw [List.length_map]
theorem good_open {n : Nat} {l : List Du} (h : GoodN n l) : ∀ d ∈ openL l, MayD d ∧ d.f < n ∧ d.t < n := fun d hd => ⟨h.may d (open_mem hd), h.inn d (open_mem hd)⟩
theorem both_min {O : List Du} {a b : Nat} : (owesS O b a < owesS O a b → both O a b = owesS O b a) ∧ (¬ owesS O b a < owesS O a b → both O a b = owesS O a b) := by
  unfold both; omega
theorem paidI_bound {O : List Du} {ps : List Int} (h : PayOk O ps) (hx : ∀ d ∈ O, 1 ≤ d.x) (a b : Nat) : ∀ i, i ≤ O.length → 0 ≤ paidI O ps a b i ∧ paidI O ps a b i ≤ sumX (O.take i)
  | 0, _ => by simp [paidI, sumX]
  | i + 1, hi => by
    have ih := paidI_bound h hx a b i (by omega)
    have h1 := h.lo i (by omega)
    have h2 := h.hi i (by omega)
    have h3 := hx _ (List.getElem_mem (show i < O.length by omega))
    rw [paidI_succ, sumX_take hi]
    rw [getDu (show i < O.length by omega)] at h2 ⊢
    split <;> omega
theorem tableM_len (n : Nat) (O : List Du) : (tableM n O).length = n := by unfold tableM; simp
end Go.OffP
namespace Go.Proofs.Ytjijhpflkkicaaa
open Go Go.RowKit Go.Mem Go.MoneyP Go.NetP Go.BuildP Go.OffP Go.Shelf
/-- One cell of a table. -/
theorem GridR.two {W : World} {A : Option Addr} {n c : Nat} {O : List Du} (h : GridR W (.slice A n c) (tableM 16 O)) {a b : Nat} (ha : a < 16) (hb : b < 16) :
    ∃ b0 o0 b1 o1 c1, A = some ⟨b0, o0, none⟩ ∧ W.cell? ⟨b0, o0 + a, none⟩ = some (.slice (some ⟨b1, o1, none⟩) 16 c1) ∧ W.cell? ⟨b1, o1 + b, none⟩ = some (.int .i64 (owesS O a b)) := by
  obtain ⟨_, h2⟩ := gridR_at h
  obtain ⟨s, b0, o0, e, hc, hr⟩ := h2 a (by rw [tableM_len]; exact ha)
  have e2 : (tableM 16 O)[a]'(by rw [tableM_len]; exact ha) = owesRow 16 O a := by unfold tableM; simp
  rw [e2] at hr
  have hn := hr.len
  rw [owesRow_len] at hn
  obtain ⟨b1, o1, e1, _, hc1⟩ := hr.at b (by rw [owesRow_len]; exact hb)
  rw [rowM_at hb] at hc1
  refine ⟨b0, o0, b1, o1, s.c, e, ?_, hc1⟩
  rw [hc, e1, hn]
theorem GridR.len16 {W : World} {A : Option Addr} {n c : Nat} {O : List Du} (h : GridR W (.slice A n c) (tableM 16 O)) : n = 16 := by
  rw [(gridR_at h).1, tableM_len]
theorem GridR.shape {W : World} {v : Value} {M : List (List Int)} (h : GridR W v M) : ∃ A n c, v = .slice A n c := by
  obtain ⟨G, _, h2, _⟩ := h
  obtain ⟨a, c, e⟩ := h2.shape
  exact ⟨a, _, c, e⟩
set_option maxRecDepth 100000 in
set_option maxHeartbeats 6000000 in
theorem offsetTurned_any (l : List Du) (vl : Value) (w : World) (h : RdG duR w vl l) :
    Calls Try.prog 5 #[vl] w fun e w' => e = .returned (.bool true) ∧ Below w.heap.size w w' := by
  obtain ⟨i0, hi0, hz0, hz1, hz2⟩ := info_parts Try.infoDu
  obtain ⟨al, cl, rfl⟩ := h.shape
  have hle := h.le'
  cases hm : may29 16 l
  · have HM := Lib.hid (rmay29_any 16 l _ w h)
    rw [hm] at HM
    clear hm
    go_enter Try.func5, Try.ntmps5
    go_wp2_with fail
    refine HM.out.mono ?_
    rintro en w1 ⟨rfl, hb⟩
    have hs := (Sep.start w).belowStep hb
    clear hb
    go_wp2_with fail
    refine (oworks_any _).mono ?_
    rintro en w2 ⟨rfl, hb⟩
    go_wp2_with fail
    go_ret
    exact ⟨rfl, (hs.belowStep hb).below⟩
  have HM := Lib.hid (rmay29_any 16 l _ w h)
  rw [hm] at HM
  have hl64 := (all_parts (may29_parts hm).2.1).1
  have HME := Lib.hid (may29_nets hm)
  clear hm
  go_enter Try.func5, Try.ntmps5
  go_wp2_with fail
  refine HM.out.mono ?_
  rintro en w1 ⟨rfl, hb⟩
  have hs := (Sep.start w).belowStep hb
  clear hb HM
  go_wp2_with fail
  refine wp_loopM [none, none, none, some 3, some 4, some 5, none, none, none, none, none, none, none, none, none, none, none, none, none, none, none, none, none, none, some 24, some 25, some 26, some 27, some 28, some 29, some 30, some 31, some 32, some 33, some 34, some 35, some 36, some 37, some 38, some 39, some 40, some 41, some 42, some 43, none, none, none, none, none, none, none, none, none, none, none, none, none, none, none, none, none, none, none, none, none, none, none, none, none, none, none, none, none, none, none, none, none, none, none, none, none, none, none, none, none, none, none, none, none, none, none, none, none, none, none, none, none, none, none, none, none, none, none, none, none, none, none, none, none, none, none, none, none, none, none, none, none, none, none, none, none, none, none, none, none, none, none, none, none, none, none, none, none, none, none, none, none, none, none, none, none, none, none, none, none, none, none, none, none, none, none, none, none, none, none, none, none, none, none, none, none, none, none, none, none, none, none, none, none, none, none, none, none, none, none, none, none, none, none, none, none, none, none, none, none, none, none, none, none, none, none, none, none, none, none, none, none, none, none, none, none, none, none, none, none, none, none, none, none, none, none, none, none, none, none, none, none, none, none, none, none] (fun (r : Nat) (f : Nat → Value) (wr : World) => (fun (v vo : Value) => ∃ (i : Nat) (ao : Option Addr) (co : Nat), v = .int .i64 i ∧ vo = .slice ao i co ∧ i ≤ l.length ∧ r = l.length - i ∧ Sep w wr [recT duR 44 (.slice ao i co) (turnL (l.take i))]) (f 4) (f 3)) (l.length) (by kernel_rfl) ?atStart1 ?round1
  case' atStart1 => (try dsimp only [nthV])
  case' round1 =>
    intro gk f wr l hl hrel J1 K1 hJ1 hK1
    (try simp only [mask] at hl)
    generalize f 4 = u4 at hl hrel
    generalize f 3 = u3 at hl hrel
    subst hl
    (try dsimp only at hrel)
  case atStart1 => exact ⟨0, none, 0, rfl, rfl, Nat.zero_le _, rfl, hs.nilRecs duR _⟩
  case round1 =>
    clear hs
    obtain ⟨i, ao, co, rfl, rfl, hi, rfl, hs⟩ := hrel
    by_cases hlt : i < l.length
    · have hiI : (i : Int) < l.length := by omega
      have HTK := Lib.hid (turn_take hlt)
      have HTL := Lib.hid (show (turnL (l.take i)).length = i by rw [turnL_len, List.length_take]; omega)
      obtain ⟨b1, o1, e1, _, hc1⟩ := (hs.rdG h).at i hlt
      subst e1
      obtain ⟨x, hx⟩ : ∃ x, x = l[i] := ⟨_, rfl⟩
      rw [← hx] at hc1 HTK
      clear hx
      obtain ⟨id, f, t, x, we, u, hh⟩ := x
      have x0 := hc1 0 (by decide)
      have x1 := hc1 1 (by decide)
      have x2 := hc1 2 (by decide)
      have x3 := hc1 3 (by decide)
      have x4 := hc1 4 (by decide)
      have x5 := hc1 5 (by decide)
      have x6 := hc1 6 (by decide)
      simp only [duR, Nat.add_zero, List.getElem?_cons_zero, List.getElem?_cons_succ] at x0 x1 x2 x3 x4 x5 x6
      clear hc1
      have hxb := (hs.rdG h).le'
      go_upto_region 8 with fail
      replace hs := hs.newCells #[.int .u64 id, .int .i64 f, .int .i64 t, .int .i64 x, .int .i64 we, .int .i64 u, .bool hh] 44
      obtain ⟨B, hB⟩ : ∃ B, B = wr.heap.size := ⟨_, rfl⟩
      rw [← hB] at hs ⊢
      clear hB x0 x1 x2 x3 x4 x5 x6
      generalize World.alloc wr _ = W1 at hs ⊢
      have x0 := cell_of (hs.cells 0 rfl) 0
      have x1 := cell_of (hs.cells 0 rfl) 1
      have x2 := cell_of (hs.cells 0 rfl) 2
      have x3 := cell_of (hs.cells 0 rfl) 3
      have x4 := cell_of (hs.cells 0 rfl) 4
      have x5 := cell_of (hs.cells 0 rfl) 5
      have x6 := cell_of (hs.cells 0 rfl) 6
      simp only [List.getElem?_toArray, List.getElem?_cons_zero, List.getElem?_cons_succ] at x0 x1 x2 x3 x4 x5 x6
      have hs2 := hs.setC 0 rfl 1 (.int .i64 t) #[.int .u64 id, .int .i64 t, .int .i64 t, .int .i64 x, .int .i64 we, .int .i64 u, .bool hh] rfl
      have hs3 := hs2.setC 0 rfl 2 (.int .i64 f) #[.int .u64 id, .int .i64 t, .int .i64 f, .int .i64 x, .int .i64 we, .int .i64 u, .bool hh] rfl
      (try simp only [List.set_cons_zero] at hs3)
      clear hs2
      have qf1 := frozen_of (hs.cells 0 rfl) 1
      have qf2 := frozen_of (hs.cells 0 rfl) 2
      go_upto_region 9 with fail
      clear qf1 qf2 hs x0 x1 x2 x3 x4 x5 x6
      generalize World.setCell _ _ _ = W2 at hs3 ⊢
      have hs := hs3
      clear hs3
      have x0 := cell_of (hs.cells 0 rfl) 0
      have x1 := cell_of (hs.cells 0 rfl) 1
      have x2 := cell_of (hs.cells 0 rfl) 2
      have x3 := cell_of (hs.cells 0 rfl) 3
      have x4 := cell_of (hs.cells 0 rfl) 4
      have x5 := cell_of (hs.cells 0 rfl) 5
      have x6 := cell_of (hs.cells 0 rfl) 6
      simp only [List.getElem?_toArray, List.getElem?_cons_zero, List.getElem?_cons_succ] at x0 x1 x2 x3 x4 x5 x6
      go_wp2_with (at_builtin; refine wpList_appRec duR rfl (.tmp 40) (.tmp 42) 22 rfl 44 i0 _ 56 Try.underlying22 hi0 hz0 hz1 hz2 rfl _ _ ⟨id, t, f, x, we, u, hh⟩ hs 1 rfl _ rfl rfl rfl ?c3 ?c4 ?grow)
      case c3 => rw [HTL.out]; unfold maxLen; omega
      case c4 => rw [HTL.out]; omega
      case grow =>
        intro v' w5 hs2 hv
        obtain ⟨g2, k2, rfl⟩ := hv.out
        replace hs2 := hs2.tail
        clear hs hv x0 x1 x2 x3 x4 x5 x6
        go_wp2_with fail
        refine Round.intro (l.length - (i + 1)) ?measure2 (by kernel_rfl) (hJ1 _ _ _ ?rel2)
        case' rel2 => (try dsimp only [nthV])
        case measure2 => omega
        case rel2 => exact ⟨i + 1, _, _, by go_num, by rw [HTL.out], hlt, rfl, by rw [HTK.out]; rw [HTL.out] at hs2; exact hs2⟩
    · obtain rfl : i = l.length := by omega
      rw [List.take_length] at hs
      have HTN := Lib.hid (turn_netsE 16 l)
      obtain ⟨bk, hbk⟩ : ∃ bk, bk = turnL l := ⟨_, rfl⟩
      have HBK := Lib.hid hbk
      rw [← hbk] at hs HTN
      clear hbk
      go_wp2_with fail
      refine (table_any 16 l _ _ (hs.rdG h)).mono ?_
      rintro en w2 hP
      have hP := TableD.uni hP
      obtain ⟨va, rfl, GA, hb⟩ := hP
      replace hs := hs.belowStep hb
      clear hb
      go_wp2_with fail
      refine (table_any 16 bk _ _ (hs.rdRecs 0 rfl)).mono ?_
      intro en w3 hP
      obtain ⟨vb, rfl, GB, hb⟩ := TableD.uni hP
      clear hP
      replace hs := hs.belowStep hb
      replace GA := GA.below hb
      clear hb
      go_wp2_with fail
      refine (opays_any 16 l _ _ (hs.rdG h)).mono ?_
      intro en w4 hP
      obtain ⟨vc, rfl, k1⟩ := PaysD.uni hP
      clear hP
      replace hs := hs.join k1
      replace GA := GA.below k1.below
      replace GB := GB.below k1.below
      clear k1
      go_wp2_with fail
      refine (opays_any 16 bk _ _ (hs.rdRecs 1 rfl)).mono ?_
      intro en w5 hP
      obtain ⟨vd, rfl, k1⟩ := PaysD.uni hP
      clear hP
      replace hs := hs.join k1
      replace GA := GA.below k1.below
      replace GB := GB.below k1.below
      clear k1
      simp only [List.cons_append, List.nil_append] at hs
      rw [HTN.out]
      unfold payR at hs
      unfold tabR at GA GB
      rw [HTN.out] at hs GB
      rcases HME.out with hE | hE
      · rw [hE]
        rw [if_pos hE] at hs GA GB
        rw [if_pos hE] at hs
        obtain ⟨N, hN, hgood⟩ := netsE_good hE
        obtain rfl : N = 16 := by omega
        have hO := good_open hgood
        have HO := Lib.hid hO
        have hTP : paysL (16 : Int).toNat (openL bk) = paysL (16 : Int).toNat (openL l) := by rw [HBK.out, turn_open]; exact turn_pays (by decide) hO
        rw [hTP] at hs
        rw [HBK.out, turn_open] at GB
        have HPV := Lib.hid (fun (a b : Nat) (ha : a < 16) (hb : b < 16) => paid_is hO ha hb (by decide))
        have HOK := Lib.hid (pays_ok hO)
        obtain ⟨P, hP⟩ : ∃ P, P = paysL (16 : Int).toNat (openL l) := ⟨_, rfl⟩
        rw [← hP] at hs
        change Hid (PayOk (openL l) (paysL (16 : Int).toNat (openL l))) at HOK
        rw [← hP] at HOK
        have HPL0 := Lib.hid (show P.length = (openL l).length from HOK.out.len)
        have HPQ := Lib.hid (show ∀ a b, a < 16 → b < 16 → paidI (openL l) P a b (openL l).length = both (openL l) a b by rw [hP]; exact HPV.out)
        have HPB := Lib.hid (paidI_bound HOK.out (fun d hd => (HO.out d hd).1.x0))
        have HSX := Lib.hid (show sumX (openL l) ≤ 4503599627370496 from Int.le_trans (sum_open l fun d hd => (hgood.may d hd).x0) hgood.sum)
        clear HPV HTN HME HBK hP hN hE hgood hTP hO
        obtain ⟨ta, tn, tc, rfl⟩ := GridR.shape GA
        obtain rfl := GridR.len16 GA
        obtain ⟨ua, un, uc, rfl⟩ := GridR.shape GB
        obtain rfl := GridR.len16 GB
        have HG := Lib.hid (And.intro GA GB)
        clear GA GB
        obtain ⟨pa, pc, rfl⟩ := (hs.rdInts 1 rfl).shape
        go_wp2_with fail
        refine (amounts_eq _ _ P _ (hs.rdInts 1 rfl) (hs.rdInts 0 rfl)).mono ?_
        rintro en w6 ⟨rfl, hb⟩
        replace hs := hs.belowStep hb
        have HGA := Lib.hid (HG.out.1.below hb)
        have HGB := Lib.hid (HG.out.2.below hb)
        have HRP := Lib.hid (hs.rdInts 1 rfl)
        have HRL := Lib.hid (hs.rdG h)
        have HB := Lib.hid hs.below
        clear hs HG hb
        have hs := Sep.start w6
        go_wp2_with fail
        refine wp_loopM [none, none, some 2, none, none, none, none, none, none, none, none, none, none, none, some 14, none, none, none, none, none, none, none, none, none, none, none, none, none, none, none, none, none, none, none, none, none, none, none, none, none, none, none, none, none, none, none, none, none, none, none, none, none, none, none, none, none, none, none, none, none, none, none, none, none, none, none, none, none, none, none, none, none, none, none, none, none, none, none, none, none, none, none, none, none, none, none, none, none, none, none, none, none, none, none, none, none, none, none, some 98, some 99, some 100, some 101, some 102, some 103, some 104, some 105, some 106, some 107, some 108, some 109, some 110, some 111, some 112, some 113, some 114, some 115, none, none, none, none, none, none, none, none, none, none, none, none, none, none, none, none, none, none, none, none, none, none, none, none, none, none, none, none, none, none, none, none, none, none, none, none, none, none, none, none, none, none, none, none, none, none, none, none, none, none, none, none, none, none, none, none, none, none, none, none, none, none, none, none, none, none, none, none, none, none, none, none, none, none, none, none, none, none, none, none, none, none, none, none, none, none, none, none, none, none, none, none, none, none, none, none, none, none, none, none, none, none, none, none, none] (fun (r : Nat) (f : Nat → Value) (wr : World) => (fun (v : Value) => ∃ a : Nat, v = .int .i64 a ∧ a ≤ 16 ∧ r = 16 - a ∧ Sep w6 wr []) (f 14)) (16) (by kernel_rfl) ?atStart3 ?round3
        case' atStart3 => (try dsimp only [nthV])
        case' round3 =>
          intro gk f wr l hl hrel J2 K2 hJ2 hK2
          (try simp only [mask] at hl)
          generalize f 14 = u14 at hl hrel
          subst hl
          (try dsimp only at hrel)
        case atStart3 => exact ⟨0, rfl, by omega, rfl, hs⟩
        case round3 =>
          clear hs
          obtain ⟨a, rfl, ha, rfl, hs⟩ := hrel
          by_cases hlt : a < 16
          · obtain ⟨b0, o0, b1, o1, c1, e1, x0, _⟩ := GridR.two (HGA.out.below hs.below) hlt (show 0 < 16 by omega)
            subst e1
            obtain ⟨b2, o2, b3, o3, c3, e2, y0, _⟩ := GridR.two (HGB.out.below hs.below) hlt (show 0 < 16 by omega)
            subst e2
            go_wp2_with fail
            refine Round.intro (16 - (a + 1)) ?measure4 (by kernel_rfl) (hJ2 _ _ _ ?rel4)
            case' rel4 => (try dsimp only [nthV])
            case measure4 => omega
            case rel4 => exact ⟨a + 1, by go_num, hlt, rfl, hs⟩
          · obtain rfl : a = 16 := by omega
            clear hlt ha
            go_wp2_with fail
            refine wp_loopM [none, none, some 2, none, none, none, none, none, none, none, none, none, none, none, none, some 15, some 16, some 17, some 18, some 19, none, none, none, none, none, none, none, none, none, none, none, none, none, none, none, none, none, none, none, none, none, none, none, none, none, none, none, none, none, none, none, none, none, none, none, none, none, none, none, none, none, none, none, none, none, none, none, none, none, none, none, none, none, none, none, none, none, none, none, none, none, none, none, none, none, none, none, none, none, none, none, none, none, none, none, none, none, none, none, none, none, none, none, none, none, none, none, none, none, none, none, none, none, none, none, none, some 116, some 117, some 118, some 119, some 120, some 121, some 122, some 123, some 124, some 125, some 126, some 127, some 128, some 129, some 130, some 131, some 132, some 133, some 134, some 135, some 136, some 137, some 138, some 139, some 140, some 141, some 142, some 143, some 144, some 145, some 146, some 147, some 148, some 149, some 150, some 151, some 152, some 153, some 154, some 155, some 156, some 157, some 158, some 159, some 160, some 161, some 162, some 163, some 164, some 165, some 166, some 167, some 168, some 169, some 170, some 171, some 172, some 173, some 174, some 175, some 176, some 177, some 178, some 179, some 180, some 181, some 182, some 183, some 184, some 185, some 186, some 187, some 188, some 189, some 190, some 191, some 192, some 193, some 194, some 195, some 196, some 197, some 198, some 199, some 200, some 201, some 202, some 203, some 204, some 205, some 206, some 207, some 208, some 209, some 210, some 211, some 212, some 213, some 214, some 215, some 216, some 217, some 218, some 219, none] (fun (r : Nat) (f : Nat → Value) (wr : World) => (fun (v : Value) => ∃ a : Nat, v = .int .i64 a ∧ a ≤ 16 ∧ r = 16 - a ∧ Sep w6 wr []) (f 15)) (16) (by kernel_rfl) ?atStart5 ?round5
            case' atStart5 => (try dsimp only [nthV])
            case' round5 =>
              intro gk f wr l hl hrel J3 K3 hJ3 hK3
              (try simp only [mask] at hl)
              generalize f 15 = u15 at hl hrel
              subst hl
              (try dsimp only at hrel)
            case atStart5 => exact ⟨0, rfl, by omega, rfl, hs⟩
            case round5 =>
              clear hs
              obtain ⟨a, rfl, ha, rfl, hs⟩ := hrel
              by_cases hlt : a < 16
              · go_wp2_with fail
                refine wp_loopM [none, none, some 2, none, none, none, none, none, none, none, none, none, none, none, none, none, some 16, some 17, some 18, some 19, none, none, none, none, none, none, none, none, none, none, none, none, none, none, none, none, none, none, none, none, none, none, none, none, none, none, none, none, none, none, none, none, none, none, none, none, none, none, none, none, none, none, none, none, none, none, none, none, none, none, none, none, none, none, none, none, none, none, none, none, none, none, none, none, none, none, none, none, none, none, none, none, none, none, none, none, none, none, none, none, none, none, none, none, none, none, none, none, none, none, none, none, none, none, none, none, none, none, none, none, some 120, some 121, some 122, some 123, some 124, some 125, some 126, some 127, some 128, some 129, some 130, some 131, some 132, some 133, some 134, some 135, some 136, some 137, some 138, some 139, some 140, some 141, some 142, some 143, some 144, some 145, some 146, some 147, some 148, some 149, some 150, some 151, some 152, some 153, some 154, some 155, some 156, some 157, some 158, some 159, some 160, some 161, some 162, some 163, some 164, some 165, some 166, some 167, some 168, some 169, some 170, some 171, some 172, some 173, some 174, some 175, some 176, some 177, some 178, some 179, some 180, some 181, some 182, some 183, some 184, some 185, some 186, some 187, some 188, some 189, some 190, some 191, some 192, some 193, some 194, some 195, some 196, some 197, some 198, some 199, some 200, some 201, some 202, some 203, some 204, some 205, some 206, some 207, some 208, some 209, some 210, some 211, some 212, some 213, some 214, some 215, some 216, some 217, some 218, some 219, none] (fun (r : Nat) (f : Nat → Value) (wr : World) => (fun (v : Value) => ∃ b : Nat, v = .int .i64 b ∧ b ≤ 16 ∧ r = 16 - b ∧ Sep w6 wr []) (f 16)) (16) (by kernel_rfl) ?atStart6 ?round6
                case' atStart6 => (try dsimp only [nthV])
                case' round6 =>
                  intro gk f wr l hl hrel J4 K4 hJ4 hK4
                  (try simp only [mask] at hl)
                  generalize f 16 = u16 at hl hrel
                  subst hl
                  (try dsimp only at hrel)
                case atStart6 => exact ⟨0, rfl, by omega, rfl, hs⟩
                case round6 =>
                  clear hs
                  obtain ⟨b, rfl, hbb, rfl, hs⟩ := hrel
                  by_cases hlt2 : b < 16
                  · obtain ⟨b0, o0, b1, o1, c1, e1, x0, x1⟩ := GridR.two (HGA.out.below hs.below) hlt hlt2
                    subst e1
                    obtain ⟨b2, o2, b3, o3, c3, e2, y0, y1⟩ := GridR.two (HGB.out.below hs.below) hlt2 hlt
                    subst e2
                    rw [turn_owes] at y1
                    have HBO := Lib.hid (HPQ.out a b hlt hlt2)
                    have HPI := Lib.hid (HPB.out a b)
                    obtain ⟨X, hX⟩ : ∃ X, X = owesS (openL l) a b := ⟨_, rfl⟩
                    rw [← hX] at x1 y1
                    have HX := Lib.hid hX
                    clear hX
                    have dx : (X != X) = false := by simp
                    go_wp2_with fail
                    refine Mix.region [0, 0, 0, 0, 0, 0, 0, 0, 0, 0, 0, 0, 0, 0, 0] (fun _ => True) (by kernel_rfl) (by kernel_rfl) trivial ?_
                    simp only [List.zip_cons_cons, List.zip_nil_right]
                    iterate 15 (refine Mix.step0 fun K hK => ?_; go_simp; (try (go_bits; try go_simp)); first | ((with_reducible refine hK _ _ ?_); clear hK K) | ((try (simp only [IntWalk.iteOmega]; try go_simp)); (try go_bits); (with_reducible refine hK _ _ ?_); clear hK K))
                    refine Mix.done ?_
                    replace hs := hs.drew
                    clear x0 x1 y0 y1 dx
                    go_upto_region 33 with fail
                    generalize World.drew wr = W7 at hs ⊢
                    go_wp2_with fail
                    refine wp_loopM [none, none, some 2, none, none, none, none, none, none, none, none, none, none, none, none, none, none, some 17, some 18, some 19, none, none, none, none, none, none, none, none, none, none, none, none, none, none, none, none, none, none, none, none, none, none, none, none, none, none, none, none, none, none, none, none, none, none, none, none, none, none, none, none, none, none, none, none, none, none, none, none, none, none, none, none, none, none, none, none, none, none, none, none, none, none, none, none, none, none, none, none, none, none, none, none, none, none, none, none, none, none, none, none, none, none, none, none, none, none, none, none, none, none, none, none, none, none, none, none, none, none, none, none, none, none, none, none, none, none, none, none, none, none, none, none, none, none, none, none, none, none, none, some 139, some 140, some 141, some 142, some 143, some 144, some 145, some 146, some 147, some 148, some 149, some 150, some 151, some 152, some 153, some 154, some 155, some 156, some 157, some 158, some 159, some 160, some 161, some 162, some 163, some 164, some 165, some 166, some 167, some 168, some 169, some 170, some 171, some 172, some 173, some 174, some 175, some 176, some 177, some 178, some 179, some 180, some 181, some 182, some 183, some 184, some 185, some 186, some 187, some 188, some 189, some 190, some 191, some 192, some 193, some 194, some 195, some 196, none, none, none, none, none, none, none, none, none, none, none, none, none, none, none, none, none, none, none, none, none, none, none, none] (fun (r : Nat) (f : Nat → Value) (wr : World) => (fun (vp vt v : Value) => ∃ i : Nat, vp = .int .i64 (paidI (openL l) P a b (posO l i)) ∧ vt = .int .i64 (posO l i : Nat) ∧ v = .int .i64 i ∧ i ≤ l.length ∧ r = l.length - i ∧ Sep w6 wr []) (f 17) (f 18) (f 19)) (l.length) (by kernel_rfl) ?atStart7 ?round7
                    case' atStart7 => (try dsimp only [nthV])
                    case' round7 =>
                      intro gk f wr l hl hrel J5 K5 hJ5 hK5
                      (try simp only [mask] at hl)
                      generalize f 17 = u17 at hl hrel
                      generalize f 18 = u18 at hl hrel
                      generalize f 19 = u19 at hl hrel
                      subst hl
                      (try dsimp only at hrel)
                    case atStart7 => exact ⟨0, rfl, rfl, rfl, Nat.zero_le _, rfl, hs⟩
                    case round7 =>
                      clear hs
                      obtain ⟨i, rfl, rfl, rfl, hi, rfl, hs⟩ := hrel
                      by_cases hlt3 : i < l.length
                      · have hiI : (i : Int) < l.length := by omega
                        have HPS := Lib.hid (posO_succ hlt3)
                        have HPL := Lib.hid (fun hh => posO_lt hlt3 hh)
                        have HPA := Lib.hid (fun hh => posO_at hlt3 hh)
                        obtain ⟨b4, o4, e4, _, hc1⟩ := (HRL.out.below hs.below).at i hlt3
                        subst e4
                        obtain ⟨x, hx⟩ : ∃ x, x = l[i] := ⟨_, rfl⟩
                        rw [← hx] at hc1 HPS HPL HPA
                        clear hx
                        obtain ⟨id, f, t, x, we, u, hh⟩ := x
                        have x0 := hc1 0 (by decide)
                        have x1 := hc1 1 (by decide)
                        have x2 := hc1 2 (by decide)
                        have x3 := hc1 3 (by decide)
                        have x4 := hc1 4 (by decide)
                        have x5 := hc1 5 (by decide)
                        have x6 := hc1 6 (by decide)
                        simp only [duR, Nat.add_zero, List.getElem?_cons_zero, List.getElem?_cons_succ] at x0 x1 x2 x3 x4 x5 x6
                        clear hc1
                        dsimp only at HPS HPL HPA
                        obtain ⟨K, hK⟩ : ∃ K, K = posO l i := ⟨_, rfl⟩
                        rw [← hK] at HPS HPL HPA ⊢
                        clear hK
                        cases hh
                        · have hKl := HPL.out rfl
                          have HAT := Lib.hid (HPA.out rfl)
                          have HK1 := Lib.hid (show posO l (i + 1) = K + 1 by rw [HPS.out]; simp)
                          have hlo := HOK.out.lo K hKl
                          have hhi := HOK.out.hi K hKl
                          rw [HAT.out] at hhi
                          dsimp only at hhi
                          have HKO := Lib.hid hKl
                          rw [← HPL0.out] at hKl
                          obtain ⟨b5, o5, e5, _, z0⟩ := (HRP.out.below hs.below).at K hKl
                          subst e5
                          have hqb := HPI.out K (by rw [← HPL0.out]; omega)
                          have hqs := (sumX_le (fun d hd => (HO.out d hd).1.x0) (l := openL l) K).2
                          have hqt := HSX.out
                          have HST := Lib.hid (paidI_succ (openL l) P a b K)
                          rw [HAT.out] at HST
                          have hq1 := hqb.1
                          have hq2 : paidI (openL l) P a b K ≤ 4503599627370496 := by omega
                          have hpx : P.getD K 0 ≤ 4503599627370496 := by
                            have := (HO.out _ (List.getElem_mem HKO.out)).1.x1
                            have e := getDu HKO.out
                            rw [← e, HAT.out] at this
                            dsimp only at this
                            omega
                          clear hqb hqs hqt HPL HPS HPA
                          obtain ⟨Q, hQ⟩ : ∃ Q, Q = paidI (openL l) P a b K := ⟨_, rfl⟩
                          rw [← hQ] at HST hq1 hq2 ⊢
                          clear hQ
                          obtain ⟨p, hp⟩ : ∃ p, p = P.getD K 0 := ⟨_, rfl⟩
                          rw [← hp] at z0 hlo hhi HST hpx
                          clear hp
                          have hKI : (K : Int) < P.length := by omega
                          have hKc : K < 9223372036854775807 := by have := HRP.out.le'; omega
                          go_wp2_with fail
                          refine Mix.region [0, 0, 0, 0, 0, 0, 0, 0, 0, 0, 0, 0, 0, 0, 0, 0, 0, 0, 0, 0, 0, 0, 0] (fun _ => True) (by kernel_rfl) (by kernel_rfl) trivial ?_
                          simp only [List.zip_cons_cons, List.zip_nil_right]
                          iterate 5 (refine Mix.step0 fun K hK => ?_; go_simp; (try (go_bits; try go_simp)); first | ((with_reducible refine hK _ _ ?_); clear hK K) | ((try (simp only [IntWalk.iteOmega]; try go_simp)); (try go_bits); (with_reducible refine hK _ _ ?_); clear hK K))
                          iterate 5 (first | (refine Mix.stepS rfl fun K hK => ?_; go_simp; (with_reducible refine hK _ _ ?_); clear hK K) | (refine Mix.step0 fun K hK => ?_; go_simp; (try (go_bits; try go_simp)); first | ((with_reducible refine hK _ _ ?_); clear hK K) | ((try (simp only [IntWalk.iteOmega]; try go_simp)); (try go_bits); (with_reducible refine hK _ _ ?_); clear hK K)))
                          iterate 2 (refine Mix.step0 fun K hK => ?_; go_simp; (try (go_bits; try go_simp)); first | ((with_reducible refine hK _ _ ?_); clear hK K) | ((try (simp only [IntWalk.iteOmega]; try go_simp)); (try go_bits); (with_reducible refine hK _ _ ?_); clear hK K))
                          iterate 10 (first | (refine Mix.stepS rfl fun K hK => ?_; go_simp; (with_reducible refine hK _ _ ?_); clear hK K) | (refine Mix.step0 fun K hK => ?_; go_simp; (try (go_bits; try go_simp)); first | ((with_reducible refine hK _ _ ?_); clear hK K) | ((try (simp only [IntWalk.iteOmega]; try go_simp)); (try go_bits); (with_reducible refine hK _ _ ?_); clear hK K)))
                          iterate 1 (refine Mix.step0 fun K hK => ?_; go_simp; (try (go_bits; try go_simp)); first | ((with_reducible refine hK _ _ ?_); clear hK K) | ((try (simp only [IntWalk.iteOmega]; try go_simp)); (try go_bits); (with_reducible refine hK _ _ ?_); clear hK K))
                          refine Mix.done ?_
                          replace hs := hs.drew
                          by_cases q : f = (a : Int) ∧ t = (b : Int)
                          · have HQ2 := Lib.hid (show paidI (openL l) P a b (K + 1) = Q + p by rw [HST.out, if_pos (sameP_iff.2 q)])
                            obtain ⟨q1, q2⟩ := q
                            subst q1
                            subst q2
                            clear HST
                            go_wp2_with fail
                            refine Round.intro (l.length - (i + 1)) ?measure8 (by kernel_rfl) (hJ5 _ _ _ ?rel8)
                            case' rel8 => (try dsimp only [nthV])
                            case measure8 => omega
                            case rel8 => exact ⟨i + 1, by rw [HK1.out, HQ2.out], by rw [HK1.out]; go_num, by go_num, hlt3, rfl, hs⟩
                          · have HQ2 := Lib.hid (show paidI (openL l) P a b (K + 1) = Q by rw [HST.out, if_neg fun e => q (sameP_iff.1 e)]; omega)
                            clear HST
                            by_cases q1 : f = (a : Int)
                            · have q2 : ¬ t = (b : Int) := fun e => q ⟨q1, e⟩
                              subst q1
                              have q3 : (t == (b : Int)) = false := by simpa using q2
                              clear q q2
                              go_wp2_with fail
                              refine Round.intro (l.length - (i + 1)) ?measure9 (by kernel_rfl) (hJ5 _ _ _ ?rel9)
                              case' rel9 => (try dsimp only [nthV])
                              case measure9 => omega
                              case rel9 => exact ⟨i + 1, by rw [HK1.out, HQ2.out], by rw [HK1.out]; go_num, by go_num, hlt3, rfl, hs⟩
                            · have q3 : (f == (a : Int)) = false := by simpa using q1
                              clear q q1
                              go_wp2_with fail
                              refine Round.intro (l.length - (i + 1)) ?measure10 (by kernel_rfl) (hJ5 _ _ _ ?rel10)
                              case' rel10 => (try dsimp only [nthV])
                              case measure10 => omega
                              case rel10 => exact ⟨i + 1, by rw [HK1.out, HQ2.out], by rw [HK1.out]; go_num, by go_num, hlt3, rfl, hs⟩
                        · have HK1 := Lib.hid (show posO l (i + 1) = K by rw [HPS.out]; simp)
                          clear HPL HPS HPA
                          go_wp2_with fail
                          refine Round.intro (l.length - (i + 1)) ?measure11 (by kernel_rfl) (hJ5 _ _ _ ?rel11)
                          case' rel11 => (try dsimp only [nthV])
                          case measure11 => omega
                          case rel11 => exact ⟨i + 1, by rw [HK1.out], by rw [HK1.out], by go_num, hlt3, rfl, hs⟩
                      · obtain rfl : i = l.length := by omega
                        rw [posO_end, HBO.out, ← HPL0.out]
                        obtain ⟨b0', o0', b1', o1', c1', e1, x0, x1⟩ := GridR.two (HGA.out.below hs.below) hlt hlt2
                        injection e1 with e1
                        injection e1 with e1 e2
                        subst e1
                        subst e2
                        obtain ⟨b2', o2', b3', o3', c3', e2, y0, y1⟩ := GridR.two (HGA.out.below hs.below) hlt2 hlt
                        injection e2 with e1
                        injection e1 with e1 e2
                        subst e1
                        subst e2
                        rw [← HX.out] at x1
                        have HBM := Lib.hid (both_min (O := openL l) (a := a) (b := b))
                        rw [← HX.out] at HBM
                        obtain ⟨Y, hY⟩ : ∃ Y, Y = owesS (openL l) b a := ⟨_, rfl⟩
                        rw [← hY] at y1 HBM
                        clear hY
                        have dp : ((P.length : Int) != (P.length : Int)) = false := by simp
                        by_cases hxy : Y < X
                        · rw [HBM.out.1 hxy]
                          have dy : (Y != Y) = false := by simp
                          go_wp2_with fail
                          refine Mix.region [0, 0, 0, 0, 0, 0, 0, 0, 0, 0, 0, 0, 0, 0, 0, 0, 0, 0, 0, 0, 0, 0, 0] (fun _ => True) (by kernel_rfl) (by kernel_rfl) trivial ?_
                          simp only [List.zip_cons_cons, List.zip_nil_right]
                          iterate 18 (refine Mix.step0 fun K hK => ?_; go_simp; (try (go_bits; try go_simp)); first | ((with_reducible refine hK _ _ ?_); clear hK K) | ((try (simp only [IntWalk.iteOmega]; try go_simp)); (try go_bits); (with_reducible refine hK _ _ ?_); clear hK K))
                          iterate 4 (first | (refine Mix.stepS rfl fun K hK => ?_; go_simp; (with_reducible refine hK _ _ ?_); clear hK K) | (refine Mix.step0 fun K hK => ?_; go_simp; (try (go_bits; try go_simp)); first | ((with_reducible refine hK _ _ ?_); clear hK K) | ((try (simp only [IntWalk.iteOmega]; try go_simp)); (try go_bits); (with_reducible refine hK _ _ ?_); clear hK K)))
                          iterate 1 (refine Mix.step0 fun K hK => ?_; go_simp; (try (go_bits; try go_simp)); first | ((with_reducible refine hK _ _ ?_); clear hK K) | ((try (simp only [IntWalk.iteOmega]; try go_simp)); (try go_bits); (with_reducible refine hK _ _ ?_); clear hK K))
                          refine Mix.done ?_
                          replace hs := hs.drew
                          go_wp2_with fail
                          refine Round.intro (16 - (b + 1)) ?measure12 (by kernel_rfl) (hJ4 _ _ _ ?rel12)
                          case' rel12 => (try dsimp only [nthV])
                          case measure12 => omega
                          case rel12 => exact ⟨b + 1, by go_num, hlt2, rfl, hs⟩
                        · rw [HBM.out.2 hxy]
                          have dy : (X != X) = false := by simp
                          have hmn : (Y < X) = False := eq_false hxy
                          go_wp2_with fail
                          refine Mix.region [0, 0, 0, 0, 0, 0, 0, 0, 0, 0, 0, 0, 0, 0, 0, 0, 0, 0, 0, 0, 0, 0, 0] (fun _ => True) (by kernel_rfl) (by kernel_rfl) trivial ?_
                          simp only [List.zip_cons_cons, List.zip_nil_right]
                          iterate 18 (refine Mix.step0 fun K hK => ?_; go_simp; (try (go_bits; try go_simp)); first | ((with_reducible refine hK _ _ ?_); clear hK K) | ((try (simp only [IntWalk.iteOmega]; try go_simp)); (try go_bits); (with_reducible refine hK _ _ ?_); clear hK K))
                          iterate 4 (first | (refine Mix.stepS rfl fun K hK => ?_; go_simp; (with_reducible refine hK _ _ ?_); clear hK K) | (refine Mix.step0 fun K hK => ?_; go_simp; (try (go_bits; try go_simp)); first | ((with_reducible refine hK _ _ ?_); clear hK K) | ((try (simp only [IntWalk.iteOmega]; try go_simp)); (try go_bits); (with_reducible refine hK _ _ ?_); clear hK K)))
                          iterate 1 (refine Mix.step0 fun K hK => ?_; go_simp; (try (go_bits; try go_simp)); first | ((with_reducible refine hK _ _ ?_); clear hK K) | ((try (simp only [IntWalk.iteOmega]; try go_simp)); (try go_bits); (with_reducible refine hK _ _ ?_); clear hK K))
                          refine Mix.done ?_
                          replace hs := hs.drew
                          go_wp2_with fail
                          refine Round.intro (16 - (b + 1)) ?measure13 (by kernel_rfl) (hJ4 _ _ _ ?rel13)
                          case' rel13 => (try dsimp only [nthV])
                          case measure13 => omega
                          case rel13 => exact ⟨b + 1, by go_num, hlt2, rfl, hs⟩
                  · obtain rfl : b = 16 := by omega
                    go_wp2_with fail
                    refine Round.intro (16 - (a + 1)) ?measure14 (by kernel_rfl) (hJ3 _ _ _ ?rel14)
                    case' rel14 => (try dsimp only [nthV])
                    case measure14 => omega
                    case rel14 => exact ⟨a + 1, by go_num, hlt, rfl, hs⟩
              · obtain rfl : a = 16 := by omega
                go_wp2_with fail
                refine (oworks_any _).mono ?_
                rintro en w7 ⟨rfl, hb⟩
                replace hs := hs.belowStep hb
                go_wp2_with fail
                go_ret
                exact ⟨rfl, HB.out.trans (hs.below.mono HB.out.size)⟩
      · rw [hE]
        clear HTN HME HBK GA GB
        go_wp2_with fail
        refine (oworks_any _).mono ?_
        rintro en w6 ⟨rfl, hb⟩
        go_wp2_with fail
        go_ret
        exact ⟨rfl, (hs.belowStep hb).below⟩
end Go.Proofs.Ytjijhpflkkicaaa
