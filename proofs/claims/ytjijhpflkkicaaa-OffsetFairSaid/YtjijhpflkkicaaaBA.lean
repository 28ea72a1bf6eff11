/-
  Package build: open, right, walked.
-/
import Derived.Test.YtjijhpflkkicaaaBPlain
import Derived.Test.YtjijhpflkkicaaaMA
import Derived.Test.YtjijhpflkkicaaaMRefW
import Derived.Test.YtjijhpflkkicaaaWn
import Derived.Test.YtjijhpflkkicaaaLB
import Derived.Test.YtjijhpflkkicaaaLA
import Derived.Test.YtjijhpflkkicaaaObj
import Derived.WalkSpells
import Derived.Shelf.Abstract
set_option linter.unusedVariables false
set_option linter.unusedSimpArgs false
namespace Go.Proofs.Ytjijhpflkkicaaa
open Go Go.RowKit Go.Mem Go.MoneyP Go.NetP Go.BuildP

theorem Try.infoDu : (Try.prog.info? 44).map (fun i => (i.zero, i.size, i.bytes)) = some (some (.agg #[.int .u64 0, .int .i64 0, .int .i64 0, .int .i64 0, .int .i64 0, .int .i64 0, .bool false]), 7, 56) := by kernel_rfl
set_option maxHeartbeats 1000000 in
theorem bank_any (k : Int) (w : World) : Calls Try.prog 90 #[.int .i64 k] w fun en w' => en = .returned (.bool (bankB k)) ∧ w' = w := by
  by_cases h0 : 0 ≤ k
  · by_cases h1 : k < 16
    · have H := Lib.hid (show bankB k = true by simp [bankB, h0, h1])
      have e0 : decide (0 ≤ k) = true := decide_eq_true h0
      have e1 : decide (k < 16) = true := decide_eq_true h1
      clear h0 h1
      go_enter Try.func90, Try.ntmps90
      go_wp2_with fail
      go_ret
      exact ⟨by rw [H.out]; rfl, rfl⟩
    · have H := Lib.hid (show bankB k = false by simp [bankB, h1])
      have e0 : decide (0 ≤ k) = true := decide_eq_true h0
      have e1 : decide (k < 16) = false := decide_eq_false h1
      clear h0 h1
      go_enter Try.func90, Try.ntmps90
      go_wp2_with fail
      go_ret
      exact ⟨by rw [H.out]; rfl, rfl⟩
  · have H := Lib.hid (show bankB k = false by simp [bankB, h0])
    have e0 : decide (0 ≤ k) = false := decide_eq_false h0
    clear h0
    go_enter Try.func90, Try.ntmps90
    go_wp2_with fail
    go_ret
    exact ⟨by rw [H.out]; rfl, rfl⟩
set_option maxHeartbeats 2000000 in
theorem dmay_any (d : Du) (w : World) : Calls Try.prog 73 #[d.val] w fun en w' => en = .returned (.bool (mayD d)) ∧ Below w.heap.size w w' := by
  obtain ⟨id, f, t, x, we, u, h⟩ := d
  dsimp only [Du.val]
  have hs := (Sep.start w).newCells #[.int .u64 id, .int .i64 f, .int .i64 t, .int .i64 x, .int .i64 we, .int .i64 u, .bool h] 44
  have q0 := cell_of (hs.cells 0 rfl) 0
  have q1 := cell_of (hs.cells 0 rfl) 1
  have q2 := cell_of (hs.cells 0 rfl) 2
  have q3 := cell_of (hs.cells 0 rfl) 3
  have q4 := cell_of (hs.cells 0 rfl) 4
  have q5 := cell_of (hs.cells 0 rfl) 5
  have q6 := cell_of (hs.cells 0 rfl) 6
  simp only [List.getElem?_toArray, List.getElem?_cons_zero, List.getElem?_cons_succ] at q0 q1 q2 q3 q4 q5 q6
  go_enter Try.func73, Try.ntmps73
  go_wp2_with fail
  refine (bank_any f _).mono ?_
  rintro en w1 ⟨rfl, rfl⟩
  cases hb1 : bankB f
  · have H := Lib.hid (show mayD ⟨id, f, t, x, we, u, h⟩ = false by simp [mayD, hb1])
    go_wp2_with fail
    go_ret
    exact ⟨by rw [H.out]; rfl, hs.below⟩
  have HB1 := Lib.hid hb1
  clear hb1
  go_wp2_with fail
  refine (bank_any t _).mono ?_
  rintro en w1 ⟨rfl, rfl⟩
  cases hb2 : bankB t
  · have H := Lib.hid (show mayD ⟨id, f, t, x, we, u, h⟩ = false by simp [mayD, hb2])
    go_wp2_with fail
    go_ret
    exact ⟨by rw [H.out]; rfl, hs.below⟩
  have HB2 := Lib.hid hb2
  clear hb2
  by_cases hft : f = t
  · have e1 : (f == t) = true := by simpa using hft
    have HFT := Lib.hid hft
    clear hft
    have H := Lib.hid (show mayD ⟨id, f, t, x, we, u, h⟩ = false by simp [mayD, HFT.out])
    go_wp2_with fail
    go_ret
    exact ⟨by rw [H.out]; rfl, hs.below⟩
  have e1 : (f == t) = false := by simpa using hft
  have HFT := Lib.hid hft
  clear hft
  by_cases hx : 1 ≤ x
  rotate_left
  · have e2 : decide (x < 1) = true := decide_eq_true (by omega)
    have HX := Lib.hid hx
    clear hx
    have H := Lib.hid (show mayD ⟨id, f, t, x, we, u, h⟩ = false by simp [mayD, HX.out])
    go_wp2_with fail
    go_ret
    exact ⟨by rw [H.out]; rfl, hs.below⟩
  have e2 : decide (x < 1) = false := decide_eq_false (by omega)
  have HX := Lib.hid hx
  clear hx
  go_wp2_with fail
  refine (may_any x _).mono ?_
  rintro en w1 ⟨rfl, rfl⟩
  cases hm : mayB x
  · have H := Lib.hid (show mayD ⟨id, f, t, x, we, u, h⟩ = false by simp [mayD, hm])
    go_wp2_with fail
    go_ret
    exact ⟨by rw [H.out]; rfl, hs.below⟩
  have HM := Lib.hid hm
  clear hm
  by_cases hw : 1 ≤ we
  rotate_left
  · have e3 : decide (we < 1) = true := decide_eq_true (by omega)
    have HW := Lib.hid hw
    clear hw
    have H := Lib.hid (show mayD ⟨id, f, t, x, we, u, h⟩ = false by simp [mayD, HW.out])
    go_wp2_with fail
    go_ret
    exact ⟨by rw [H.out]; rfl, hs.below⟩
  have e3 : decide (we < 1) = false := decide_eq_false (by omega)
  have HW := Lib.hid hw
  clear hw
  by_cases hw2 : we ≤ 1000
  rotate_left
  · have e4 : decide (1000 < we) = true := decide_eq_true (by omega)
    have HW2 := Lib.hid hw2
    clear hw2
    have H := Lib.hid (show mayD ⟨id, f, t, x, we, u, h⟩ = false by simp [mayD, HW2.out])
    go_wp2_with fail
    go_ret
    exact ⟨by rw [H.out]; rfl, hs.below⟩
  have e4 : decide (1000 < we) = false := decide_eq_false (by omega)
  have HW2 := Lib.hid hw2
  clear hw2
  by_cases hu : 0 ≤ u
  rotate_left
  · have e5 : decide (u < 0) = true := decide_eq_true (by omega)
    have HU := Lib.hid hu
    clear hu
    have H := Lib.hid (show mayD ⟨id, f, t, x, we, u, h⟩ = false by simp [mayD, HU.out])
    go_wp2_with fail
    go_ret
    exact ⟨by rw [H.out]; rfl, hs.below⟩
  have e5 : decide (u < 0) = false := decide_eq_false (by omega)
  have H := Lib.hid (show mayD ⟨id, f, t, x, we, u, h⟩ = true by simp [mayD, HB1.out, HB2.out, HFT.out, HX.out, HM.out, HW.out, HW2.out, hu])
  go_wp2_with fail
  go_ret
  exact ⟨by rw [H.out]; rfl, hs.below⟩
end Go.Proofs.Ytjijhpflkkicaaa
namespace Go.BuildP
open Go Go.RowKit Go.Mem Go.MoneyP Go.NetP
theorem open_step {l : List Du} {i : Nat} (hi : i < l.length) : openL (l.take (i + 1)) = openL (l.take i) ++ if (l[i]).h then [] else [l[i]] := by
  rw [List.take_succ_eq_append_getElem hi]
  unfold openL
  rw [List.filter_append]
  congr 1
  cases hh : (l[i]).h <;> simp [List.filter_cons, hh]
theorem open_le (l : List Du) : (openL l).length ≤ l.length := List.length_filter_le _ _
def goodD (n : Nat) (d : Du) : Bool := mayD d && inD n d
theorem good_step {n : Nat} {l : List Du} {i : Nat} (hi : i < l.length) (h : (l.take i).all (goodD n) = true) (hx : goodD n (l[i]) = true) : (l.take (i + 1)).all (goodD n) = true := by
  rw [List.take_succ_eq_append_getElem hi, List.all_append, h]
  simp [hx]
theorem good_stop {rooms : List Int} {l : List Du} {i : Nat} (hi : i < l.length) (hx : goodD rooms.length (l[i]) = false) : rightR rooms l = false := by
  have : l.all (fun d => mayD d && inD rooms.length d) = false := by
    rw [List.all_eq_false]
    exact ⟨_, List.getElem_mem hi, by simpa [goodD] using hx⟩
  simp [rightR, this]
theorem amt_step {l : List Du} {i : Nat} (hi : i < l.length) : (l.take (i + 1)).map (·.x) = (l.take i).map (·.x) ++ [(l[i]).x] := by
  rw [List.take_succ_eq_append_getElem hi, List.map_append]; rfl
theorem right_end {rooms : List Int} {l : List Du} (h1 : rooms.length ≤ 16) (h2 : l.length ≤ 64) (h3 : mays rooms = true) (h4 : l.all (goodD rooms.length) = true) : rightR rooms l = (sumE (l.map (·.x)) == 0) := by
  have hm : mays (l.map (·.x)) = true := by
    rw [mays_iff]
    intro x hx
    obtain ⟨d, hd, rfl⟩ := List.mem_map.1 hx
    have := (List.all_eq_true.1 h4) d hd
    unfold goodD at this
    have hm := (mayD_iff d).1 ((Bool.and_eq_true _ _).mp this).1
    have := hm.x0
    exact ⟨by omega, hm.x1⟩
  have h5 : l.all (fun d => mayD d && inD rooms.length d) = true := h4
  unfold rightR
  rw [decide_eq_true h1, decide_eq_true h2, h3, h5]
  unfold sumE
  rw [if_pos hm]
  by_cases hs : (l.map (·.x)).sum ≤ 4503599627370496
  · simp [hs]
  · simp [hs]
end Go.BuildP
namespace Go.Proofs.Ytjijhpflkkicaaa
open Go Go.RowKit Go.Mem Go.MoneyP Go.NetP Go.BuildP
set_option maxHeartbeats 2000000 in
theorem rmayD_any (d : Du) (w : World) : Calls Try.prog 31 #[d.val] w fun en w' => en = .returned (.bool (mayD d)) ∧ Below w.heap.size w w' := by
  obtain ⟨id, f, t, x, we, u, h⟩ := d
  dsimp only [Du.val]
  have hs := (Sep.start w).newCells #[.int .u64 id, .int .i64 f, .int .i64 t, .int .i64 x, .int .i64 we, .int .i64 u, .bool h] 44
  have q0 := cell_of (hs.cells 0 rfl) 0
  have q1 := cell_of (hs.cells 0 rfl) 1
  have q2 := cell_of (hs.cells 0 rfl) 2
  have q3 := cell_of (hs.cells 0 rfl) 3
  have q4 := cell_of (hs.cells 0 rfl) 4
  have q5 := cell_of (hs.cells 0 rfl) 5
  have q6 := cell_of (hs.cells 0 rfl) 6
  simp only [List.getElem?_toArray, List.getElem?_cons_zero, List.getElem?_cons_succ] at q0 q1 q2 q3 q4 q5 q6
  go_enter Try.func31, Try.ntmps31
  by_cases a0 : 0 ≤ f
  rotate_left
  · have ea0 : decide (0 ≤ f) = false := decide_eq_false (by omega)
    have HH := Lib.hid a0
    clear a0
    have H := Lib.hid (show mayD ⟨id, f, t, x, we, u, h⟩ = false by simp [mayD, bankB, HH.out])
    go_wp2_with fail
    go_ret
    exact ⟨by rw [H.out]; rfl, hs.below⟩
  have ea0 : decide (0 ≤ f) = true := decide_eq_true (by omega)
  have Ha0 := Lib.hid a0
  clear a0
  by_cases a1 : f < 16
  rotate_left
  · have ea1 : decide (f < 16) = false := decide_eq_false (by omega)
    have HH := Lib.hid a1
    clear a1
    have H := Lib.hid (show mayD ⟨id, f, t, x, we, u, h⟩ = false by simp [mayD, bankB, HH.out])
    go_wp2_with fail
    go_ret
    exact ⟨by rw [H.out]; rfl, hs.below⟩
  have ea1 : decide (f < 16) = true := decide_eq_true (by omega)
  have Ha1 := Lib.hid a1
  clear a1
  by_cases a2 : 0 ≤ t
  rotate_left
  · have ea2 : decide (0 ≤ t) = false := decide_eq_false (by omega)
    have HH := Lib.hid a2
    clear a2
    have H := Lib.hid (show mayD ⟨id, f, t, x, we, u, h⟩ = false by simp [mayD, bankB, HH.out])
    go_wp2_with fail
    go_ret
    exact ⟨by rw [H.out]; rfl, hs.below⟩
  have ea2 : decide (0 ≤ t) = true := decide_eq_true (by omega)
  have Ha2 := Lib.hid a2
  clear a2
  by_cases a3 : t < 16
  rotate_left
  · have ea3 : decide (t < 16) = false := decide_eq_false (by omega)
    have HH := Lib.hid a3
    clear a3
    have H := Lib.hid (show mayD ⟨id, f, t, x, we, u, h⟩ = false by simp [mayD, bankB, HH.out])
    go_wp2_with fail
    go_ret
    exact ⟨by rw [H.out]; rfl, hs.below⟩
  have ea3 : decide (t < 16) = true := decide_eq_true (by omega)
  have Ha3 := Lib.hid a3
  clear a3
  by_cases hft : f = t
  · have e1 : (f != t) = false := by simpa using hft
    have HFT := Lib.hid hft
    clear hft
    have H := Lib.hid (show mayD ⟨id, f, t, x, we, u, h⟩ = false by simp [mayD, bankB, HFT.out])
    go_wp2_with fail
    go_ret
    exact ⟨by rw [H.out]; rfl, hs.below⟩
  have e1 : (f != t) = true := by simpa using hft
  have HFT := Lib.hid hft
  clear hft
  by_cases a4 : 1 ≤ x
  rotate_left
  · have ea4 : decide (1 ≤ x) = false := decide_eq_false (by omega)
    have HH := Lib.hid a4
    clear a4
    have H := Lib.hid (show mayD ⟨id, f, t, x, we, u, h⟩ = false by simp [mayD, bankB, HH.out])
    go_wp2_with fail
    go_ret
    exact ⟨by rw [H.out]; rfl, hs.below⟩
  have ea4 : decide (1 ≤ x) = true := decide_eq_true (by omega)
  have Ha4 := Lib.hid a4
  clear a4
  go_wp2_with fail
  refine (rmay_any x _).mono ?_
  rintro en w1 ⟨rfl, rfl⟩
  cases hm : mayB x
  · have H := Lib.hid (show mayD ⟨id, f, t, x, we, u, h⟩ = false by simp [mayD, bankB, hm])
    go_wp2_with fail
    go_ret
    exact ⟨by rw [H.out]; rfl, hs.below⟩
  have HM := Lib.hid hm
  clear hm
  by_cases a5 : 1 ≤ we
  rotate_left
  · have ea5 : decide (1 ≤ we) = false := decide_eq_false (by omega)
    have HH := Lib.hid a5
    clear a5
    have H := Lib.hid (show mayD ⟨id, f, t, x, we, u, h⟩ = false by simp [mayD, bankB, HH.out])
    go_wp2_with fail
    go_ret
    exact ⟨by rw [H.out]; rfl, hs.below⟩
  have ea5 : decide (1 ≤ we) = true := decide_eq_true (by omega)
  have Ha5 := Lib.hid a5
  clear a5
  by_cases a6 : we ≤ 1000
  rotate_left
  · have ea6 : decide (we ≤ 1000) = false := decide_eq_false (by omega)
    have HH := Lib.hid a6
    clear a6
    have H := Lib.hid (show mayD ⟨id, f, t, x, we, u, h⟩ = false by simp [mayD, bankB, HH.out])
    go_wp2_with fail
    go_ret
    exact ⟨by rw [H.out]; rfl, hs.below⟩
  have ea6 : decide (we ≤ 1000) = true := decide_eq_true (by omega)
  have Ha6 := Lib.hid a6
  clear a6
  by_cases a7 : 0 ≤ u
  rotate_left
  · have ea7 : decide (0 ≤ u) = false := decide_eq_false (by omega)
    have HH := Lib.hid a7
    clear a7
    have H := Lib.hid (show mayD ⟨id, f, t, x, we, u, h⟩ = false by simp [mayD, bankB, HH.out])
    go_wp2_with fail
    go_ret
    exact ⟨by rw [H.out]; rfl, hs.below⟩
  have ea7 : decide (0 ≤ u) = true := decide_eq_true (by omega)
  have Ha7 := Lib.hid a7
  clear a7
  have H := Lib.hid (show mayD ⟨id, f, t, x, we, u, h⟩ = true by simp [mayD, bankB, Ha0.out, Ha1.out, Ha2.out, Ha3.out, HFT.out, Ha4.out, HM.out, Ha5.out, Ha6.out, Ha7.out])
  go_wp2_with fail
  go_ret
  exact ⟨by rw [H.out]; rfl, hs.below⟩
set_option maxHeartbeats 2000000 in
theorem ropen_any (l : List Du) (v : Value) (w : World) (h : RdG duR w v l) (hsm : l.length ≤ 1000) :
    Calls Try.prog 24 #[v] w fun en w' => ∃ u, en = .returned u ∧ Sep w w' [recT duR 44 u (openL l)] := by
  obtain ⟨i0, hi0, hz0, hz1, hz2⟩ := info_parts Try.infoDu
  obtain ⟨a, c, rfl⟩ := h.shape
  go_enter Try.func24, Try.ntmps24
  go_wp2_with fail
  refine wp_loopM [none, none, none, some 3, some 4, some 5, some 6, some 7, some 8, some 9, some 10, some 11, some 12, some 13, some 14, some 15, some 16, some 17, some 18, some 19, some 20, some 21, some 22, some 23, none] (fun (r : Nat) (f : Nat → Value) (wr : World) => (fun (vo v : Value) => ∃ (i : Nat), v = .int .i64 i ∧ i ≤ l.length ∧ r = l.length - i ∧ Sep w wr [recT duR 44 vo (openL (l.take i))]) (f 3) (f 4)) (l.length) (by kernel_rfl) ?atStart1 ?round1
  case' atStart1 => (try dsimp only [nthV])
  case' round1 =>
    intro gk f wr l hl hrel J1 K1 hJ1 hK1
    (try simp only [mask] at hl)
    generalize f 3 = u3 at hl hrel
    generalize f 4 = u4 at hl hrel
    subst hl
    (try dsimp only at hrel)
  case atStart1 => exact ⟨0, rfl, Nat.zero_le _, rfl, (Sep.start w).nilRecs duR _⟩
  case round1 =>
    obtain ⟨i, rfl, hi, rfl, hs⟩ := hrel
    by_cases hlt : i < l.length
    · obtain ⟨b1, o1, e1, hb1, hc1⟩ := (hs.rdG h).at i hlt
      subst e1
      have HO := Lib.hid (open_step hlt)
      have hol := open_le (l.take i)
      rw [List.length_take, Nat.min_eq_left hi] at hol
      generalize l[i] = x at hc1 HO
      obtain ⟨id, f, t, x, we, u, hh⟩ := x
      have x0 := hc1 0 (by decide)
      have x1 := hc1 1 (by decide)
      have x2 := hc1 2 (by decide)
      have x3 := hc1 3 (by decide)
      have x4 := hc1 4 (by decide)
      have x5 := hc1 5 (by decide)
      have x6 := hc1 6 (by decide)
      simp only [duR, Nat.add_zero, List.getElem?_cons_zero, List.getElem?_cons_succ] at x0 x1 x2 x3 x4 x5 x6
      clear hc1
      cases hh
      · have HO2 := Lib.hid (show openL (l.take (i + 1)) = openL (l.take i) ++ [⟨id, f, t, x, we, u, false⟩] by rw [HO.out]; rfl)
        clear HO
        generalize openL (l.take i) = ys at hs hol HO2
        go_wp2_with (at_builtin; refine wpList_appRec duR rfl (.tmp 17) (.tmp 22) 22 rfl 44 i0 _ 56 Try.underlying22 hi0 hz0 hz1 hz2 rfl _ ys ⟨id, f, t, x, we, u, false⟩ hs 0 rfl _ rfl rfl rfl ?c3 ?c4 ?grow)
        case c3 => unfold maxLen; omega
        case c4 => omega
        case grow =>
          intro v' w5 hs5 hsh
          obtain ⟨g, cap, rfl⟩ := hsh.out
          clear hs hsh x0 x1 x2 x3 x4 x5 x6
          go_wp2_with fail
          refine Round.intro (l.length - (i + 1)) ?measure2 (by kernel_rfl) (hJ1 _ _ _ ?rel2)
          case' rel2 => (try dsimp only [nthV])
          case measure2 => omega
          case rel2 => exact ⟨i + 1, by go_num, hlt, rfl, by rw [HO2.out]; exact hs5⟩
      · have HO2 := Lib.hid (show openL (l.take (i + 1)) = openL (l.take i) by rw [HO.out]; exact List.append_nil _)
        clear HO
        go_wp2_with fail
        refine Round.intro (l.length - (i + 1)) ?measure3 (by kernel_rfl) (hJ1 _ _ _ ?rel3)
        case' rel3 => (try dsimp only [nthV])
        case measure3 => omega
        case rel3 => exact ⟨i + 1, by go_num, hlt, rfl, by rw [HO2.out]; exact hs⟩
    · obtain rfl : i = l.length := by omega
      rw [List.take_length] at hs
      go_wp2_with fail
      go_ret
      exact ⟨_, rfl, hs⟩
end Go.Proofs.Ytjijhpflkkicaaa
namespace Go.BuildP
open Go Go.RowKit Go.Mem Go.MoneyP Go.NetP
/-- The first one that is held. -/
def IdxP (l : List Du) (k : Int) : Prop := (k = -1 ∧ ∀ d ∈ l, d.h = false) ∨ ∃ i : Nat, k = i ∧ ∃ hi : i < l.length, (l[i]).h = true ∧ ∀ d ∈ l.take i, d.h = false
theorem open_all {l : List Du} (h : ∀ d ∈ l, d.h = false) : openL l = l := by
  unfold openL
  rw [List.filter_eq_self]
  intro d hd
  rw [h d hd]; rfl
/-- What lies in the row while the held ones are being deleted. -/
def DelP (l ys : List Du) (i j : Nat) : Prop := ys.length = l.length ∧ i ≤ j ∧ j ≤ l.length ∧ ys.take i = openL (l.take j) ∧ ys.drop j = l.drop j
theorem del_start {l : List Du} {i : Nat} (hi : i < l.length) (hh : (l[i]).h = true) (ha : ∀ d ∈ l.take i, d.h = false) : DelP l l i (i + 1) := by
  refine ⟨rfl, by omega, by omega, ?_, rfl⟩
  rw [open_step hi, hh, open_all ha]
  simp
theorem del_skip {l ys : List Du} {i j : Nat} (h : DelP l ys i j) (hj : j < l.length) (hh : (l[j]).h = true) : DelP l ys i (j + 1) := by
  obtain ⟨h1, h2, h3, h4, h5⟩ := h
  refine ⟨h1, by omega, by omega, ?_, ?_⟩
  · rw [open_step hj, hh, h4]; simp
  · have := congrArg (List.drop 1) h5
    rwa [List.drop_drop, List.drop_drop] at this
theorem del_at {l ys : List Du} {i j : Nat} (h : DelP l ys i j) (hj : j < l.length) : ∃ hy : j < ys.length, ys[j] = l[j] := by
  obtain ⟨h1, h2, h3, h4, h5⟩ := h
  refine ⟨by omega, ?_⟩
  have := congrArg (fun a => a[0]?) h5
  simp only [List.getElem?_drop, Nat.add_zero] at this
  rw [List.getElem?_eq_getElem (by omega), List.getElem?_eq_getElem hj] at this
  exact Option.some.inj this
theorem del_put {l ys : List Du} {i j : Nat} (h : DelP l ys i j) (hij : i < j) (hj : j < l.length) (hh : (l[j]).h = false) : DelP l (ys.set i (l[j])) (i + 1) (j + 1) := by
  obtain ⟨h1, h2, h3, h4, h5⟩ := h
  refine ⟨by rw [List.length_set]; exact h1, by omega, by omega, ?_, ?_⟩
  · rw [open_step hj, hh, ← h4, List.take_succ_eq_append_getElem (by rw [List.length_set]; omega), List.take_set_of_le (Nat.le_refl _)]
    simp
  · rw [List.drop_set_of_lt (by omega)]
    have := congrArg (List.drop 1) h5
    rwa [List.drop_drop, List.drop_drop] at this
theorem del_end {l ys : List Du} {i j : Nat} (h : DelP l ys i j) (hj : j = l.length) : ys.take i = openL l := by
  obtain ⟨h1, h2, h3, h4, h5⟩ := h
  rw [h4, hj, List.take_length]
end Go.BuildP
namespace Go.Proofs.Ytjijhpflkkicaaa
open Go Go.RowKit Go.Mem Go.MoneyP Go.NetP Go.BuildP Go.Shelf
set_option maxHeartbeats 1000000 in
set_option maxRecDepth 100000 in
theorem cloneD_any (v : Value) (xs : List Du) (w : World) (h : RdG duR w v xs) (hsm : xs.length ≤ 1000000) :
    Calls Try.prog 55 #[v] w fun en w' => ∃ u, en = .returned u ∧ Sep w w' [recT duR 44 u xs] := by
  obtain ⟨i0, hi0, hz0, hz1, hz2⟩ := info_parts Try.infoDu
  obtain ⟨a, c, rfl⟩ := h.shape
  rcases a with _ | a
  · have hx : xs = [] := by
      rcases Nat.eq_zero_or_pos xs.length with q | q
      · exact List.eq_nil_of_length_eq_zero q
      · obtain ⟨b, o, e, _⟩ := h.at 0 q; cases e
    have hc : c = 0 := by obtain ⟨_, _, e, _, hn, _⟩ := h; injection e with e1 e2 e3; subst e1; subst e3; exact hn rfl
    subst hx; subst hc
    have he := fun w : World => Lib.run_eql_slice_nil (P := Try.prog) w 22 44 none 0 0 0 0 Try.underlying22
    simp at he
    go_enter Try.func55, Try.ntmps55
    go_wp2_with fail
    go_ret
    exact ⟨_, rfl, (Sep.start w).nilRecs duR _⟩
  · have he := fun w : World => Lib.run_eql_slice_nil (P := Try.prog) w 22 44 (some a) xs.length c 0 0 Try.underlying22
    simp at he
    have hs2 := (Sep.start w).litRecs duR 44 [] (by simp [maxLen])
    simp only [List.length_nil, Rec.flat, List.flatMap_nil] at hs2
    go_enter Try.func55, Try.ntmps55
    go_wp2_with (at_builtin; refine wpList_appRdG duR rfl (.tmp 5) (.tmp 6) 22 rfl 44 i0 _ 56 Try.underlying22 hi0 hz0 hz1 hz2 rfl _ [] _ xs hs2 0 rfl (hs2.rdG h) rfl rfl ?c3 ?c4 ?grow)
    case c3 => (try simp); (try simp only [maxLen]); (try omega)
    case c4 => (try simp); (try simp only [maxLen]); (try omega)
    case grow =>
      intro v' w2 hs3
      (try simp only [List.set_cons_zero, List.nil_append] at hs3)
      clear he
      go_wp2_with fail
      go_ret
      exact ⟨_, rfl, hs3⟩
theorem ent_held : Enters Try.prog 56 := enters_of Try.func56 (by kernel_rfl) rfl
set_option maxHeartbeats 1000000 in
theorem held_any (d : Du) (w : World) : Calls Try.prog 56 #[d.val] w fun en w' => en = .returned (.bool d.h) ∧ Below w.heap.size w w' := by
  obtain ⟨id, f, t, x, we, u, h⟩ := d
  dsimp only [Du.val]
  have hs := (Sep.start w).newCells #[.int .u64 id, .int .i64 f, .int .i64 t, .int .i64 x, .int .i64 we, .int .i64 u, .bool h] 44
  go_enter Try.func56, Try.ntmps56
  go_wp2_with fail
  go_ret
  exact ⟨rfl, hs.below⟩
set_option maxHeartbeats 2000000 in
theorem indexF_any (l : List Du) (v : Value) (w : World) (h : RdG duR w v l) :
    Calls Try.prog 69 #[v, .func (.func 56) #[] #[]] w fun en w' => ∃ k : Int, en = .returned (.int .i64 k) ∧ IdxP l k ∧ Below w.heap.size w w' := by
  obtain ⟨a, c, rfl⟩ := h.shape
  have hle := h.le'
  have hen := fun W args => ent_held W args
  go_enter Try.func69, Try.ntmps69
  go_wp2_with fail
  refine wp_loopM [none, none, none, none, some 4, some 5, none, none, some 8, some 9, some 10, some 11, some 12, some 13, some 14, some 15, some 16, some 17, some 18] (fun (r : Nat) (f : Nat → Value) (wr : World) => (fun (v : Value) => ∃ i : Nat, v = .int .i64 i ∧ i ≤ l.length ∧ r = l.length - i ∧ Hid (∀ d ∈ l.take i, d.h = false) ∧ Sep w wr []) (f 8)) (l.length) (by kernel_rfl) ?atStart4 ?round4
  case' atStart4 => (try dsimp only [nthV])
  case' round4 =>
    intro gk f wr l hl hrel J1 K1 hJ1 hK1
    (try simp only [mask] at hl)
    generalize f 8 = u8 at hl hrel
    subst hl
    (try dsimp only at hrel)
  case atStart4 => exact ⟨0, rfl, Nat.zero_le _, rfl, Lib.hid (by simp), Sep.start w⟩
  case round4 =>
    obtain ⟨i, rfl, hi, rfl, HA, hs⟩ := hrel
    by_cases hlt : i < l.length
    · obtain ⟨b1, o1, e1, hb1, hc1⟩ := (hs.rdG h).at i hlt
      subst e1
      obtain ⟨x, hx⟩ : ∃ x, x = l[i] := ⟨_, rfl⟩
      rw [← hx] at hc1
      have HX := Lib.hid hx
      clear hx
      obtain ⟨id, f, t, xx, we, u, hh⟩ := x
      have x0 := hc1 0 (by decide)
      have x1 := hc1 1 (by decide)
      have x2 := hc1 2 (by decide)
      have x3 := hc1 3 (by decide)
      have x4 := hc1 4 (by decide)
      have x5 := hc1 5 (by decide)
      have x6 := hc1 6 (by decide)
      simp only [duR, Nat.add_zero, List.getElem?_cons_zero, List.getElem?_cons_succ] at x0 x1 x2 x3 x4 x5 x6
      clear hc1
      have HE := Lib.hid (held_any ⟨id, f, t, xx, we, u, hh⟩ wr)
      dsimp only [Du.val] at HE
      cases hh
      · have HA2 := Lib.hid (show ∀ d ∈ l.take (i + 1), d.h = false by
          rw [List.take_succ_eq_append_getElem hlt]
          intro d hd
          rcases List.mem_append.1 hd with q | q
          · exact HA.out d q
          · rw [List.mem_singleton.1 q, ← HX.out])
        go_wp2_with fail
        refine (HE.out).mono ?_
        rintro en w2 ⟨rfl, hb⟩
        clear HE x0 x1 x2 x3 x4 x5 x6
        go_wp2_with fail
        refine Round.intro (l.length - (i + 1)) ?measure5 (by kernel_rfl) (hJ1 _ _ _ ?rel5)
        case' rel5 => (try dsimp only [nthV])
        case measure5 => omega
        case rel5 => exact ⟨i + 1, by go_num, hlt, rfl, HA2, hs.belowStep hb⟩
      · go_wp2_with fail
        refine (HE.out).mono ?_
        rintro en w2 ⟨rfl, hb⟩
        clear HE x0 x1 x2 x3 x4 x5 x6
        go_wp2_with fail
        go_ret
        exact ⟨i, rfl, .inr ⟨i, rfl, hlt, by rw [← HX.out], HA.out⟩, (hs.belowStep hb).below⟩
    · obtain rfl : i = l.length := by omega
      have HA2 := HA.out
      rw [List.take_length] at HA2
      have HA3 := Lib.hid HA2
      clear HA2
      go_wp2_with fail
      go_ret
      exact ⟨-1, rfl, .inl ⟨rfl, HA3.out⟩, hs.below⟩
set_option maxHeartbeats 2000000 in
set_option maxRecDepth 100000 in
theorem delF_any {w0 w : World} {L : List Thing} (hs : Sep w0 w L) (q : Nat) (l : List Du) (v : Value) (hq : L[q]? = some (winT duR v l)) :
    Calls Try.prog 54 #[v, .func (.func 56) #[] #[]] w fun en w' => ∃ u, en = .returned u ∧ Sep w0 w' (L.set q (winT duR u (openL l))) := by
  obtain ⟨a, c, rfl⟩ := (hs.rdWin q hq).shape
  have hle := (hs.rdWin q hq).le'
  have hen := fun W args => ent_held W args
  have HQ := Lib.hid hq
  clear hq
  go_enter Try.func54, Try.ntmps54
  go_wp2_with fail
  refine (indexF_any l _ _ (hs.rdWin q HQ.out)).mono ?_
  rintro en w1 ⟨k, rfl, hk, hb⟩
  replace hs := hs.belowStep hb
  clear hb
  rcases hk with ⟨rfl, ha⟩ | ⟨i, rfl, hi, hh, ha⟩
  · have HE := Lib.hid (open_all ha)
    clear ha
    go_wp2_with fail
    go_ret
    exact ⟨.slice a l.length c, rfl, by rw [HE.out, set_same HQ.out]; exact hs⟩
  · have HD0 := Lib.hid (del_start hi hh ha)
    clear ha hh
    have hne : ((i : Int) == -1) = false := by simp
    go_wp2_with fail
    refine wp_loopM [none, none, none, none, none, some 5, some 6, some 7, none, none, none, none, none, none, none, none, some 16, some 17, some 18, some 19, some 20, some 21, some 22, some 23, some 24, some 25, some 26, some 27, some 28, some 29, some 30, some 31, some 32, some 33, some 34, some 35, none, none, none, none, none, none] (fun (r : Nat) (f : Nat → Value) (wr : World) => (fun (vi vj : Value) => ∃ (i j : Nat) (ys : List Du), vi = .int .i64 i ∧ vj = .int .i64 j ∧ r = l.length - j ∧ i < j ∧ j ≤ l.length ∧ Hid (DelP l ys i j) ∧ Sep w0 wr (L.set q (winT duR (.slice a l.length c) ys))) (f 5) (f 6)) (l.length - (i + 1)) (by kernel_rfl) ?atStart6 ?round6
    case' atStart6 => (try dsimp only [nthV])
    case' round6 =>
      intro gk f wr l hl hrel J1 K1 hJ1 hK1
      (try simp only [mask] at hl)
      generalize f 5 = u5 at hl hrel
      generalize f 6 = u6 at hl hrel
      subst hl
      (try dsimp only at hrel)
    case atStart6 => exact ⟨i, i + 1, l, rfl, by go_num, by omega, by omega, by omega, HD0, by rw [set_same HQ.out]; exact hs⟩
    case round6 =>
      clear hs HD0 hi hne
      obtain ⟨i, j, ys, rfl, rfl, rfl, hij, hj, HD, hs⟩ := hrel
      have HQS := Lib.hid (fun X : Thing => (by rw [List.getElem?_set_self (List.getElem?_eq_some_iff.1 HQ.out).1] : (L.set q X)[q]? = some X))
      have hyl := HD.out.1
      by_cases hlt : j < l.length
      · obtain ⟨hy, hyj⟩ := del_at HD.out hlt
        obtain ⟨b1, o1, e1, hb1, hc1⟩ := (hs.rdWin q (HQS.out _)).at j hy
        subst e1
        rw [hyj] at hc1
        obtain ⟨x, hx⟩ : ∃ x, x = l[j] := ⟨_, rfl⟩
        rw [← hx] at hc1
        have HX := Lib.hid hx
        clear hx hyj
        obtain ⟨id, f, t, xx, we, u, hh⟩ := x
        have x0 := hc1 0 (by decide)
        have x1 := hc1 1 (by decide)
        have x2 := hc1 2 (by decide)
        have x3 := hc1 3 (by decide)
        have x4 := hc1 4 (by decide)
        have x5 := hc1 5 (by decide)
        have x6 := hc1 6 (by decide)
        simp only [duR, Nat.add_zero, List.getElem?_cons_zero, List.getElem?_cons_succ] at x0 x1 x2 x3 x4 x5 x6
        clear hc1
        cases hh
        · have HD2 := Lib.hid (del_put HD.out hij hlt (by rw [← HX.out]))
          rw [← HX.out] at HD2
          go_wp2_with fail
          have HE := Lib.hid (held_any ⟨id, f, t, xx, we, u, false⟩ (wr.alloc (.cells #[.int .u64 id, .int .i64 f, .int .i64 t, .int .i64 xx, .int .i64 we, .int .i64 u, .bool false] 44)))
          have hn := heap_alloc_new wr (.cells #[.int .u64 id, .int .i64 f, .int .i64 t, .int .i64 xx, .int .i64 we, .int .i64 u, .bool false] 44)
          dsimp only [Du.val] at HE
          refine (HE.out).mono ?_
          rintro en w2 ⟨rfl, hb⟩
          replace hs := hs.newCells #[.int .u64 id, .int .i64 f, .int .i64 t, .int .i64 xx, .int .i64 we, .int .i64 u, .bool false] 44
          have y0 := (hb.cell (p := ⟨wr.heap.size, 0, none⟩) (lt_of hn)).trans (cell_of hn 0)
          have y1 := (hb.cell (p := ⟨wr.heap.size, 1, none⟩) (lt_of hn)).trans (cell_of hn 1)
          have y2 := (hb.cell (p := ⟨wr.heap.size, 2, none⟩) (lt_of hn)).trans (cell_of hn 2)
          have y3 := (hb.cell (p := ⟨wr.heap.size, 3, none⟩) (lt_of hn)).trans (cell_of hn 3)
          have y4 := (hb.cell (p := ⟨wr.heap.size, 4, none⟩) (lt_of hn)).trans (cell_of hn 4)
          have y5 := (hb.cell (p := ⟨wr.heap.size, 5, none⟩) (lt_of hn)).trans (cell_of hn 5)
          have y6 := (hb.cell (p := ⟨wr.heap.size, 6, none⟩) (lt_of hn)).trans (cell_of hn 6)
          simp only [List.getElem?_toArray, List.getElem?_cons_zero, List.getElem?_cons_succ] at y0 y1 y2 y3 y4 y5 y6
          replace hs := (hs.belowStep hb).tail
          have hiy : i < ys.length := by omega
          obtain ⟨b2, o2, e2, hb2, hc2⟩ := (hs.rdWin q (HQS.out _)).at i hiy
          injection e2 with e2
          injection e2 with e2 e3 _
          subst e2; subst e3
          have hfz : ∀ k, w2.frozen? ⟨b1, k, none⟩ = false := by
            rcases hs.win q (HQS.out _) with ⟨e, _⟩ | ⟨g, off, cap, e, _, _, _, _, hz, _⟩
            · cases e
            · injection e with e _ _
              injection e with e
              injection e with e _ _
              subst e; exact hz
          generalize ys[i] = y at hc2
          obtain ⟨id', f', t', x', we', u', h'⟩ := y
          have z0 := hc2 0 (by decide)
          have z1 := hc2 1 (by decide)
          have z2 := hc2 2 (by decide)
          have z3 := hc2 3 (by decide)
          have z4 := hc2 4 (by decide)
          have z5 := hc2 5 (by decide)
          have z6 := hc2 6 (by decide)
          simp only [duR, Nat.add_zero, List.getElem?_cons_zero, List.getElem?_cons_succ] at z0 z1 z2 z3 z4 z5 z6
          clear hc2
          have hs3 := hs.setRecW q (HQS.out _) i hiy ⟨id, f, t, xx, we, u, false⟩
          rw [List.set_set] at hs3
          clear HE hb hn x0 x1 x2 x3 x4 x5 x6 hs
          go_wp2_with fail
          refine Round.intro (l.length - (j + 1)) ?measure7 (by kernel_rfl) (hJ1 _ _ _ ?rel7)
          case' rel7 => (try dsimp only [nthV])
          case measure7 => omega
          case rel7 => exact ⟨i + 1, j + 1, _, by go_num, by go_num, rfl, by omega, hlt, HD2, hs3⟩
        · have HD2 := Lib.hid (del_skip HD.out hlt (by rw [← HX.out]))
          go_wp2_with fail
          have HE := Lib.hid (held_any ⟨id, f, t, xx, we, u, true⟩ (wr.alloc (.cells #[.int .u64 id, .int .i64 f, .int .i64 t, .int .i64 xx, .int .i64 we, .int .i64 u, .bool true] 44)))
          dsimp only [Du.val] at HE
          refine (HE.out).mono ?_
          rintro en w2 ⟨rfl, hb⟩
          replace hs := (hs.alloc (.cells #[.int .u64 id, .int .i64 f, .int .i64 t, .int .i64 xx, .int .i64 we, .int .i64 u, .bool true] 44)).belowStep hb
          clear HE hb x0 x1 x2 x3 x4 x5 x6
          go_wp2_with fail
          refine Round.intro (l.length - (j + 1)) ?measure8 (by kernel_rfl) (hJ1 _ _ _ ?rel8)
          case' rel8 => (try dsimp only [nthV])
          case measure8 => omega
          case rel8 => exact ⟨i, j + 1, ys, rfl, by go_num, rfl, by omega, hlt, HD2, hs⟩
      · obtain rfl : j = l.length := by omega
        have HE := Lib.hid (del_end HD.out rfl)
        obtain ⟨i0, hi0, hz0, hz1, hz2⟩ := info_parts Try.infoDu
        have hzv : ∀ w : World, (zeroValue 44).run Try.prog w = .ok (.agg #[.int .u64 0, .int .i64 0, .int .i64 0, .int .i64 0, .int .i64 0, .int .i64 0, .bool false]) w := fun w => by simp [zeroValue, typeInfo, hi0, hz0]
        rcases hs.win q (HQS.out _) with ⟨_, hz⟩ | ⟨g, off, cap, e, hcap, _⟩
        · rw [hz] at hyl; simp at hyl; omega
        · injection e with e1 e2 e3
          subst e1; subst e3
          have hci : ¬ c = i := by omega
          have hcl : l.length ≤ c := by omega
          have hic : i ≤ c := by omega
          have HYL := Lib.hid hyl
          have HZV := Lib.hid hzv
          clear hyl hcap hzv hz0 hz1 hz2 hi0 i0
          go_upto_region 11 with fail
          go_wp2_with (refine wpList_clearWin duR rfl (.tmp 38) 22 44 rfl _ Try.underlying22 HZV.out ⟨0, 0, 0, 0, 0, 0, false⟩ rfl g off l.length c ys hs q (HQS.out _) i _ _ _ rfl (by rw [HYL.out]) (fun _ => rfl) (by rw [HYL.out]; omega) ?clr)
          case clr =>
            intro w5 hs5
            (try rw [List.set_set] at hs5)
            rw [HE.out] at hs5
            clear hs
            go_wp2_with fail
            go_ret
            exact ⟨_, rfl, hs5⟩
/-- The dues that are open. -/
theorem open_any (l : List Du) (v : Value) (w : World) (h : RdG duR w v l) (hsm : l.length ≤ 1000) :
    Calls Try.prog 36 #[v] w fun en w' => ∃ u, en = .returned u ∧ Sep w w' [winT duR u (openL l)] := by
  go_enter Try.func36, Try.ntmps36
  go_wp2_with fail
  refine (cloneD_any v l _ h (by omega)).mono ?_
  rintro en w1 ⟨u1, rfl, hs⟩
  have hs2 := hs.winOf 0 rfl
  have DF := Lib.hid (delF_any hs2 0 l u1 rfl)
  clear hs hs2
  go_wp2_with fail
  refine (DF.out).mono ?_
  rintro en w2 ⟨u2, rfl, hs3⟩
  go_wp2_with fail
  go_ret
  exact ⟨_, rfl, hs3⟩
end Go.Proofs.Ytjijhpflkkicaaa
namespace Go.Proofs.Ytjijhpflkkicaaa
open Go Go.RowKit Go.Mem Go.MoneyP Go.NetP Go.BuildP
theorem Try.infoI64b : (Try.prog.info? 2).map (fun i => (i.zero, i.size, i.bytes)) = some (some (.int .i64 0), 1, 8) := by kernel_rfl
set_option maxHeartbeats 2000000 in
set_option maxRecDepth 100000 in
theorem brright_any (rooms : List Int) (l : List Du) (vr vl : Value) (w : World) (hr : Rd .i64 w vr rooms) (h : RdG duR w vl l) :
    Calls Try.prog 43 #[vr, vl] w fun en w' => en = .returned (.bool (rightR rooms l)) ∧ Below w.heap.size w w' := by
  obtain ⟨i0, hi0, hz0, hz1, hz2⟩ := info_parts Try.infoI64b
  obtain ⟨ar, cr, rfl⟩ := hr.shape
  obtain ⟨a, c, rfl⟩ := h.shape
  have hle := hr.le'
  have hle2 := h.le'
  by_cases h16 : rooms.length ≤ 16
  rotate_left
  · have d16 : decide ((16 : Int) < (rooms.length : Int)) = true := decide_eq_true (by omega)
    have HE := Lib.hid (show rightR rooms l = false by simp [rightR, h16])
    clear h16
    go_enter Try.func43, Try.ntmps43
    go_wp2_with fail
    go_ret
    exact ⟨by rw [HE.out]; rfl, Below.refl _ _⟩
  have d16 : decide ((16 : Int) < (rooms.length : Int)) = false := decide_eq_false (by omega)
  by_cases h64 : l.length ≤ 64
  rotate_left
  · have d64 : decide ((64 : Int) < (l.length : Int)) = true := decide_eq_true (by omega)
    have HE := Lib.hid (show rightR rooms l = false by simp [rightR, h64])
    clear h16 h64
    go_enter Try.func43, Try.ntmps43
    go_wp2_with fail
    go_ret
    exact ⟨by rw [HE.out]; rfl, Below.refl _ _⟩
  have d64 : decide ((64 : Int) < (l.length : Int)) = false := decide_eq_false (by omega)
  go_enter Try.func43, Try.ntmps43
  go_wp2_with fail
  refine wp_loopM [none, none, none, none, some 4, none, some 6, none, none, none, none, none, none, none, none, none, none, none, some 18, some 19, some 20, some 21, some 22, some 23, some 24, some 25, some 26, some 27, some 28, some 29, none, none, none, none, none, none, none, none, none, none, none, none, none, none, none, none, none, none, none, none, none, none, none, none, none, none, none, none, none, none, none, none, none, none, none, none, none, none, none, none, none, none, none, none, none, none, none] (fun (r : Nat) (f : Nat → Value) (wr : World) => (fun (v : Value) => ∃ i : Nat, v = .int .i64 i ∧ i ≤ rooms.length ∧ r = rooms.length - i ∧ Hid (mays (rooms.take i) = true) ∧ wr = w) (f 6)) (rooms.length) (by kernel_rfl) ?atStart9 ?round9
  case' atStart9 => (try dsimp only [nthV])
  case' round9 =>
    intro gk f wr l hl hrel J1 K1 hJ1 hK1
    (try simp only [mask] at hl)
    generalize f 6 = u6 at hl hrel
    subst hl
    (try dsimp only at hrel)
  case atStart9 => exact ⟨0, rfl, Nat.zero_le _, rfl, Lib.hid (by rfl), rfl⟩
  case round9 =>
    obtain ⟨i, rfl, hi, rfl, HA, rfl⟩ := hrel
    by_cases hlt : i < rooms.length
    · obtain ⟨b1, o1, e1, hb1, hc1⟩ := hr.at i hlt
      subst e1
      obtain ⟨X, hX⟩ : ∃ X, X = rooms.getD i 0 := ⟨_, rfl⟩
      rw [← hX] at hc1
      have HX := Lib.hid hX
      clear hX
      go_wp2_with fail
      refine (rmay_any X _).mono ?_
      rintro en w1 ⟨rfl, rfl⟩
      cases hm : mayB X
      · have HE := Lib.hid (show rightR rooms l = false by
          have := mays_stop hlt (by rw [← HX.out]; exact hm)
          simp [rightR, this])
        clear hm
        go_wp2_with fail
        go_ret
        exact ⟨by rw [HE.out]; rfl, Below.refl _ _⟩
      · have HA2 := Lib.hid (mays_step hlt HA.out (by rw [← HX.out]; exact hm))
        clear hm
        go_wp2_with fail
        refine Round.intro (rooms.length - (i + 1)) ?measure10 (by kernel_rfl) (hJ1 _ _ _ ?rel10)
        case' rel10 => (try dsimp only [nthV])
        case measure10 => omega
        case rel10 => exact ⟨i + 1, by go_num, hlt, rfl, HA2, rfl⟩
    · have HM := Lib.hid (mays_full (by omega : i = rooms.length) HA.out)
      clear HA
      go_wp2_with fail
      refine wp_loopM [none, none, none, none, some 4, some 5, none, some 7, none, none, none, none, none, none, none, none, none, none, none, none, none, none, none, none, none, none, none, none, none, none, some 30, some 31, some 32, some 33, some 34, some 35, some 36, some 37, some 38, some 39, some 40, some 41, some 42, some 43, some 44, some 45, some 46, some 47, some 48, some 49, some 50, some 51, some 52, some 53, some 54, some 55, some 56, some 57, some 58, some 59, some 60, some 61, some 62, some 63, some 64, some 65, some 66, some 67, some 68, some 69, none, none, none, none, none, none, none] (fun (r2 : Nat) (f : Nat → Value) (wq : World) => (fun (vo v : Value) => ∃ j : Nat, v = .int .i64 j ∧ j ≤ l.length ∧ r2 = l.length - j ∧ Hid ((l.take j).all (goodD rooms.length) = true) ∧ Sep wr wq [intsT .i64 2 vo ((l.take j).map (·.x))]) (f 5) (f 7)) (l.length) (by kernel_rfl) ?atStart11 ?round11
      case' atStart11 => (try dsimp only [nthV])
      case' round11 =>
        intro gk f wr l hl hrel J2 K2 hJ2 hK2
        (try simp only [mask] at hl)
        generalize f 5 = u5 at hl hrel
        generalize f 7 = u7 at hl hrel
        subst hl
        (try dsimp only at hrel)
      case atStart11 => exact ⟨0, rfl, Nat.zero_le _, rfl, Lib.hid (by rfl), (Sep.start _).nilInts .i64 _⟩
      case round11 =>
        obtain ⟨j, rfl, hj, rfl, HA, hs⟩ := hrel
        obtain ⟨AM, hAM⟩ : ∃ A, A = (l.take j).map (·.x) := ⟨_, rfl⟩
        have hml : AM.length = j := by rw [hAM]; simp [hj]
        rw [← hAM] at hs
        have HAM := Lib.hid hAM
        clear hAM
        obtain ⟨al, cl, rfl⟩ := (hs.rdInts 0 rfl).shape
        rw [hml] at hs ⊢
        by_cases hlt : j < l.length
        · obtain ⟨b1, o1, e1, hb1, hc1⟩ := (hs.rdG h).at j hlt
          subst e1
          obtain ⟨x, hx⟩ : ∃ x, x = l[j] := ⟨_, rfl⟩
          rw [← hx] at hc1
          have HX := Lib.hid hx
          have HML := Lib.hid hml
          have HAS := Lib.hid (amt_step hlt)
          rw [← hx] at HAS
          clear hx hml
          have RM := Lib.hid (rmayD_any x wr)
          obtain ⟨id, f, t, xx, we, u, hh⟩ := x
          have x0 := hc1 0 (by decide)
          have x1 := hc1 1 (by decide)
          have x2 := hc1 2 (by decide)
          have x3 := hc1 3 (by decide)
          have x4 := hc1 4 (by decide)
          have x5 := hc1 5 (by decide)
          have x6 := hc1 6 (by decide)
          simp only [duR, Nat.add_zero, List.getElem?_cons_zero, List.getElem?_cons_succ] at x0 x1 x2 x3 x4 x5 x6
          clear hc1
          dsimp only [Du.val] at RM
          cases hm : mayD ⟨id, f, t, xx, we, u, hh⟩
          · have HE := Lib.hid (good_stop (rooms := rooms) hlt (by rw [← HX.out]; simp [goodD, inD, hm]))
            rw [hm] at RM
            clear hm
            go_wp2_with fail
            refine (RM.out).mono ?_
            rintro en w1 ⟨rfl, hb⟩
            go_wp2_with fail
            go_ret
            exact ⟨by rw [HE.out]; rfl, (hs.belowStep hb).below⟩
          rw [hm] at RM
          by_cases hf : f < (rooms.length : Int)
          rotate_left
          · have HE := Lib.hid (good_stop (rooms := rooms) hlt (by rw [← HX.out]; simp [goodD, inD, hf]))
            have e1 : decide ((rooms.length : Int) ≤ f) = true := decide_eq_true (by omega)
            go_wp2_with fail
            refine (RM.out).mono ?_
            rintro en w1 ⟨rfl, hb⟩
            have hs2 := hs.belowStep hb
            have y1 := (hb.cell (p := ⟨b1, o1 + j * 7 + 1, none⟩) (Nat.lt_of_lt_of_le hb1 (Nat.le_refl _))).trans x1
            go_wp2_with fail
            go_ret
            exact ⟨by rw [HE.out]; rfl, hs2.below⟩
          have e1 : decide ((rooms.length : Int) ≤ f) = false := decide_eq_false (by omega)
          by_cases ht : t < (rooms.length : Int)
          rotate_left
          · have HE := Lib.hid (good_stop (rooms := rooms) hlt (by rw [← HX.out]; simp [goodD, inD, ht]))
            have e2 : decide ((rooms.length : Int) ≤ t) = true := decide_eq_true (by omega)
            go_wp2_with fail
            refine (RM.out).mono ?_
            rintro en w1 ⟨rfl, hb⟩
            have hs2 := hs.belowStep hb
            have y1 := (hb.cell (p := ⟨b1, o1 + j * 7 + 1, none⟩) (Nat.lt_of_lt_of_le hb1 (Nat.le_refl _))).trans x1
            have y2 := (hb.cell (p := ⟨b1, o1 + j * 7 + 2, none⟩) (Nat.lt_of_lt_of_le hb1 (Nat.le_refl _))).trans x2
            go_wp2_with fail
            go_ret
            exact ⟨by rw [HE.out]; rfl, hs2.below⟩
          have e2 : decide ((rooms.length : Int) ≤ t) = false := decide_eq_false (by omega)
          have HA2 := Lib.hid (good_step hlt HA.out (by rw [← HX.out]; simp [goodD, inD, hm, hf, ht]))
          clear hm hf ht
          go_wp2_with fail
          refine (RM.out).mono ?_
          rintro en w1 ⟨rfl, hb⟩
          replace hs := hs.belowStep hb
          have y1 := (hb.cell (p := ⟨b1, o1 + j * 7 + 1, none⟩) (Nat.lt_of_lt_of_le hb1 (Nat.le_refl _))).trans x1
          have y2 := (hb.cell (p := ⟨b1, o1 + j * 7 + 2, none⟩) (Nat.lt_of_lt_of_le hb1 (Nat.le_refl _))).trans x2
          have y3 := (hb.cell (p := ⟨b1, o1 + j * 7 + 3, none⟩) (Nat.lt_of_lt_of_le hb1 (Nat.le_refl _))).trans x3
          clear x0 x1 x2 x3 x4 x5 x6 RM hb hb1
          go_wp2_with (at_builtin; refine wpList_appInt rfl (.tmp 62) (.tmp 68) 23 rfl 2 i0 _ 8 Try.underlying23 hi0 hz0 hz1 hz2 rfl _ AM .i64 xx hs 0 rfl rfl rfl ?c3 ?c4 ?grow)
          case c3 => rw [HML.out]; unfold maxLen; omega
          case c4 => rw [HML.out]; omega
          case grow =>
            intro v' w5 hs5 hsh
            obtain ⟨g, cap, rfl⟩ := hsh.out
            rw [HML.out] at hs5 ⊢
            (try simp only [List.set_cons_zero] at hs5)
            clear hs hsh y1 y2 y3
            go_wp2_with fail
            refine Round.intro (l.length - (j + 1)) ?measure12 (by kernel_rfl) (hJ2 _ _ _ ?rel12)
            case' rel12 => (try dsimp only [nthV])
            case measure12 => omega
            case rel12 => exact ⟨j + 1, by go_num, hlt, rfl, HA2, by rw [HAS.out, ← HAM.out]; exact hs5⟩
        · obtain rfl : j = l.length := by omega
          have hAM := HAM.out
          rw [List.take_length] at hAM
          have HR := Lib.hid (right_end h16 h64 HM.out (by have := HA.out; rwa [List.take_length] at this))
          rw [← hAM] at HR
          have HRD := Lib.hid (hs.rdInts 0 rfl)
          clear hml hAM
          go_wp2_with fail
          refine (rsum_any _ AM _ HRD.out).mono ?_
          rintro en w5 ⟨rfl, rfl⟩
          go_wp2_with fail
          go_ret
          exact ⟨by rw [HR.out]; rfl, hs.below⟩
end Go.Proofs.Ytjijhpflkkicaaa
