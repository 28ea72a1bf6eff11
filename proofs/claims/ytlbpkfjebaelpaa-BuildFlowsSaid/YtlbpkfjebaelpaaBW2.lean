/-
  The reference's dues: may they be; those that are open; may a round be.
-/
import Derived.Test.YtlbpkfjebaelpaaBW1
namespace Go.BuildP
open Go Go.RowKit Go.Mem Go.MoneyP Go.NetP
theorem open_step {l : List Du} {i : Nat} (hi : i < l.length) : openL (l.take (i + 1)) = openL (l.take i) ++ if (l[i]).h then [] else [l[i]] := by
  rw [List.take_succ_eq_append_getElem hi]
  unfold openL
  rw [List.filter_append]
  congr 1
  cases hh : (l[i]).h <;> simp [List.filter_cons, hh]
theorem open_le (l : List Du) : (openL l).length ≤ l.length := List.length_filter_le _ _
def goodD (n : Nat) (d : Du) : Bool := mayD d && inD n d
theorem good_step {n : Nat} {l : List Du} {i : Nat} (hi : i < l.length) (h : (l.take i).all (goodD n) = true) (hx : goodD n (l[i]) = true) : (l.take (i + 1)).all (goodD n) = true := by
  rw [List.take_succ_eq_append_getElem hi, List.all_append, h]
  simp [hx]
theorem good_stop {rooms : List Int} {l : List Du} {i : Nat} (hi : i < l.length) (hx : goodD rooms.length (l[i]) = false) : rightR rooms l = false := by
  have : l.all (fun d => mayD d && inD rooms.length d) = false := by
    rw [List.all_eq_false]
    exact ⟨_, List.getElem_mem hi, by simpa [goodD] using hx⟩
  simp [rightR, this]
theorem amt_step {l : List Du} {i : Nat} (hi : i < l.length) : (l.take (i + 1)).map (·.x) = (l.take i).map (·.x) ++ [(l[i]).x] := by
  rw [List.take_succ_eq_append_getElem hi, List.map_append]; rfl
theorem right_end {rooms : List Int} {l : List Du} (h1 : rooms.length ≤ 16) (h2 : l.length ≤ 64) (h3 : mays rooms = true) (h4 : l.all (goodD rooms.length) = true) : rightR rooms l = (sumE (l.map (·.x)) == 0) := by
  have hm : mays (l.map (·.x)) = true := by
    rw [mays_iff]
    intro x hx
    obtain ⟨d, hd, rfl⟩ := List.mem_map.1 hx
    have := (List.all_eq_true.1 h4) d hd
    unfold goodD at this
    have hm := (mayD_iff d).1 ((Bool.and_eq_true _ _).mp this).1
    have := hm.x0
    exact ⟨by omega, hm.x1⟩
  have h5 : l.all (fun d => mayD d && inD rooms.length d) = true := h4
  unfold rightR
  rw [decide_eq_true h1, decide_eq_true h2, h3, h5]
  unfold sumE
  rw [if_pos hm]
  by_cases hs : (l.map (·.x)).sum ≤ 4503599627370496
  · simp [hs]
  · simp [hs]
end Go.BuildP
namespace Go.Proofs.Ytlbpkfjebaelpaa
open Go Go.RowKit Go.Mem Go.MoneyP Go.NetP Go.BuildP
set_option maxHeartbeats 2000000 in
theorem rmayD_any (d : Du) (w : World) : Calls Try.prog 30 #[d.val] w fun en w' => en = .returned (.bool (mayD d)) ∧ Below w.heap.size w w' := by
  obtain ⟨id, f, t, x, we, u, h⟩ := d
  dsimp only [Du.val]
  have hs := (Sep.start w).newCells #[.int .u64 id, .int .i64 f, .int .i64 t, .int .i64 x, .int .i64 we, .int .i64 u, .bool h] 45
  have q0 := cell_of (hs.cells 0 rfl) 0
  have q1 := cell_of (hs.cells 0 rfl) 1
  have q2 := cell_of (hs.cells 0 rfl) 2
  have q3 := cell_of (hs.cells 0 rfl) 3
  have q4 := cell_of (hs.cells 0 rfl) 4
  have q5 := cell_of (hs.cells 0 rfl) 5
  have q6 := cell_of (hs.cells 0 rfl) 6
  simp only [List.getElem?_toArray, List.getElem?_cons_zero, List.getElem?_cons_succ] at q0 q1 q2 q3 q4 q5 q6
  go_enter Try.func30, Try.ntmps30
  by_cases a0 : 0 ≤ f
  rotate_left
  · have ea0 : decide (0 ≤ f) = false := decide_eq_false (by omega)
    have HH := Lib.hid a0
    clear a0
    have H := Lib.hid (show mayD ⟨id, f, t, x, we, u, h⟩ = false by simp [mayD, bankB, HH.out])
    go_wp2_with fail
    go_ret
    exact ⟨by rw [H.out]; rfl, hs.below⟩
  have ea0 : decide (0 ≤ f) = true := decide_eq_true (by omega)
  have Ha0 := Lib.hid a0
  clear a0
  by_cases a1 : f < 16
  rotate_left
  · have ea1 : decide (f < 16) = false := decide_eq_false (by omega)
    have HH := Lib.hid a1
    clear a1
    have H := Lib.hid (show mayD ⟨id, f, t, x, we, u, h⟩ = false by simp [mayD, bankB, HH.out])
    go_wp2_with fail
    go_ret
    exact ⟨by rw [H.out]; rfl, hs.below⟩
  have ea1 : decide (f < 16) = true := decide_eq_true (by omega)
  have Ha1 := Lib.hid a1
  clear a1
  by_cases a2 : 0 ≤ t
  rotate_left
  · have ea2 : decide (0 ≤ t) = false := decide_eq_false (by omega)
    have HH := Lib.hid a2
    clear a2
    have H := Lib.hid (show mayD ⟨id, f, t, x, we, u, h⟩ = false by simp [mayD, bankB, HH.out])
    go_wp2_with fail
    go_ret
    exact ⟨by rw [H.out]; rfl, hs.below⟩
  have ea2 : decide (0 ≤ t) = true := decide_eq_true (by omega)
  have Ha2 := Lib.hid a2
  clear a2
  by_cases a3 : t < 16
  rotate_left
  · have ea3 : decide (t < 16) = false := decide_eq_false (by omega)
    have HH := Lib.hid a3
    clear a3
    have H := Lib.hid (show mayD ⟨id, f, t, x, we, u, h⟩ = false by simp [mayD, bankB, HH.out])
    go_wp2_with fail
    go_ret
    exact ⟨by rw [H.out]; rfl, hs.below⟩
  have ea3 : decide (t < 16) = true := decide_eq_true (by omega)
  have Ha3 := Lib.hid a3
  clear a3
  by_cases hft : f = t
  · have e1 : (f != t) = false := by simpa using hft
    have HFT := Lib.hid hft
    clear hft
    have H := Lib.hid (show mayD ⟨id, f, t, x, we, u, h⟩ = false by simp [mayD, bankB, HFT.out])
    go_wp2_with fail
    go_ret
    exact ⟨by rw [H.out]; rfl, hs.below⟩
  have e1 : (f != t) = true := by simpa using hft
  have HFT := Lib.hid hft
  clear hft
  by_cases a4 : 1 ≤ x
  rotate_left
  · have ea4 : decide (1 ≤ x) = false := decide_eq_false (by omega)
    have HH := Lib.hid a4
    clear a4
    have H := Lib.hid (show mayD ⟨id, f, t, x, we, u, h⟩ = false by simp [mayD, bankB, HH.out])
    go_wp2_with fail
    go_ret
    exact ⟨by rw [H.out]; rfl, hs.below⟩
  have ea4 : decide (1 ≤ x) = true := decide_eq_true (by omega)
  have Ha4 := Lib.hid a4
  clear a4
  go_wp2_with fail
  refine (rmay_any x _).mono ?_
  rintro en w1 ⟨rfl, rfl⟩
  cases hm : mayB x
  · have H := Lib.hid (show mayD ⟨id, f, t, x, we, u, h⟩ = false by simp [mayD, bankB, hm])
    go_wp2_with fail
    go_ret
    exact ⟨by rw [H.out]; rfl, hs.below⟩
  have HM := Lib.hid hm
  clear hm
  by_cases a5 : 1 ≤ we
  rotate_left
  · have ea5 : decide (1 ≤ we) = false := decide_eq_false (by omega)
    have HH := Lib.hid a5
    clear a5
    have H := Lib.hid (show mayD ⟨id, f, t, x, we, u, h⟩ = false by simp [mayD, bankB, HH.out])
    go_wp2_with fail
    go_ret
    exact ⟨by rw [H.out]; rfl, hs.below⟩
  have ea5 : decide (1 ≤ we) = true := decide_eq_true (by omega)
  have Ha5 := Lib.hid a5
  clear a5
  by_cases a6 : we ≤ 1000
  rotate_left
  · have ea6 : decide (we ≤ 1000) = false := decide_eq_false (by omega)
    have HH := Lib.hid a6
    clear a6
    have H := Lib.hid (show mayD ⟨id, f, t, x, we, u, h⟩ = false by simp [mayD, bankB, HH.out])
    go_wp2_with fail
    go_ret
    exact ⟨by rw [H.out]; rfl, hs.below⟩
  have ea6 : decide (we ≤ 1000) = true := decide_eq_true (by omega)
  have Ha6 := Lib.hid a6
  clear a6
  by_cases a7 : 0 ≤ u
  rotate_left
  · have ea7 : decide (0 ≤ u) = false := decide_eq_false (by omega)
    have HH := Lib.hid a7
    clear a7
    have H := Lib.hid (show mayD ⟨id, f, t, x, we, u, h⟩ = false by simp [mayD, bankB, HH.out])
    go_wp2_with fail
    go_ret
    exact ⟨by rw [H.out]; rfl, hs.below⟩
  have ea7 : decide (0 ≤ u) = true := decide_eq_true (by omega)
  have Ha7 := Lib.hid a7
  clear a7
  have H := Lib.hid (show mayD ⟨id, f, t, x, we, u, h⟩ = true by simp [mayD, bankB, Ha0.out, Ha1.out, Ha2.out, Ha3.out, HFT.out, Ha4.out, HM.out, Ha5.out, Ha6.out, Ha7.out])
  go_wp2_with fail
  go_ret
  exact ⟨by rw [H.out]; rfl, hs.below⟩
set_option maxHeartbeats 2000000 in
theorem ropen_any (l : List Du) (v : Value) (w : World) (h : RdG duR w v l) (hsm : l.length ≤ 1000) :
    Calls Try.prog 20 #[v] w fun en w' => ∃ u, en = .returned u ∧ Sep w w' [recT duR 45 u (openL l)] := by
  obtain ⟨i0, hi0, hz0, hz1, hz2⟩ := info_parts Try.infoDu
  obtain ⟨a, c, rfl⟩ := h.shape
  go_enter Try.func20, Try.ntmps20
  go_wp2_with fail
  refine wp_loopM [none, none, none, some 3, some 4, some 5, some 6, some 7, some 8, some 9, some 10, some 11, some 12, some 13, some 14, some 15, some 16, some 17, some 18, some 19, some 20, some 21, some 22, some 23, none] (fun (r : Nat) (f : Nat → Value) (wr : World) => (fun (vo v : Value) => ∃ (i : Nat), v = .int .i64 i ∧ i ≤ l.length ∧ r = l.length - i ∧ Sep w wr [recT duR 45 vo (openL (l.take i))]) (f 3) (f 4)) (l.length) (by kernel_rfl) ?atStart1 ?round1
  case' atStart1 => (try dsimp only [nthV])
  case' round1 =>
    intro gk f wr l hl hrel J1 K1 hJ1 hK1
    (try simp only [mask] at hl)
    generalize f 3 = u3 at hl hrel
    generalize f 4 = u4 at hl hrel
    subst hl
    (try dsimp only at hrel)
  case atStart1 => exact ⟨0, rfl, Nat.zero_le _, rfl, (Sep.start w).nilRecs duR _⟩
  case round1 =>
    obtain ⟨i, rfl, hi, rfl, hs⟩ := hrel
    by_cases hlt : i < l.length
    · obtain ⟨b1, o1, e1, hb1, hc1⟩ := (hs.rdG h).at i hlt
      subst e1
      have HO := Lib.hid (open_step hlt)
      have hol := open_le (l.take i)
      rw [List.length_take, Nat.min_eq_left hi] at hol
      generalize l[i] = x at hc1 HO
      obtain ⟨id, f, t, x, we, u, hh⟩ := x
      have x0 := hc1 0 (by decide)
      have x1 := hc1 1 (by decide)
      have x2 := hc1 2 (by decide)
      have x3 := hc1 3 (by decide)
      have x4 := hc1 4 (by decide)
      have x5 := hc1 5 (by decide)
      have x6 := hc1 6 (by decide)
      simp only [duR, Nat.add_zero, List.getElem?_cons_zero, List.getElem?_cons_succ] at x0 x1 x2 x3 x4 x5 x6
      clear hc1
      cases hh
      · have HO2 := Lib.hid (show openL (l.take (i + 1)) = openL (l.take i) ++ [⟨id, f, t, x, we, u, false⟩] by rw [HO.out]; rfl)
        clear HO
        generalize openL (l.take i) = ys at hs hol HO2
        go_wp2_with (at_builtin; refine wpList_appRec duR rfl (.tmp 17) (.tmp 22) 23 rfl 45 i0 _ 56 Try.underlying23 hi0 hz0 hz1 hz2 rfl _ ys ⟨id, f, t, x, we, u, false⟩ hs 0 rfl _ rfl rfl rfl ?c3 ?c4 ?grow)
        case c3 => unfold maxLen; omega
        case c4 => omega
        case grow =>
          intro v' w5 hs5 hsh
          obtain ⟨g, cap, rfl⟩ := hsh.out
          clear hs hsh x0 x1 x2 x3 x4 x5 x6
          go_wp2_with fail
          refine Round.intro (l.length - (i + 1)) ?measure2 (by kernel_rfl) (hJ1 _ _ _ ?rel2)
          case' rel2 => (try dsimp only [nthV])
          case measure2 => omega
          case rel2 => exact ⟨i + 1, by go_num, hlt, rfl, by rw [HO2.out]; exact hs5⟩
      · have HO2 := Lib.hid (show openL (l.take (i + 1)) = openL (l.take i) by rw [HO.out]; exact List.append_nil _)
        clear HO
        go_wp2_with fail
        refine Round.intro (l.length - (i + 1)) ?measure3 (by kernel_rfl) (hJ1 _ _ _ ?rel3)
        case' rel3 => (try dsimp only [nthV])
        case measure3 => omega
        case rel3 => exact ⟨i + 1, by go_num, hlt, rfl, by rw [HO2.out]; exact hs⟩
    · obtain rfl : i = l.length := by omega
      rw [List.take_length] at hs
      go_wp2_with fail
      go_ret
      exact ⟨_, rfl, hs⟩
end Go.Proofs.Ytlbpkfjebaelpaa
