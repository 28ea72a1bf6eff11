/-
  Package build, walked: right.
-/
import Derived.Test.YtlbpkfjebaelpaaBW5
import Derived.Test.YtlbpkfjebaelpaaBW3
namespace Go.BuildP
open Go Go.RowKit Go.Mem Go.MoneyP Go.NetP
/-- Dues, numbered from 1 on. -/
def numL (l : List Du) : List Du := (List.range l.length).map fun i => { l.getD i default with id := (i : Int) + 1 }
theorem num_len (l : List Du) : (numL l).length = l.length := by simp [numL]
theorem num_at {l : List Du} {i : Nat} (hi : i < l.length) : (numL l)[i]? = some { l[i] with id := (i : Int) + 1 } := by
  simp [numL, hi]
theorem num_take {l : List Du} {i : Nat} (hi : i < l.length) : (numL l).take (i + 1) = (numL l).take i ++ [{ l[i] with id := (i : Int) + 1 }] := by
  have hn : i < (numL l).length := by rw [num_len]; exact hi
  rw [List.take_succ_eq_append_getElem hn]
  have := num_at hi
  rw [List.getElem?_eq_getElem hn] at this
  rw [Option.some.inj this]
theorem num_x (l : List Du) : (numL l).map (·.x) = l.map (·.x) := by
  apply List.ext_getElem?
  intro i
  by_cases hi : i < l.length
  · rw [List.getElem?_map, num_at hi, List.getElem?_map, List.getElem?_eq_getElem hi]; rfl
  · rw [List.getElem?_eq_none (by simp [num_len]; omega), List.getElem?_eq_none (by simp; omega)]
theorem num_ok {l : List Du} {i : Nat} (hi : i < l.length) : okId (numL l) ((l.length : Int) + 1) i = mayD l[i] := by
  have h1 : (numL l).getD i default = { l[i] with id := (i : Int) + 1 } := by rw [List.getD_eq_getElem?_getD, num_at hi]; rfl
  have h2 : aheadL (numL l) i = i := by
    unfold aheadL
    by_cases h0 : i = 0
    · simp [h0]
    · rw [if_neg h0, List.getD_eq_getElem?_getD, num_at (show i - 1 < l.length by omega)]
      show ((i - 1 : Nat) : Int) + 1 = i
      omega
  unfold okId
  rw [h1, h2]
  have h3 : decide ((i : Int) < (i : Int) + 1) = true := decide_eq_true (by omega)
  have h4 : decide ((i : Int) + 1 < (l.length : Int) + 1) = true := decide_eq_true (by omega)
  show (mayD _ && decide ((i : Int) < (i : Int) + 1) && decide ((i : Int) + 1 < (l.length : Int) + 1)) = _
  rw [h3, h4, Bool.and_true, Bool.and_true]
  rfl
theorem right_prog {rooms : List Int} {l : List Du} (h1 : rooms.length ≤ 16) (h2 : mays rooms = true) (h3 : ∀ d ∈ l, inD rooms.length d = true) (hl : l.length ≤ 1000000) : rightR rooms l = (dofE (numL l) ((l.length : Int) + 1) == 0) := by
  by_cases h64 : 64 < l.length
  · rw [dof_many (by rw [num_len]; exact h64)]
    have : decide (l.length ≤ 64) = false := decide_eq_false (by omega)
    simp [rightR, this]
  · have h64' : ¬ 64 < (numL l).length := by rw [num_len]; exact h64
    by_cases hm : l.all mayD = true
    · have hm' := List.all_eq_true.1 hm
      rw [dof_ok h64' (by omega) (fun i hi => by rw [num_len] at hi; rw [num_ok hi]; exact hm' _ (List.getElem_mem hi)), num_x]
      exact right_end h1 (by omega) h2 (List.all_eq_true.2 fun d hd => by simp [goodD, hm' d hd, h3 d hd])
    · have hm' : l.all mayD = false := by simpa using hm
      rw [List.all_eq_false] at hm'
      obtain ⟨d, hd, hb⟩ := hm'
      obtain ⟨i, hi, rfl⟩ := List.getElem_of_mem hd
      rw [dof_bad h64' (by rw [num_len]; exact hi) (by rw [num_ok hi]; simpa using hb)]
      rw [good_stop hi (by simp [goodD]; intro q; exact absurd q hb)]
      rfl
end Go.BuildP
namespace Go.Proofs.Ytlbpkfjebaelpaa
open Go Go.RowKit Go.Mem Go.MoneyP Go.NetP Go.BuildP
set_option maxHeartbeats 4000000 in
set_option maxRecDepth 100000 in
theorem right_b (rooms : List Int) (l : List Du) (vr vl : Value) (w : World) (hr : Rd .i64 w vr rooms) (h : RdG duR w vl l) (hl : l.length ≤ 1000000) :
    Calls Try.prog 23 #[vr, vl] w fun en w' => en = .returned (.bool (rightR rooms l)) ∧ Below w.heap.size w w' := by
  obtain ⟨i0, hi0, hz0, hz1, hz2⟩ := info_parts Try.infoDu
  obtain ⟨ar, cr, rfl⟩ := hr.shape
  obtain ⟨a, c, rfl⟩ := h.shape
  have hle := hr.le'
  have hle2 := h.le'
  by_cases h16 : rooms.length ≤ 16
  rotate_left
  · have d16 : decide ((16 : Int) < (rooms.length : Int)) = true := decide_eq_true (by omega)
    have HE := Lib.hid (show rightR rooms l = false by simp [rightR, h16])
    clear h16
    go_enter Try.func23, Try.ntmps23
    go_wp2_with fail
    go_ret
    exact ⟨by rw [HE.out]; rfl, Below.refl _ _⟩
  have d16 : decide ((16 : Int) < (rooms.length : Int)) = false := decide_eq_false (by omega)
  go_enter Try.func23, Try.ntmps23
  go_wp2_with fail
  refine (sum_any _ rooms _ hr).mono ?_
  rintro en w1 ⟨rfl, rfl⟩
  cases hm : mays rooms
  · have HE := Lib.hid (show rightR rooms l = false by simp [rightR, hm])
    rw [(sum_bad hm).2]
    clear hm
    go_wp2_with fail
    go_ret
    exact ⟨by rw [HE.out]; rfl, Below.refl _ _⟩
  have HM := Lib.hid hm
  have hne : (sumE rooms == 1) = false := by unfold sumE; rw [if_pos hm]; split <;> rfl
  clear hm
  generalize sumE rooms = E at hne
  generalize sumV rooms = V
  go_wp2_with fail
  refine wp_loopM [none, none, none, none, some 4, none, none, some 7, some 8, some 9, none, none, none, none, none, none, none, none, none, none, none, none, none, none, some 24, some 25, some 26, some 27, some 28, some 29, some 30, some 31, some 32, some 33, some 34, some 35, some 36, some 37, some 38, some 39, some 40, some 41, some 42, some 43, some 44, some 45, none, none, none, none, none, none, none, none, none, none, none] (fun (r : Nat) (f : Nat → Value) (wr : World) => (fun (vo v : Value) => ∃ (i : Nat) (ys : List Du), v = .int .i64 i ∧ i ≤ l.length ∧ r = l.length - i ∧ Hid (∀ d ∈ l.take i, inD rooms.length d = true) ∧ Hid (ys = (numL l).take i ∧ ys.length = i) ∧ Sep w wr [recT duR 45 vo ys]) (f 7) (f 24)) (l.length) (by kernel_rfl) ?atStart1 ?round1
  case' atStart1 => (try dsimp only [nthV])
  case' round1 =>
    intro gk f wr l hl hrel J1 K1 hJ1 hK1
    (try simp only [mask] at hl)
    generalize f 7 = u7 at hl hrel
    generalize f 24 = u24 at hl hrel
    subst hl
    (try dsimp only at hrel)
  case atStart1 => exact ⟨0, [], rfl, Nat.zero_le _, rfl, Lib.hid (by simp), Lib.hid ⟨rfl, rfl⟩, (Sep.start _).nilRecs duR _⟩
  case round1 =>
    obtain ⟨i, ys, rfl, hi, rfl, HA, HY, hs⟩ := hrel
    have hyl := HY.out.2
    obtain ⟨al, cl, rfl⟩ := (hs.rdRecs 0 rfl).shape
    by_cases hlt : i < l.length
    · obtain ⟨b1, o1, e1, hb1, hc1⟩ := (hs.rdG h).at i hlt
      subst e1
      obtain ⟨x, hx⟩ : ∃ x, x = l[i] := ⟨_, rfl⟩
      rw [← hx] at hc1
      have HX := Lib.hid hx
      have HTK := Lib.hid (show ys ++ [({ x with id := (i : Int) + 1 } : Du)] = (numL l).take (i + 1) ∧ (ys ++ [({ x with id := (i : Int) + 1 } : Du)]).length = i + 1 by
        rw [num_take hlt, ← HY.out.1, hx]; exact ⟨rfl, by simp [hyl]⟩)
      clear hx
      obtain ⟨id, f, t, xx, we, u, hh⟩ := x
      have x0 := hc1 0 (by decide)
      have x1 := hc1 1 (by decide)
      have x2 := hc1 2 (by decide)
      have x3 := hc1 3 (by decide)
      have x4 := hc1 4 (by decide)
      have x5 := hc1 5 (by decide)
      have x6 := hc1 6 (by decide)
      simp only [duR, Nat.add_zero, List.getElem?_cons_zero, List.getElem?_cons_succ] at x0 x1 x2 x3 x4 x5 x6
      clear hc1
      dsimp only at HTK
      by_cases hft : f < t
      · have e1 : (if f < t then t else f) = t := if_pos hft
        by_cases ht : t < (rooms.length : Int)
        rotate_left
        · have HE := Lib.hid (good_stop (rooms := rooms) hlt (by rw [← HX.out]; simp [goodD, inD, ht]))
          have e2 : decide ((rooms.length : Int) ≤ t) = true := decide_eq_true (by omega)
          clear hft ht
          go_wp2_with fail
          go_ret
          exact ⟨by rw [HE.out]; rfl, (hs.alloc _).below⟩
        have e2 : decide ((rooms.length : Int) ≤ t) = false := decide_eq_false (by omega)
        have HIN := Lib.hid (show ∀ d ∈ l.take (i + 1), inD rooms.length d = true from fun d hd => by
          rw [List.take_succ_eq_append_getElem hlt] at hd
          rcases List.mem_append.1 hd with q | q
          · exact HA.out d q
          · rw [List.mem_singleton.1 q, ← HX.out]; simp [inD]; omega)
        have hs4 := hs.alloc (.cells #[.int .u64 (i + 1), .int .i64 f, .int .i64 t, .int .i64 xx, .int .i64 we, .int .i64 u, .bool hh] 45)
        go_wp2_with (at_builtin; refine wpList_appRec duR rfl (.tmp 41) (.tmp 43) 23 rfl 45 i0 _ 56 Try.underlying23 hi0 hz0 hz1 hz2 rfl _ ys ⟨i + 1, f, t, xx, we, u, hh⟩ hs4 0 rfl _ rfl rfl (by rw [World.size_alloc]; rfl) ?c3 ?c4 ?grow)
        case c3 => unfold maxLen; omega
        case c4 => omega
        case grow =>
          intro v' w5 hs5 hsh
          obtain ⟨g, cap, rfl⟩ := hsh.out
          (try simp only [List.set_cons_zero] at hs5)
          clear hs4 hs hsh x0 x1 x2 x3 x4 x5 x6
          go_wp2_with fail
          refine Round.intro (l.length - (i + 1)) ?measure2 (by kernel_rfl) (hJ1 _ _ _ ?rel2)
          case' rel2 => (try dsimp only [nthV])
          case measure2 => omega
          case rel2 => exact ⟨i + 1, _, by go_num, hlt, rfl, HIN, HTK, hs5⟩
      · have e1 : (if f < t then t else f) = f := if_neg hft
        by_cases hf : f < (rooms.length : Int)
        rotate_left
        · have HE := Lib.hid (good_stop (rooms := rooms) hlt (by rw [← HX.out]; simp [goodD, inD, hf]))
          have e2 : decide ((rooms.length : Int) ≤ f) = true := decide_eq_true (by omega)
          clear hft hf
          go_wp2_with fail
          go_ret
          exact ⟨by rw [HE.out]; rfl, (hs.alloc _).below⟩
        have e2 : decide ((rooms.length : Int) ≤ f) = false := decide_eq_false (by omega)
        have HIN := Lib.hid (show ∀ d ∈ l.take (i + 1), inD rooms.length d = true from fun d hd => by
          rw [List.take_succ_eq_append_getElem hlt] at hd
          rcases List.mem_append.1 hd with q | q
          · exact HA.out d q
          · rw [List.mem_singleton.1 q, ← HX.out]; simp [inD]; omega)
        have hs4 := hs.alloc (.cells #[.int .u64 (i + 1), .int .i64 f, .int .i64 t, .int .i64 xx, .int .i64 we, .int .i64 u, .bool hh] 45)
        go_wp2_with (at_builtin; refine wpList_appRec duR rfl (.tmp 41) (.tmp 43) 23 rfl 45 i0 _ 56 Try.underlying23 hi0 hz0 hz1 hz2 rfl _ ys ⟨i + 1, f, t, xx, we, u, hh⟩ hs4 0 rfl _ rfl rfl (by rw [World.size_alloc]; rfl) ?c3b ?c4b ?growb)
        case c3b => unfold maxLen; omega
        case c4b => omega
        case growb =>
          intro v' w5 hs5 hsh
          obtain ⟨g, cap, rfl⟩ := hsh.out
          (try simp only [List.set_cons_zero] at hs5)
          clear hs4 hs hsh x0 x1 x2 x3 x4 x5 x6
          go_wp2_with fail
          refine Round.intro (l.length - (i + 1)) ?measure3 (by kernel_rfl) (hJ1 _ _ _ ?rel3)
          case' rel3 => (try dsimp only [nthV])
          case measure3 => omega
          case rel3 => exact ⟨i + 1, _, by go_num, hlt, rfl, HIN, HTK, hs5⟩
    · obtain rfl : i = l.length := by omega
      have hyy : ys = numL l := by have := HY.out.1; rwa [List.take_of_length_le (by rw [num_len]; exact Nat.le_refl _)] at this
      have HR := Lib.hid (right_prog h16 HM.out (by have := HA.out; rwa [List.take_length] at this) hl)
      have DOF := Lib.hid (dof_any ys _ ((l.length : Int) + 1) (by omega) _ (hs.rdRecs 0 rfl))
      rw [hyl] at DOF
      have HYY := Lib.hid hyy
      clear hyy
      go_wp2_with fail
      refine (DOF.out).mono ?_
      rintro en w5 hd
      rw [HYY.out] at hd
      rcases hd with ⟨hd0, rfl, hb⟩ | ⟨hd0, b, bm, rfl, hs5⟩
      · have e3 : (dofE (numL l) ((l.length : Int) + 1) == 0) = false := by simpa using hd0
        rw [e3] at HR
        clear hd0
        generalize dofE (numL l) ((l.length : Int) + 1) = D at e3
        go_wp2_with fail
        go_ret
        exact ⟨by rw [HR.out]; rfl, (hs.belowStep hb).below⟩
      · rw [hd0] at HR
        go_wp2_with fail
        go_ret
        exact ⟨by rw [HR.out]; rfl, (hs.belowStep hs5.below).below⟩
end Go.Proofs.Ytlbpkfjebaelpaa
