/-
  Package cycles: fine, all, below, walked.
-/
import Derived.Test.YtjijhpflkkicaaaOPlain
import Derived.Test.YtjijhpflkkicaaaBA
set_option linter.unusedVariables false
set_option linter.unusedSimpArgs false
namespace Go.Proofs.Ytjijhpflkkicaaa
open Go Go.RowKit Go.Mem Go.MoneyP Go.NetP Go.BuildP Go.OffP Go.Shelf
theorem ent_fine1 : Enters Try.prog 70 := enters_of Try.func70 (by kernel_rfl) rfl
theorem fine1_any (k : Int) (w : World) : Calls Try.prog 70 #[.int .i64 k] w fun en w' => en = .returned (.bool (bankB k)) ∧ w' = w := by
  by_cases h0 : 0 ≤ k
  · have e0 : decide (0 ≤ k) = true := decide_eq_true h0
    by_cases h1 : k < 16
    · have e1 : decide (k < 16) = true := decide_eq_true h1
      have H := Lib.hid (show bankB k = true by simp [bankB, h0, h1])
      clear h0 h1
      go_enter Try.func70, Try.ntmps70
      go_wp2_with fail
      go_ret
      exact ⟨by rw [H.out]; rfl, rfl⟩
    · have e1 : decide (k < 16) = false := decide_eq_false h1
      have H := Lib.hid (show bankB k = false by simp [bankB, h1])
      clear h0 h1
      go_enter Try.func70, Try.ntmps70
      go_wp2_with fail
      go_ret
      exact ⟨by rw [H.out]; rfl, rfl⟩
  · have e0 : decide (0 ≤ k) = false := decide_eq_false h0
    have H := Lib.hid (show bankB k = false by simp [bankB, h0])
    clear h0
    go_enter Try.func70, Try.ntmps70
    go_wp2_with fail
    go_ret
    exact ⟨by rw [H.out]; rfl, rfl⟩
set_option maxHeartbeats 2000000 in
theorem fine_any (d : Du) (w : World) : Calls Try.prog 50 #[d.val] w fun en w' => en = .returned (.bool (mayD d)) ∧ Below w.heap.size w w' := by
  obtain ⟨id, f, t, x, we, u, h⟩ := d
  dsimp only [Du.val]
  have hs := (Sep.start w).newCells #[.int .u64 id, .int .i64 f, .int .i64 t, .int .i64 x, .int .i64 we, .int .i64 u, .bool h] 44
  have q0 := cell_of (hs.cells 0 rfl) 0
  have q1 := cell_of (hs.cells 0 rfl) 1
  have q2 := cell_of (hs.cells 0 rfl) 2
  have q3 := cell_of (hs.cells 0 rfl) 3
  have q4 := cell_of (hs.cells 0 rfl) 4
  have q5 := cell_of (hs.cells 0 rfl) 5
  have q6 := cell_of (hs.cells 0 rfl) 6
  simp only [List.getElem?_toArray, List.getElem?_cons_zero, List.getElem?_cons_succ] at q0 q1 q2 q3 q4 q5 q6
  have hen := fun W args => ent_fine1 W args
  go_enter Try.func50, Try.ntmps50
  by_cases hft : f = t
  · have e1 : (f != t) = false := by simpa using hft
    have HFT := Lib.hid hft
    clear hft
    have H := Lib.hid (show mayD ⟨id, f, t, x, we, u, h⟩ = false by simp [mayD, bankB, mayB, HFT.out])
    go_wp2_with fail
    go_ret
    exact ⟨by rw [H.out]; rfl, hs.below⟩
  have e1 : (f != t) = true := by simpa using hft
  have HFT := Lib.hid hft
  clear hft
  go_wp2_with fail
  refine (fine1_any f _).mono ?_
  rintro en w1 ⟨rfl, rfl⟩
  cases hf : bankB f
  · have H := Lib.hid (show mayD ⟨id, f, t, x, we, u, h⟩ = false by simp [mayD, hf])
    clear hf
    go_wp2_with fail
    go_ret
    exact ⟨by rw [H.out]; rfl, hs.below⟩
  have HBF := Lib.hid hf
  clear hf
  go_wp2_with fail
  refine (fine1_any t _).mono ?_
  rintro en w1 ⟨rfl, rfl⟩
  cases hf : bankB t
  · have H := Lib.hid (show mayD ⟨id, f, t, x, we, u, h⟩ = false by simp [mayD, hf])
    clear hf
    go_wp2_with fail
    go_ret
    exact ⟨by rw [H.out]; rfl, hs.below⟩
  have HBT := Lib.hid hf
  clear hf
  by_cases a4 : 1 ≤ x
  rotate_left
  · have ea4 : decide (1 ≤ x) = false := decide_eq_false (by omega)
    have HH := Lib.hid a4
    clear a4
    have H := Lib.hid (show mayD ⟨id, f, t, x, we, u, h⟩ = false by simp [mayD, bankB, mayB, HH.out])
    go_wp2_with fail
    go_ret
    exact ⟨by rw [H.out]; rfl, hs.below⟩
  have ea4 : decide (1 ≤ x) = true := decide_eq_true (by omega)
  have Ha4 := Lib.hid a4
  clear a4
  by_cases a8 : x ≤ 4503599627370496
  rotate_left
  · have ea8 : decide (x ≤ 4503599627370496) = false := decide_eq_false (by omega)
    have HH := Lib.hid a8
    clear a8
    have H := Lib.hid (show mayD ⟨id, f, t, x, we, u, h⟩ = false by simp [mayD, bankB, mayB, HH.out])
    go_wp2_with fail
    go_ret
    exact ⟨by rw [H.out]; rfl, hs.below⟩
  have ea8 : decide (x ≤ 4503599627370496) = true := decide_eq_true (by omega)
  have Ha8 := Lib.hid a8
  clear a8
  by_cases a5 : 1 ≤ we
  rotate_left
  · have ea5 : decide (1 ≤ we) = false := decide_eq_false (by omega)
    have HH := Lib.hid a5
    clear a5
    have H := Lib.hid (show mayD ⟨id, f, t, x, we, u, h⟩ = false by simp [mayD, bankB, mayB, HH.out])
    go_wp2_with fail
    go_ret
    exact ⟨by rw [H.out]; rfl, hs.below⟩
  have ea5 : decide (1 ≤ we) = true := decide_eq_true (by omega)
  have Ha5 := Lib.hid a5
  clear a5
  by_cases a6 : we ≤ 1000
  rotate_left
  · have ea6 : decide (we ≤ 1000) = false := decide_eq_false (by omega)
    have HH := Lib.hid a6
    clear a6
    have H := Lib.hid (show mayD ⟨id, f, t, x, we, u, h⟩ = false by simp [mayD, bankB, mayB, HH.out])
    go_wp2_with fail
    go_ret
    exact ⟨by rw [H.out]; rfl, hs.below⟩
  have ea6 : decide (we ≤ 1000) = true := decide_eq_true (by omega)
  have Ha6 := Lib.hid a6
  clear a6
  by_cases a7 : 0 ≤ u
  rotate_left
  · have ea7 : decide (0 ≤ u) = false := decide_eq_false (by omega)
    have HH := Lib.hid a7
    clear a7
    have H := Lib.hid (show mayD ⟨id, f, t, x, we, u, h⟩ = false by simp [mayD, bankB, mayB, HH.out])
    go_wp2_with fail
    go_ret
    exact ⟨by rw [H.out]; rfl, hs.below⟩
  have ea7 : decide (0 ≤ u) = true := decide_eq_true (by omega)
  have Ha7 := Lib.hid a7
  clear a7
  have H := Lib.hid (show mayD ⟨id, f, t, x, we, u, h⟩ = true by
    have := Ha4.out
    simp [mayD, mayB, HBF.out, HBT.out, HFT.out, Ha4.out, Ha8.out, Ha5.out, Ha6.out, Ha7.out]
    omega)
  go_wp2_with fail
  go_ret
  exact ⟨by rw [H.out]; rfl, hs.below⟩
theorem ent_all1 : Enters Try.prog 49 := enters_of Try.func49 (by kernel_rfl) rfl
set_option maxHeartbeats 1000000 in
theorem all1_any (d : Du) (w : World) : Calls Try.prog 49 #[d.val] w fun en w' => en = .returned (.bool (!mayD d)) ∧ Below w.heap.size w w' := by
  have HF := Lib.hid (fun w => fine_any d w)
  obtain ⟨id, f, t, x, we, u, h⟩ := d
  dsimp only [Du.val] at HF ⊢
  have hs := (Sep.start w).newCells #[.int .u64 id, .int .i64 f, .int .i64 t, .int .i64 x, .int .i64 we, .int .i64 u, .bool h] 44
  have q0 := cell_of (hs.cells 0 rfl) 0
  have q1 := cell_of (hs.cells 0 rfl) 1
  have q2 := cell_of (hs.cells 0 rfl) 2
  have q3 := cell_of (hs.cells 0 rfl) 3
  have q4 := cell_of (hs.cells 0 rfl) 4
  have q5 := cell_of (hs.cells 0 rfl) 5
  have q6 := cell_of (hs.cells 0 rfl) 6
  simp only [List.getElem?_toArray, List.getElem?_cons_zero, List.getElem?_cons_succ] at q0 q1 q2 q3 q4 q5 q6
  go_enter Try.func49, Try.ntmps49
  go_wp2_with fail
  refine (HF.out _).mono ?_
  rintro en w1 ⟨rfl, hb⟩
  replace hs := hs.belowStep hb
  clear HF hb q0 q1 q2 q3 q4 q5 q6
  obtain ⟨B, hB⟩ : ∃ B, B = mayD ⟨id, f, t, x, we, u, h⟩ := ⟨_, rfl⟩
  rw [← hB]
  have HB := Lib.hid hB
  clear hB
  go_wp2_with fail
  go_ret
  exact ⟨by rw [← HB.out]; rfl, hs.below⟩
theorem ent_below1 : Enters Try.prog 51 := enters_of Try.func51 (by kernel_rfl) rfl
set_option maxHeartbeats 1000000 in
theorem below1_any (d : Du) (n : Int) (B : Nat) (w : World) (hB : w.cell? ⟨B, 0, none⟩ = some (.int .i64 n)) (hlt : B < w.heap.size) : Calls Try.prog 51 #[d.val, .pointer (some ⟨B, 0, none⟩)] w fun en w' => en = .returned (.bool (!belowX n d)) ∧ Below w.heap.size w w' := by
  obtain ⟨id, f, t, x, we, u, h⟩ := d
  dsimp only [Du.val]
  have hs := (Sep.start w).newCells #[.int .u64 id, .int .i64 f, .int .i64 t, .int .i64 x, .int .i64 we, .int .i64 u, .bool h] 44
  have q0 := cell_of (hs.cells 0 rfl) 0
  have q1 := cell_of (hs.cells 0 rfl) 1
  have q2 := cell_of (hs.cells 0 rfl) 2
  have q3 := cell_of (hs.cells 0 rfl) 3
  have q4 := cell_of (hs.cells 0 rfl) 4
  have q5 := cell_of (hs.cells 0 rfl) 5
  have q6 := cell_of (hs.cells 0 rfl) 6
  simp only [List.getElem?_toArray, List.getElem?_cons_zero, List.getElem?_cons_succ] at q0 q1 q2 q3 q4 q5 q6
  by_cases h0 : n ≤ f
  · have H := Lib.hid (show belowX n ⟨id, f, t, x, we, u, h⟩ = false by simp [belowX]; omega)
    have e0 : decide (n ≤ f) = true := decide_eq_true h0
    clear h0
    go_enter Try.func51, Try.ntmps51
    go_wp2_with fail
    go_ret
    exact ⟨by rw [H.out]; rfl, hs.below⟩
  · have e0 : decide (n ≤ f) = false := decide_eq_false h0
    by_cases h1 : n ≤ t
    · have e1 : decide (n ≤ t) = true := decide_eq_true h1
      have H := Lib.hid (show belowX n ⟨id, f, t, x, we, u, h⟩ = false by simp [belowX]; omega)
      clear h0 h1
      go_enter Try.func51, Try.ntmps51
      go_wp2_with fail
      go_ret
      exact ⟨by rw [H.out]; rfl, hs.below⟩
    · have e1 : decide (n ≤ t) = false := decide_eq_false h1
      have H := Lib.hid (show belowX n ⟨id, f, t, x, we, u, h⟩ = true by simp [belowX]; omega)
      clear h0 h1
      go_enter Try.func51, Try.ntmps51
      go_wp2_with fail
      go_ret
      exact ⟨by rw [H.out]; rfl, hs.below⟩
/-- Where there is one that is so. -/
def IdxQ (p : Du → Bool) (l : List Du) (k : Int) : Prop := (k = -1 ∧ l.any p = false) ∨ (0 ≤ k ∧ l.any p = true)
set_option maxHeartbeats 2000000 in
theorem indexA_any (l : List Du) (v : Value) (w : World) (h : RdG duR w v l) :
    Calls Try.prog 69 #[v, .func (.func 49) #[] #[]] w fun en w' => ∃ k : Int, en = .returned (.int .i64 k) ∧ IdxQ (fun d => !mayD d) l k ∧ Below w.heap.size w w' := by
  obtain ⟨a, c, rfl⟩ := h.shape
  have hle := h.le'
  have hen := fun W args => ent_all1 W args
  go_enter Try.func69, Try.ntmps69
  go_wp2_with fail
  refine wp_loopM [none, none, none, none, some 4, some 5, none, none, some 8, some 9, some 10, some 11, some 12, some 13, some 14, some 15, some 16, some 17, some 18] (fun (r : Nat) (f : Nat → Value) (wr : World) => (fun (v : Value) => ∃ i : Nat, v = .int .i64 i ∧ i ≤ l.length ∧ r = l.length - i ∧ Hid (∀ d ∈ l.take i, (!mayD d) = false) ∧ Sep w wr []) (f 8)) (l.length) (by kernel_rfl) ?atStart1 ?round1
  case' atStart1 => (try dsimp only [nthV])
  case' round1 =>
    intro gk f wr l hl hrel J1 K1 hJ1 hK1
    (try simp only [mask] at hl)
    generalize f 8 = u8 at hl hrel
    subst hl
    (try dsimp only at hrel)
  case atStart1 => exact ⟨0, rfl, Nat.zero_le _, rfl, Lib.hid (by simp), Sep.start w⟩
  case round1 =>
    obtain ⟨i, rfl, hi, rfl, HA, hs⟩ := hrel
    by_cases hlt : i < l.length
    · obtain ⟨b1, o1, e1, hb1, hc1⟩ := (hs.rdG h).at i hlt
      subst e1
      obtain ⟨x, hx⟩ : ∃ x, x = l[i] := ⟨_, rfl⟩
      rw [← hx] at hc1
      have HX := Lib.hid hx
      clear hx
      have HE := Lib.hid (all1_any x wr)
      cases hp : (!mayD x)
      · rw [show (!mayD x) = false from hp] at HE
        have HA2 := Lib.hid (show ∀ d ∈ l.take (i + 1), (!mayD d) = false by
          rw [List.take_succ_eq_append_getElem hlt]
          intro d hd
          rcases List.mem_append.1 hd with q | q
          · exact HA.out d q
          · rw [List.mem_singleton.1 q, ← HX.out]; exact hp)
        clear hp HX
        obtain ⟨id, f, t, xx, we, u, hh⟩ := x
        have x0 := hc1 0 (by decide)
        have x1 := hc1 1 (by decide)
        have x2 := hc1 2 (by decide)
        have x3 := hc1 3 (by decide)
        have x4 := hc1 4 (by decide)
        have x5 := hc1 5 (by decide)
        have x6 := hc1 6 (by decide)
        simp only [duR, Nat.add_zero, List.getElem?_cons_zero, List.getElem?_cons_succ] at x0 x1 x2 x3 x4 x5 x6
        clear hc1
        dsimp only [Du.val] at HE
        go_wp2_with fail
        refine (HE.out).mono ?_
        rintro en w2 ⟨rfl, hb⟩
        clear HE x0 x1 x2 x3 x4 x5 x6
        go_wp2_with fail
        refine Round.intro (l.length - (i + 1)) ?measure2 (by kernel_rfl) (hJ1 _ _ _ ?rel2)
        case' rel2 => (try dsimp only [nthV])
        case measure2 => omega
        case rel2 => exact ⟨i + 1, by go_num, hlt, rfl, HA2, hs.belowStep hb⟩
      · rw [show (!mayD x) = true from hp] at HE
        have HT := Lib.hid (show l.any (fun d => (!mayD d)) = true from List.any_eq_true.2 ⟨x, by rw [HX.out]; exact List.getElem_mem hlt, hp⟩)
        clear hp HX
        obtain ⟨id, f, t, xx, we, u, hh⟩ := x
        have x0 := hc1 0 (by decide)
        have x1 := hc1 1 (by decide)
        have x2 := hc1 2 (by decide)
        have x3 := hc1 3 (by decide)
        have x4 := hc1 4 (by decide)
        have x5 := hc1 5 (by decide)
        have x6 := hc1 6 (by decide)
        simp only [duR, Nat.add_zero, List.getElem?_cons_zero, List.getElem?_cons_succ] at x0 x1 x2 x3 x4 x5 x6
        clear hc1
        dsimp only [Du.val] at HE
        go_wp2_with fail
        refine (HE.out).mono ?_
        rintro en w2 ⟨rfl, hb⟩
        clear HE x0 x1 x2 x3 x4 x5 x6
        go_wp2_with fail
        go_ret
        exact ⟨i, rfl, .inr ⟨by omega, HT.out⟩, (hs.belowStep hb).below⟩
    · obtain rfl : i = l.length := by omega
      have HT := Lib.hid (show l.any (fun d => (!mayD d)) = false from List.any_eq_false.2 fun x hx => by have := HA.out x (by rw [List.take_length]; exact hx); simpa using this)
      go_wp2_with fail
      go_ret
      exact ⟨-1, rfl, .inl ⟨rfl, HT.out⟩, hs.below⟩
set_option maxHeartbeats 2000000 in
theorem indexB_any (l : List Du) (v : Value) (n : Int) (B : Nat) (w : World) (h : RdG duR w v l) (hB : w.cell? ⟨B, 0, none⟩ = some (.int .i64 n)) (hbl : B < w.heap.size) :
    Calls Try.prog 69 #[v, .func (.func 51) #[] #[.pointer (some ⟨B, 0, none⟩)]] w fun en w' => ∃ k : Int, en = .returned (.int .i64 k) ∧ IdxQ (fun d => !belowX n d) l k ∧ Below w.heap.size w w' := by
  have hBB := fun w' (hb : Below w.heap.size w w') => (hb.cell (p := ⟨B, 0, none⟩) hbl).trans hB
  obtain ⟨a, c, rfl⟩ := h.shape
  have hle := h.le'
  have hen := fun W args => ent_below1 W args
  go_enter Try.func69, Try.ntmps69
  go_wp2_with fail
  refine wp_loopM [none, none, none, none, some 4, some 5, none, none, some 8, some 9, some 10, some 11, some 12, some 13, some 14, some 15, some 16, some 17, some 18] (fun (r : Nat) (f : Nat → Value) (wr : World) => (fun (v : Value) => ∃ i : Nat, v = .int .i64 i ∧ i ≤ l.length ∧ r = l.length - i ∧ Hid (∀ d ∈ l.take i, (!belowX n d) = false) ∧ Sep w wr []) (f 8)) (l.length) (by kernel_rfl) ?atStart3 ?round3
  case' atStart3 => (try dsimp only [nthV])
  case' round3 =>
    intro gk f wr l hl hrel J1 K1 hJ1 hK1
    (try simp only [mask] at hl)
    generalize f 8 = u8 at hl hrel
    subst hl
    (try dsimp only at hrel)
  case atStart3 => exact ⟨0, rfl, Nat.zero_le _, rfl, Lib.hid (by simp), Sep.start w⟩
  case round3 =>
    obtain ⟨i, rfl, hi, rfl, HA, hs⟩ := hrel
    by_cases hlt : i < l.length
    · obtain ⟨b1, o1, e1, hb1, hc1⟩ := (hs.rdG h).at i hlt
      subst e1
      obtain ⟨x, hx⟩ : ∃ x, x = l[i] := ⟨_, rfl⟩
      rw [← hx] at hc1
      have HX := Lib.hid hx
      clear hx
      have HE := Lib.hid (below1_any x n B wr (hBB _ hs.below) (Nat.lt_of_lt_of_le hbl hs.below.size))
      cases hp : (!belowX n x)
      · rw [show (!belowX n x) = false from hp] at HE
        have HA2 := Lib.hid (show ∀ d ∈ l.take (i + 1), (!belowX n d) = false by
          rw [List.take_succ_eq_append_getElem hlt]
          intro d hd
          rcases List.mem_append.1 hd with q | q
          · exact HA.out d q
          · rw [List.mem_singleton.1 q, ← HX.out]; exact hp)
        clear hp HX
        obtain ⟨id, f, t, xx, we, u, hh⟩ := x
        have x0 := hc1 0 (by decide)
        have x1 := hc1 1 (by decide)
        have x2 := hc1 2 (by decide)
        have x3 := hc1 3 (by decide)
        have x4 := hc1 4 (by decide)
        have x5 := hc1 5 (by decide)
        have x6 := hc1 6 (by decide)
        simp only [duR, Nat.add_zero, List.getElem?_cons_zero, List.getElem?_cons_succ] at x0 x1 x2 x3 x4 x5 x6
        clear hc1
        dsimp only [Du.val] at HE
        go_wp2_with fail
        refine (HE.out).mono ?_
        rintro en w2 ⟨rfl, hb⟩
        clear HE x0 x1 x2 x3 x4 x5 x6
        go_wp2_with fail
        refine Round.intro (l.length - (i + 1)) ?measure4 (by kernel_rfl) (hJ1 _ _ _ ?rel4)
        case' rel4 => (try dsimp only [nthV])
        case measure4 => omega
        case rel4 => exact ⟨i + 1, by go_num, hlt, rfl, HA2, hs.belowStep hb⟩
      · rw [show (!belowX n x) = true from hp] at HE
        have HT := Lib.hid (show l.any (fun d => (!belowX n d)) = true from List.any_eq_true.2 ⟨x, by rw [HX.out]; exact List.getElem_mem hlt, hp⟩)
        clear hp HX
        obtain ⟨id, f, t, xx, we, u, hh⟩ := x
        have x0 := hc1 0 (by decide)
        have x1 := hc1 1 (by decide)
        have x2 := hc1 2 (by decide)
        have x3 := hc1 3 (by decide)
        have x4 := hc1 4 (by decide)
        have x5 := hc1 5 (by decide)
        have x6 := hc1 6 (by decide)
        simp only [duR, Nat.add_zero, List.getElem?_cons_zero, List.getElem?_cons_succ] at x0 x1 x2 x3 x4 x5 x6
        clear hc1
        dsimp only [Du.val] at HE
        go_wp2_with fail
        refine (HE.out).mono ?_
        rintro en w2 ⟨rfl, hb⟩
        clear HE x0 x1 x2 x3 x4 x5 x6
        go_wp2_with fail
        go_ret
        exact ⟨i, rfl, .inr ⟨by omega, HT.out⟩, (hs.belowStep hb).below⟩
    · obtain rfl : i = l.length := by omega
      have HT := Lib.hid (show l.any (fun d => (!belowX n d)) = false from List.any_eq_false.2 fun x hx => by have := HA.out x (by rw [List.take_length]; exact hx); simpa using this)
      go_wp2_with fail
      go_ret
      exact ⟨-1, rfl, .inl ⟨rfl, HT.out⟩, hs.below⟩
theorem containsA_any (l : List Du) (v : Value) (w : World) (h : RdG duR w v l) :
    Calls Try.prog 48 #[v, .func (.func 49) #[] #[]] w fun en w' => en = .returned (.bool (l.any fun d => !mayD d)) ∧ Below w.heap.size w w' := by
  go_enter Try.func48, Try.ntmps48
  go_wp2_with fail
  refine (indexA_any l v _ h).mono ?_
  rintro en w1 ⟨k, rfl, HK, hb⟩
  rcases HK with ⟨rfl, hk⟩ | ⟨hk0, hk⟩
  · have HE := Lib.hid hk
    clear hk
    go_wp2_with fail
    go_ret
    exact ⟨by rw [HE.out]; rfl, hb⟩
  · have HE := Lib.hid hk
    have e1 : decide (0 ≤ k) = true := decide_eq_true hk0
    clear hk
    go_wp2_with fail
    go_ret
    exact ⟨by rw [HE.out]; rfl, hb⟩
theorem containsB_any (l : List Du) (v : Value) (n : Int) (B : Nat) (w : World) (h : RdG duR w v l) (hB : w.cell? ⟨B, 0, none⟩ = some (.int .i64 n)) (hlt : B < w.heap.size) :
    Calls Try.prog 48 #[v, .func (.func 51) #[] #[.pointer (some ⟨B, 0, none⟩)]] w fun en w' => en = .returned (.bool (l.any fun d => !belowX n d)) ∧ Below w.heap.size w w' := by
  go_enter Try.func48, Try.ntmps48
  go_wp2_with fail
  refine (indexB_any l v n B _ h hB hlt).mono ?_
  rintro en w1 ⟨k, rfl, HK, hb⟩
  rcases HK with ⟨rfl, hk⟩ | ⟨hk0, hk⟩
  · have HE := Lib.hid hk
    clear hk
    go_wp2_with fail
    go_ret
    exact ⟨by rw [HE.out]; rfl, hb⟩
  · have HE := Lib.hid hk
    have e1 : decide (0 ≤ k) = true := decide_eq_true hk0
    clear hk
    go_wp2_with fail
    go_ret
    exact ⟨by rw [HE.out]; rfl, hb⟩
theorem any_not {p : Du → Bool} (l : List Du) : (l.any fun d => !p d) = !l.all p := by
  induction l with
  | nil => rfl
  | cons d t ih => simp [ih]
set_option maxHeartbeats 1000000 in
theorem all_any (l : List Du) (v : Value) (w : World) (h : RdG duR w v l) :
    Calls Try.prog 33 #[v] w fun en w' => en = .returned (.bool (allB l)) ∧ Below w.heap.size w w' := by
  have HC := Lib.hid (containsA_any l v w h)
  obtain ⟨a, c, rfl⟩ := h.shape
  have hle := h.le'
  by_cases h0 : l.length ≤ 64
  · have e0 : decide ((l.length : Int) ≤ 64) = true := decide_eq_true (by omega)
    have HE := Lib.hid (show allB l = !(l.any fun d => !mayD d) by rw [any_not]; simp [allB, h0])
    generalize (l.any fun d => !mayD d) = B at HC HE
    clear h0
    go_enter Try.func33, Try.ntmps33
    go_wp2_with fail
    refine HC.out.mono ?_
    rintro en w1 ⟨rfl, hb⟩
    go_wp2_with fail
    go_ret
    exact ⟨by rw [HE.out]; rfl, hb⟩
  · have e0 : decide ((l.length : Int) ≤ 64) = false := decide_eq_false (by omega)
    have HE := Lib.hid (show allB l = false by simp [allB, h0])
    clear h0
    go_enter Try.func33, Try.ntmps33
    go_wp2_with fail
    go_ret
    exact ⟨by rw [HE.out]; rfl, Below.refl _ _⟩
set_option maxHeartbeats 1000000 in
theorem below_any (n : Int) (l : List Du) (v : Value) (w : World) (h : RdG duR w v l) :
    Calls Try.prog 34 #[.int .i64 n, v] w fun en w' => en = .returned (.bool (belowB n l)) ∧ Below w.heap.size w w' := by
  have hs := (Sep.start w).newCells #[.int .i64 n] 3
  have q0 := cell_of (hs.cells 0 rfl) 0
  simp only [List.getElem?_toArray, List.getElem?_cons_zero] at q0
  have HC := Lib.hid (containsB_any l v n w.heap.size _ (hs.rdG h) q0 (lt_of (hs.cells 0 rfl)))
  have HE := Lib.hid (show belowB n l = !(l.any fun d => !belowX n d) by rw [any_not]; simp [belowB])
  obtain ⟨a, c, rfl⟩ := h.shape
  generalize (l.any fun d => !belowX n d) = B at HC HE
  have hle := h.le'
  go_enter Try.func34, Try.ntmps34
  go_wp2_with fail
  refine HC.out.mono ?_
  rintro en w1 ⟨rfl, hb⟩
  go_wp2_with fail
  go_ret
  exact ⟨by rw [HE.out]; rfl, (hs.belowStep hb).below⟩
end Go.Proofs.Ytjijhpflkkicaaa
