/-
 Dues that are looked at; package cycles and its reference: fine, all, below, Nets. Plain, walked.
-/
import Derived.Test.YtjijhpflkkicaaaBPlain
import Derived.Test.YtjijhpflkkicaaaBA
set_option linter.unusedVariables false
set_option linter.unusedSimpArgs false
namespace Go.OffP
open Go Go.Mem Go.MoneyP Go.BuildP
/-- May dues be looked at? -/
def allB (l : List Du) : Bool := decide (l.length ≤ 64) && l.all mayD
def belowX (n : Int) (d : Du) : Bool := decide (d.f < n) && decide (d.t < n)
def belowB (n : Int) (l : List Du) : Bool := l.all (belowX n)
def sumX (l : List Du) : Int := (l.map (·.x)).sum
/-- What Nets tells: an error. -/
def netsE (n : Int) (l : List Du) : Int :=
 if n < 0 ∨ 16 < n ∨ allB l = false then 1 else if belowB n l = false then 10 else if 4503599627370496 < sumX l then 13 else 0
def stepN (o : List Int) (d : Du) : List Int := if d.h = true then o else (o.set d.t.toNat (o.getD d.t.toNat 0 + d.x)).set d.f.toNat ((o.set d.t.toNat (o.getD d.t.toNat 0 + d.x)).getD d.f.toNat 0 - d.x)
/-- .. and what banks are owed. -/
def netsF (n : Nat) (l : List Du) : List Int := l.foldl stepN (List.replicate n 0)
/-- Dues of n banks that may be looked at. -/
structure GoodN (n : Nat) (l : List Du) : Prop where
 n16 : n ≤ 16
 len : l.length ≤ 64
 may : ∀ d ∈ l, MayD d
 inn : ∀ d ∈ l, d.f < n ∧ d.t < n
 sum : sumX l ≤ 4503599627370496
theorem netsE_good {n : Int} {l : List Du} (h : netsE n l = 0) : ∃ N : Nat, n = N ∧ GoodN N l := by
 unfold netsE at h
 split at h
 ·cases h
 next h1 =>
 split at h
 ·cases h
 next h2 =>
 split at h
 ·cases h
 next h3 =>
 simp only [not_or, Bool.not_eq_false] at h1 h2
 obtain ⟨a, b, c⟩ := h1
 simp only [allB, Bool.and_eq_true, decide_eq_true_eq, List.all_eq_true] at c
 simp only [belowB, belowX, List.all_eq_true, Bool.and_eq_true, decide_eq_true_eq] at h2
 refine ⟨n.toNat, by omega, by omega, c.1, fun d hd => (mayD_iff d).1 (c.2 d hd), fun d hd => ?_, by omega⟩
 have := h2 d hd
 omega
theorem good_netsE {n : Nat} {l : List Du} (h : GoodN n l) : netsE n l = 0 := by
 unfold netsE
 have h16 := h.n16
 have hs := h.sum
 have h1 : allB l = true := by
  simp only [allB, Bool.and_eq_true, decide_eq_true_eq, List.all_eq_true]
  exact ⟨h.len, fun d hd => (mayD_iff d).2 (h.may d hd)⟩
 have h2 : belowB n l = true := by
  simp only [belowB, belowX, List.all_eq_true, Bool.and_eq_true, decide_eq_true_eq]
  exact h.inn
 rw [if_neg (by rw [h1]; simp; omega), if_neg (by rw [h2]; decide), if_neg (by omega)]
end Go.OffP
namespace Go.OffP
open Go Go.Mem Go.MoneyP Go.BuildP
theorem sumX_take {l : List Du} {i : Nat} (h : i < l.length) : sumX (l.take (i + 1)) = sumX (l.take i) + l[i].x := by
 unfold sumX
 rw [List.take_succ_eq_append_getElem h, List.map_append, List.sum_append]
 simp
theorem sumX_nonneg : ∀ l : List Du, (∀ d ∈ l, 1 ≤ d.x) → 0 ≤ sumX l
 | [], _ => by simp [sumX]
 | d :: l, h => by
  have h1 := sumX_nonneg l fun x hx => h x (List.mem_cons_of_mem _ hx)
  have h2 := h d List.mem_cons_self
  unfold sumX at h1 ⊢
  rw [List.map_cons, List.sum_cons]; omega
theorem sumX_le {l : List Du} (h : ∀ d ∈ l, 1 ≤ d.x) (i : Nat) : 0 ≤ sumX (l.take i) ∧ sumX (l.take i) ≤ sumX l := by
 have h1 := sumX_nonneg (l.take i) fun x hx => h x (List.mem_of_mem_take hx)
 have h2 := sumX_nonneg (l.drop i) fun x hx => h x (List.mem_of_mem_drop hx)
 have e : sumX l = sumX (l.take i) + sumX (l.drop i) := by unfold sumX; rw [← List.sum_append, ← List.map_append, List.take_append_drop]
 omega
theorem netsF_take {n : Nat} {l : List Du} {i : Nat} (h : i < l.length) : netsF n (l.take (i + 1)) = stepN (netsF n (l.take i)) l[i] := by
 unfold netsF
 rw [List.take_succ_eq_append_getElem h, List.foldl_append]; rfl
theorem stepN_len (o : List Int) (d : Du) : (stepN o d).length = o.length := by
 unfold stepN; split <;> simp
theorem foldN_len : ∀ (l : List Du) (o : List Int), (l.foldl stepN o).length = o.length
 | [], _ => rfl
 | d :: l, o => by rw [List.foldl_cons, foldN_len l, stepN_len]
theorem netsF_len (n : Nat) (l : List Du) : (netsF n l).length = n := by unfold netsF; rw [foldN_len]; simp
/-- What one due does. -/
def deltaN (d : Du) (j : Nat) : Int := if d.h = true then 0 else (if d.t = j then d.x else 0) - (if d.f = j then d.x else 0)
theorem stepN_at {o : List Int} {d : Du} (hm : MayD d) (hf : d.f < o.length) (ht : d.t < o.length) (j : Nat) : (stepN o d).getD j 0 = o.getD j 0 + deltaN d j := by
 have h1 := hm.f0
 have h2 := hm.t0
 have h3 := hm.ne
 unfold stepN deltaN
 split
 ·simp
 ·rw [getD_set _ _ _ _ (by rw [List.length_set]; omega), getD_set _ _ _ _ (by omega), getD_set _ _ _ _ (by omega)]
  by_cases a : d.f.toNat = j
  ·subst a
   rw [if_pos rfl, if_neg (by omega), if_neg (by omega), if_pos (by omega)]; omega
  ·rw [if_neg a]
   by_cases b : d.t.toNat = j
   ·subst b
    rw [if_pos rfl, if_pos (by omega), if_neg (by omega)]; omega
   ·rw [if_neg b, if_neg (by omega), if_neg (by omega)]; omega
def deltaS (l : List Du) (j : Nat) : Int := (l.map fun d => deltaN d j).sum
theorem foldN_at {n : Nat} (j : Nat) : ∀ (l : List Du) (o : List Int), o.length = n → (∀ d ∈ l, MayD d ∧ d.f < n ∧ d.t < n) → (l.foldl stepN o).getD j 0 = o.getD j 0 + deltaS l j
 | [], o, _, _ => by simp [deltaS]
 | d :: l, o, ho, h => by
  obtain ⟨a, b, c⟩ := h d List.mem_cons_self
  rw [List.foldl_cons, foldN_at j l _ (by rw [stepN_len]; exact ho) (fun x hx => h x (List.mem_cons_of_mem _ hx)), stepN_at a (by omega) (by omega)]
  unfold deltaS
  rw [List.map_cons, List.sum_cons]; omega
theorem netsF_at {n : Nat} {l : List Du} (h : ∀ d ∈ l, MayD d ∧ d.f < n ∧ d.t < n) (j : Nat) : (netsF n l).getD j 0 = deltaS l j := by
 unfold netsF
 rw [foldN_at j l _ (by simp) h, List.getD_eq_getElem?_getD, List.getElem?_replicate]
 split <;> simp
theorem deltaS_bound (j : Nat) : ∀ l : List Du, (∀ d ∈ l, 1 ≤ d.x ∧ d.f ≠ d.t) → -sumX l ≤ deltaS l j ∧ deltaS l j ≤ sumX l
 | [], _ => by simp [sumX, deltaS]
 | d :: l, h => by
  have h1 := deltaS_bound j l fun x hx => h x (List.mem_cons_of_mem _ hx)
  obtain ⟨h2, h3⟩ := h d List.mem_cons_self
  unfold sumX deltaS at h1 ⊢
  rw [List.map_cons, List.sum_cons, List.map_cons, List.sum_cons]
  have : -d.x ≤ deltaN d j ∧ deltaN d j ≤ d.x := by
   unfold deltaN
   split
   ·omega
   ·split <;> split <;> omega
  omega
theorem netsE_sum {n : Int} {l : List Du} (hn : 0 ≤ n ∧ n ≤ 16) (ha : allB l = true) (hb : belowB n l = true) : netsE n l = if 4503599627370496 < sumX l then 13 else 0 := by
 unfold netsE
 rw [if_neg (by rw [ha]; simp; omega), if_neg (by rw [hb]; decide)]
theorem netsE_below {n : Int} {l : List Du} (hn : 0 ≤ n ∧ n ≤ 16) (ha : allB l = true) (hb : belowB n l = false) : netsE n l = 10 := by
 unfold netsE
 rw [if_neg (by rw [ha]; simp; omega), if_pos hb]
theorem netsE_arg {n : Int} {l : List Du} (h : n < 0 ∨ 16 < n ∨ allB l = false) : netsE n l = 1 := by
 unfold netsE; rw [if_pos h]
theorem all_parts {l : List Du} (h : allB l = true) : l.length ≤ 64 ∧ ∀ d ∈ l, MayD d := by
 simp only [allB, Bool.and_eq_true, decide_eq_true_eq, List.all_eq_true] at h
 exact ⟨h.1, fun d hd => (mayD_iff d).1 (h.2 d hd)⟩
theorem below_parts {n : Int} {l : List Du} (h : belowB n l = true) : ∀ d ∈ l, d.f < n ∧ d.t < n := by
 simp only [belowB, belowX, List.all_eq_true, Bool.and_eq_true, decide_eq_true_eq] at h
 exact h
/-- May dues be looked at, with so many banks? -/
def may29 (n : Int) (l : List Du) : Bool := decide (0 ≤ n) && decide (n ≤ 16) && allB l && belowB n l
end Go.OffP
namespace Go.Proofs.Ytjijhpflkkicaaa
open Go Go.RowKit Go.Mem Go.MoneyP Go.NetP Go.BuildP Go.OffP Go.Shelf
theorem ent_fine1 : Enters Try.prog 70 := enters_of Try.func70 (by kernel_rfl) rfl
theorem fine1_any (k : Int) (w : World) : Calls Try.prog 70 #[.int .i64 k] w fun en w' => en = .returned (.bool (bankB k)) ∧ w' = w := by
 by_cases h0 : 0 ≤ k
 ·have e0 : decide (0 ≤ k) = true := decide_eq_true h0
  by_cases h1 : k < 16
  ·have e1 : decide (k < 16) = true := decide_eq_true h1
   have H := Lib.hid (show bankB k = true by simp [bankB, h0, h1])
   clear h0 h1
   go_enter Try.func70, Try.ntmps70
   go_wp2_with fail
   go_ret
   exact ⟨by rw [H.out]; rfl, rfl⟩
  ·have e1 : decide (k < 16) = false := decide_eq_false h1
   have H := Lib.hid (show bankB k = false by simp [bankB, h1])
   clear h0 h1
   go_enter Try.func70, Try.ntmps70
   go_wp2_with fail
   go_ret
   exact ⟨by rw [H.out]; rfl, rfl⟩
 ·have e0 : decide (0 ≤ k) = false := decide_eq_false h0
  have H := Lib.hid (show bankB k = false by simp [bankB, h0])
  clear h0
  go_enter Try.func70, Try.ntmps70
  go_wp2_with fail
  go_ret
  exact ⟨by rw [H.out]; rfl, rfl⟩
set_option maxHeartbeats 2000000 in
theorem fine_any (d : Du) (w : World) : Calls Try.prog 50 #[d.val] w fun en w' => en = .returned (.bool (mayD d)) ∧ Below w.heap.size w w' := by
 obtain ⟨id, f, t, x, we, u, h⟩ := d
 dsimp only [Du.val]
 have hs := (Sep.start w).newCells #[.int .u64 id, .int .i64 f, .int .i64 t, .int .i64 x, .int .i64 we, .int .i64 u, .bool h] 44
 have q0 := cell_of (hs.cells 0 rfl) 0
 have q1 := cell_of (hs.cells 0 rfl) 1
 have q2 := cell_of (hs.cells 0 rfl) 2
 have q3 := cell_of (hs.cells 0 rfl) 3
 have q4 := cell_of (hs.cells 0 rfl) 4
 have q5 := cell_of (hs.cells 0 rfl) 5
 have q6 := cell_of (hs.cells 0 rfl) 6
 simp only [List.getElem?_toArray, List.getElem?_cons_zero, List.getElem?_cons_succ] at q0 q1 q2 q3 q4 q5 q6
 have hen := fun W args => ent_fine1 W args
 go_enter Try.func50, Try.ntmps50
 by_cases hft : f = t
 ·have e1 : (f != t) = false := by simpa using hft
  have HFT := Lib.hid hft
  clear hft
  have H := Lib.hid (show mayD ⟨id, f, t, x, we, u, h⟩ = false by simp [mayD, bankB, mayB, HFT.out])
  go_wp2_with fail
  go_ret
  exact ⟨by rw [H.out]; rfl, hs.below⟩
 have e1 : (f != t) = true := by simpa using hft
 have HFT := Lib.hid hft
 clear hft
 go_wp2_with fail
 refine (fine1_any f _).mono ?_
 rintro en w1 ⟨rfl, rfl⟩
 cases hf : bankB f
 ·have H := Lib.hid (show mayD ⟨id, f, t, x, we, u, h⟩ = false by simp [mayD, hf])
  clear hf
  go_wp2_with fail
  go_ret
  exact ⟨by rw [H.out]; rfl, hs.below⟩
 have HBF := Lib.hid hf
 clear hf
 go_wp2_with fail
 refine (fine1_any t _).mono ?_
 rintro en w1 ⟨rfl, rfl⟩
 cases hf : bankB t
 ·have H := Lib.hid (show mayD ⟨id, f, t, x, we, u, h⟩ = false by simp [mayD, hf])
  clear hf
  go_wp2_with fail
  go_ret
  exact ⟨by rw [H.out]; rfl, hs.below⟩
 have HBT := Lib.hid hf
 clear hf
 by_cases a4 : 1 ≤ x
 rotate_left
 ·have ea4 : decide (1 ≤ x) = false := decide_eq_false (by omega)
  have HH := Lib.hid a4
  clear a4
  have H := Lib.hid (show mayD ⟨id, f, t, x, we, u, h⟩ = false by simp [mayD, bankB, mayB, HH.out])
  go_wp2_with fail
  go_ret
  exact ⟨by rw [H.out]; rfl, hs.below⟩
 have ea4 : decide (1 ≤ x) = true := decide_eq_true (by omega)
 have Ha4 := Lib.hid a4
 clear a4
 by_cases a8 : x ≤ 4503599627370496
 rotate_left
 ·have ea8 : decide (x ≤ 4503599627370496) = false := decide_eq_false (by omega)
  have HH := Lib.hid a8
  clear a8
  have H := Lib.hid (show mayD ⟨id, f, t, x, we, u, h⟩ = false by simp [mayD, bankB, mayB, HH.out])
  go_wp2_with fail
  go_ret
  exact ⟨by rw [H.out]; rfl, hs.below⟩
 have ea8 : decide (x ≤ 4503599627370496) = true := decide_eq_true (by omega)
 have Ha8 := Lib.hid a8
 clear a8
 by_cases a5 : 1 ≤ we
 rotate_left
 ·have ea5 : decide (1 ≤ we) = false := decide_eq_false (by omega)
  have HH := Lib.hid a5
  clear a5
  have H := Lib.hid (show mayD ⟨id, f, t, x, we, u, h⟩ = false by simp [mayD, bankB, mayB, HH.out])
  go_wp2_with fail
  go_ret
  exact ⟨by rw [H.out]; rfl, hs.below⟩
 have ea5 : decide (1 ≤ we) = true := decide_eq_true (by omega)
 have Ha5 := Lib.hid a5
 clear a5
 by_cases a6 : we ≤ 1000
 rotate_left
 ·have ea6 : decide (we ≤ 1000) = false := decide_eq_false (by omega)
  have HH := Lib.hid a6
  clear a6
  have H := Lib.hid (show mayD ⟨id, f, t, x, we, u, h⟩ = false by simp [mayD, bankB, mayB, HH.out])
  go_wp2_with fail
  go_ret
  exact ⟨by rw [H.out]; rfl, hs.below⟩
 have ea6 : decide (we ≤ 1000) = true := decide_eq_true (by omega)
 have Ha6 := Lib.hid a6
 clear a6
 by_cases a7 : 0 ≤ u
 rotate_left
 ·have ea7 : decide (0 ≤ u) = false := decide_eq_false (by omega)
  have HH := Lib.hid a7
  clear a7
  have H := Lib.hid (show mayD ⟨id, f, t, x, we, u, h⟩ = false by simp [mayD, bankB, mayB, HH.out])
  go_wp2_with fail
  go_ret
  exact ⟨by rw [H.out]; rfl, hs.below⟩
 have ea7 : decide (0 ≤ u) = true := decide_eq_true (by omega)
 have Ha7 := Lib.hid a7
 clear a7
 have H := Lib.hid (show mayD ⟨id, f, t, x, we, u, h⟩ = true by
  have := Ha4.out
  simp [mayD, mayB, HBF.out, HBT.out, HFT.out, Ha4.out, Ha8.out, Ha5.out, Ha6.out, Ha7.out]
  omega)
 go_wp2_with fail
 go_ret
 exact ⟨by rw [H.out]; rfl, hs.below⟩
theorem ent_all1 : Enters Try.prog 49 := enters_of Try.func49 (by kernel_rfl) rfl
set_option maxHeartbeats 1000000 in
theorem all1_any (d : Du) (w : World) : Calls Try.prog 49 #[d.val] w fun en w' => en = .returned (.bool (!mayD d)) ∧ Below w.heap.size w w' := by
 have HF := Lib.hid (fun w => fine_any d w)
 obtain ⟨id, f, t, x, we, u, h⟩ := d
 dsimp only [Du.val] at HF ⊢
 have hs := (Sep.start w).newCells #[.int .u64 id, .int .i64 f, .int .i64 t, .int .i64 x, .int .i64 we, .int .i64 u, .bool h] 44
 have q0 := cell_of (hs.cells 0 rfl) 0
 have q1 := cell_of (hs.cells 0 rfl) 1
 have q2 := cell_of (hs.cells 0 rfl) 2
 have q3 := cell_of (hs.cells 0 rfl) 3
 have q4 := cell_of (hs.cells 0 rfl) 4
 have q5 := cell_of (hs.cells 0 rfl) 5
 have q6 := cell_of (hs.cells 0 rfl) 6
 simp only [List.getElem?_toArray, List.getElem?_cons_zero, List.getElem?_cons_succ] at q0 q1 q2 q3 q4 q5 q6
 go_enter Try.func49, Try.ntmps49
 go_wp2_with fail
 refine (HF.out _).mono ?_
 rintro en w1 ⟨rfl, hb⟩
 replace hs := hs.belowStep hb
 clear HF hb q0 q1 q2 q3 q4 q5 q6
 obtain ⟨B, hB⟩ : ∃ B, B = mayD ⟨id, f, t, x, we, u, h⟩ := ⟨_, rfl⟩
 rw [← hB]
 have HB := Lib.hid hB
 clear hB
 go_wp2_with fail
 go_ret
 exact ⟨by rw [← HB.out]; rfl, hs.below⟩
theorem ent_below1 : Enters Try.prog 51 := enters_of Try.func51 (by kernel_rfl) rfl
set_option maxHeartbeats 1000000 in
theorem below1_any (d : Du) (n : Int) (B : Nat) (w : World) (hB : w.cell? ⟨B, 0, none⟩ = some (.int .i64 n)) (hlt : B < w.heap.size) : Calls Try.prog 51 #[d.val, .pointer (some ⟨B, 0, none⟩)] w fun en w' => en = .returned (.bool (!belowX n d)) ∧ Below w.heap.size w w' := by
 obtain ⟨id, f, t, x, we, u, h⟩ := d
 dsimp only [Du.val]
 have hs := (Sep.start w).newCells #[.int .u64 id, .int .i64 f, .int .i64 t, .int .i64 x, .int .i64 we, .int .i64 u, .bool h] 44
 have q0 := cell_of (hs.cells 0 rfl) 0
 have q1 := cell_of (hs.cells 0 rfl) 1
 have q2 := cell_of (hs.cells 0 rfl) 2
 have q3 := cell_of (hs.cells 0 rfl) 3
 have q4 := cell_of (hs.cells 0 rfl) 4
 have q5 := cell_of (hs.cells 0 rfl) 5
 have q6 := cell_of (hs.cells 0 rfl) 6
 simp only [List.getElem?_toArray, List.getElem?_cons_zero, List.getElem?_cons_succ] at q0 q1 q2 q3 q4 q5 q6
 by_cases h0 : n ≤ f
 ·have H := Lib.hid (show belowX n ⟨id, f, t, x, we, u, h⟩ = false by simp [belowX]; omega)
  have e0 : decide (n ≤ f) = true := decide_eq_true h0
  clear h0
  go_enter Try.func51, Try.ntmps51
  go_wp2_with fail
  go_ret
  exact ⟨by rw [H.out]; rfl, hs.below⟩
 ·have e0 : decide (n ≤ f) = false := decide_eq_false h0
  by_cases h1 : n ≤ t
  ·have e1 : decide (n ≤ t) = true := decide_eq_true h1
   have H := Lib.hid (show belowX n ⟨id, f, t, x, we, u, h⟩ = false by simp [belowX]; omega)
   clear h0 h1
   go_enter Try.func51, Try.ntmps51
   go_wp2_with fail
   go_ret
   exact ⟨by rw [H.out]; rfl, hs.below⟩
  ·have e1 : decide (n ≤ t) = false := decide_eq_false h1
   have H := Lib.hid (show belowX n ⟨id, f, t, x, we, u, h⟩ = true by simp [belowX]; omega)
   clear h0 h1
   go_enter Try.func51, Try.ntmps51
   go_wp2_with fail
   go_ret
   exact ⟨by rw [H.out]; rfl, hs.below⟩
/-- Where there is one that is so. -/
def IdxQ (p : Du → Bool) (l : List Du) (k : Int) : Prop := (k = -1 ∧ l.any p = false) ∨ (0 ≤ k ∧ l.any p = true)
set_option maxHeartbeats 2000000 in
theorem indexA_any (l : List Du) (v : Value) (w : World) (h : RdG duR w v l) :
  Calls Try.prog 69 #[v, .func (.func 49) #[] #[]] w fun en w' => ∃ k : Int, en = .returned (.int .i64 k) ∧ IdxQ (fun d => !mayD d) l k ∧ Below w.heap.size w w' := by
 obtain ⟨a, c, rfl⟩ := h.shape
 have hle := h.le'
 have hen := fun W args => ent_all1 W args
 go_enter Try.func69, Try.ntmps69
 go_wp2_with fail
 refine wp_loopM [none, none, none, none, some 4, some 5, none, none, some 8, some 9, some 10, some 11, some 12, some 13, some 14, some 15, some 16, some 17, some 18] (fun (r : Nat) (f : Nat → Value) (wr : World) => (fun (v : Value) => ∃ i : Nat, v = .int .i64 i ∧ i ≤ l.length ∧ r = l.length - i ∧ Hid (∀ d ∈ l.take i, (!mayD d) = false) ∧ Sep w wr []) (f 8)) (l.length) (by kernel_rfl) ?atStart1 ?round1
 case' atStart1 => (try dsimp only [nthV])
 case' round1 =>
  intro gk f wr l hl hrel J1 K1 hJ1 hK1
  (try simp only [mask] at hl)
  generalize f 8 = u8 at hl hrel
  subst hl
  (try dsimp only at hrel)
 case atStart1 => exact ⟨0, rfl, Nat.zero_le _, rfl, Lib.hid (by simp), Sep.start w⟩
 case round1 =>
  obtain ⟨i, rfl, hi, rfl, HA, hs⟩ := hrel
  by_cases hlt : i < l.length
  ·obtain ⟨b1, o1, e1, hb1, hc1⟩ := (hs.rdG h).at i hlt
   subst e1
   obtain ⟨x, hx⟩ : ∃ x, x = l[i] := ⟨_, rfl⟩
   rw [← hx] at hc1
   have HX := Lib.hid hx
   clear hx
   have HE := Lib.hid (all1_any x wr)
   cases hp : (!mayD x)
   ·rw [show (!mayD x) = false from hp] at HE
    have HA2 := Lib.hid (show ∀ d ∈ l.take (i + 1), (!mayD d) = false by
     rw [List.take_succ_eq_append_getElem hlt]
     intro d hd
     rcases List.mem_append.1 hd with q | q
     ·exact HA.out d q
     ·rw [List.mem_singleton.1 q, ← HX.out]; exact hp)
    clear hp HX
    obtain ⟨id, f, t, xx, we, u, hh⟩ := x
    have x0 := hc1 0 (by decide)
    have x1 := hc1 1 (by decide)
    have x2 := hc1 2 (by decide)
    have x3 := hc1 3 (by decide)
    have x4 := hc1 4 (by decide)
    have x5 := hc1 5 (by decide)
    have x6 := hc1 6 (by decide)
    simp only [duR, Nat.add_zero, List.getElem?_cons_zero, List.getElem?_cons_succ] at x0 x1 x2 x3 x4 x5 x6
    clear hc1
    dsimp only [Du.val] at HE
    go_wp2_with fail
    refine (HE.out).mono ?_
    rintro en w2 ⟨rfl, hb⟩
    clear HE x0 x1 x2 x3 x4 x5 x6
    go_wp2_with fail
    refine Round.intro (l.length - (i + 1)) ?measure2 (by kernel_rfl) (hJ1 _ _ _ ?rel2)
    case' rel2 => (try dsimp only [nthV])
    case measure2 => omega
    case rel2 => exact ⟨i + 1, by go_num, hlt, rfl, HA2, hs.belowStep hb⟩
   ·rw [show (!mayD x) = true from hp] at HE
    have HT := Lib.hid (show l.any (fun d => (!mayD d)) = true from List.any_eq_true.2 ⟨x, by rw [HX.out]; exact List.getElem_mem hlt, hp⟩)
    clear hp HX
    obtain ⟨id, f, t, xx, we, u, hh⟩ := x
    have x0 := hc1 0 (by decide)
    have x1 := hc1 1 (by decide)
    have x2 := hc1 2 (by decide)
    have x3 := hc1 3 (by decide)
    have x4 := hc1 4 (by decide)
    have x5 := hc1 5 (by decide)
    have x6 := hc1 6 (by decide)
    simp only [duR, Nat.add_zero, List.getElem?_cons_zero, List.getElem?_cons_succ] at x0 x1 x2 x3 x4 x5 x6
    clear hc1
    dsimp only [Du.val] at HE
    go_wp2_with fail
    refine (HE.out).mono ?_
    rintro en w2 ⟨rfl, hb⟩
    clear HE x0 x1 x2 x3 x4 x5 x6
    go_wp2_with fail
    go_ret
    exact ⟨i, rfl, .inr ⟨by omega, HT.out⟩, (hs.belowStep hb).below⟩
  ·obtain rfl : i = l.length := by omega
   have HT := Lib.hid (show l.any (fun d => (!mayD d)) = false from List.any_eq_false.2 fun x hx => by have := HA.out x (by rw [List.take_length]; exact hx); simpa using this)
   go_wp2_with fail
   go_ret
   exact ⟨-1, rfl, .inl ⟨rfl, HT.out⟩, hs.below⟩
set_option maxHeartbeats 2000000 in
theorem indexB_any (l : List Du) (v : Value) (n : Int) (B : Nat) (w : World) (h : RdG duR w v l) (hB : w.cell? ⟨B, 0, none⟩ = some (.int .i64 n)) (hbl : B < w.heap.size) :
  Calls Try.prog 69 #[v, .func (.func 51) #[] #[.pointer (some ⟨B, 0, none⟩)]] w fun en w' => ∃ k : Int, en = .returned (.int .i64 k) ∧ IdxQ (fun d => !belowX n d) l k ∧ Below w.heap.size w w' := by
 have hBB := fun w' (hb : Below w.heap.size w w') => (hb.cell (p := ⟨B, 0, none⟩) hbl).trans hB
 obtain ⟨a, c, rfl⟩ := h.shape
 have hle := h.le'
 have hen := fun W args => ent_below1 W args
 go_enter Try.func69, Try.ntmps69
 go_wp2_with fail
 refine wp_loopM [none, none, none, none, some 4, some 5, none, none, some 8, some 9, some 10, some 11, some 12, some 13, some 14, some 15, some 16, some 17, some 18] (fun (r : Nat) (f : Nat → Value) (wr : World) => (fun (v : Value) => ∃ i : Nat, v = .int .i64 i ∧ i ≤ l.length ∧ r = l.length - i ∧ Hid (∀ d ∈ l.take i, (!belowX n d) = false) ∧ Sep w wr []) (f 8)) (l.length) (by kernel_rfl) ?atStart3 ?round3
 case' atStart3 => (try dsimp only [nthV])
 case' round3 =>
  intro gk f wr l hl hrel J1 K1 hJ1 hK1
  (try simp only [mask] at hl)
  generalize f 8 = u8 at hl hrel
  subst hl
  (try dsimp only at hrel)
 case atStart3 => exact ⟨0, rfl, Nat.zero_le _, rfl, Lib.hid (by simp), Sep.start w⟩
 case round3 =>
  obtain ⟨i, rfl, hi, rfl, HA, hs⟩ := hrel
  by_cases hlt : i < l.length
  ·obtain ⟨b1, o1, e1, hb1, hc1⟩ := (hs.rdG h).at i hlt
   subst e1
   obtain ⟨x, hx⟩ : ∃ x, x = l[i] := ⟨_, rfl⟩
   rw [← hx] at hc1
   have HX := Lib.hid hx
   clear hx
   have HE := Lib.hid (below1_any x n B wr (hBB _ hs.below) (Nat.lt_of_lt_of_le hbl hs.below.size))
   cases hp : (!belowX n x)
   ·rw [show (!belowX n x) = false from hp] at HE
    have HA2 := Lib.hid (show ∀ d ∈ l.take (i + 1), (!belowX n d) = false by
     rw [List.take_succ_eq_append_getElem hlt]
     intro d hd
     rcases List.mem_append.1 hd with q | q
     ·exact HA.out d q
     ·rw [List.mem_singleton.1 q, ← HX.out]; exact hp)
    clear hp HX
    obtain ⟨id, f, t, xx, we, u, hh⟩ := x
    have x0 := hc1 0 (by decide)
    have x1 := hc1 1 (by decide)
    have x2 := hc1 2 (by decide)
    have x3 := hc1 3 (by decide)
    have x4 := hc1 4 (by decide)
    have x5 := hc1 5 (by decide)
    have x6 := hc1 6 (by decide)
    simp only [duR, Nat.add_zero, List.getElem?_cons_zero, List.getElem?_cons_succ] at x0 x1 x2 x3 x4 x5 x6
    clear hc1
    dsimp only [Du.val] at HE
    go_wp2_with fail
    refine (HE.out).mono ?_
    rintro en w2 ⟨rfl, hb⟩
    clear HE x0 x1 x2 x3 x4 x5 x6
    go_wp2_with fail
    refine Round.intro (l.length - (i + 1)) ?measure4 (by kernel_rfl) (hJ1 _ _ _ ?rel4)
    case' rel4 => (try dsimp only [nthV])
    case measure4 => omega
    case rel4 => exact ⟨i + 1, by go_num, hlt, rfl, HA2, hs.belowStep hb⟩
   ·rw [show (!belowX n x) = true from hp] at HE
    have HT := Lib.hid (show l.any (fun d => (!belowX n d)) = true from List.any_eq_true.2 ⟨x, by rw [HX.out]; exact List.getElem_mem hlt, hp⟩)
    clear hp HX
    obtain ⟨id, f, t, xx, we, u, hh⟩ := x
    have x0 := hc1 0 (by decide)
    have x1 := hc1 1 (by decide)
    have x2 := hc1 2 (by decide)
    have x3 := hc1 3 (by decide)
    have x4 := hc1 4 (by decide)
    have x5 := hc1 5 (by decide)
    have x6 := hc1 6 (by decide)
    simp only [duR, Nat.add_zero, List.getElem?_cons_zero, List.getElem?_cons_succ] at x0 x1 x2 x3 x4 x5 x6
    clear hc1
    dsimp only [Du.val] at HE
    go_wp2_with fail
    refine (HE.out).mono ?_
    rintro en w2 ⟨rfl, hb⟩
    clear HE x0 x1 x2 x3 x4 x5 x6
    go_wp2_with fail
    go_ret
    exact ⟨i, rfl, .inr ⟨by omega, HT.out⟩, (hs.belowStep hb).below⟩
  ·obtain rfl : i = l.length := by omega
   have HT := Lib.hid (show l.any (fun d => (!belowX n d)) = false from List.any_eq_false.2 fun x hx => by have := HA.out x (by rw [List.take_length]; exact hx); simpa using this)
   go_wp2_with fail
   go_ret
   exact ⟨-1, rfl, .inl ⟨rfl, HT.out⟩, hs.below⟩
theorem containsA_any (l : List Du) (v : Value) (w : World) (h : RdG duR w v l) :
  Calls Try.prog 48 #[v, .func (.func 49) #[] #[]] w fun en w' => en = .returned (.bool (l.any fun d => !mayD d)) ∧ Below w.heap.size w w' := by
 go_enter Try.func48, Try.ntmps48
 go_wp2_with fail
 refine (indexA_any l v _ h).mono ?_
 rintro en w1 ⟨k, rfl, HK, hb⟩
 rcases HK with ⟨rfl, hk⟩ | ⟨hk0, hk⟩
 ·have HE := Lib.hid hk
  clear hk
  go_wp2_with fail
  go_ret
  exact ⟨by rw [HE.out]; rfl, hb⟩
 ·have HE := Lib.hid hk
  have e1 : decide (0 ≤ k) = true := decide_eq_true hk0
  clear hk
  go_wp2_with fail
  go_ret
  exact ⟨by rw [HE.out]; rfl, hb⟩
theorem containsB_any (l : List Du) (v : Value) (n : Int) (B : Nat) (w : World) (h : RdG duR w v l) (hB : w.cell? ⟨B, 0, none⟩ = some (.int .i64 n)) (hlt : B < w.heap.size) :
  Calls Try.prog 48 #[v, .func (.func 51) #[] #[.pointer (some ⟨B, 0, none⟩)]] w fun en w' => en = .returned (.bool (l.any fun d => !belowX n d)) ∧ Below w.heap.size w w' := by
 go_enter Try.func48, Try.ntmps48
 go_wp2_with fail
 refine (indexB_any l v n B _ h hB hlt).mono ?_
 rintro en w1 ⟨k, rfl, HK, hb⟩
 rcases HK with ⟨rfl, hk⟩ | ⟨hk0, hk⟩
 ·have HE := Lib.hid hk
  clear hk
  go_wp2_with fail
  go_ret
  exact ⟨by rw [HE.out]; rfl, hb⟩
 ·have HE := Lib.hid hk
  have e1 : decide (0 ≤ k) = true := decide_eq_true hk0
  clear hk
  go_wp2_with fail
  go_ret
  exact ⟨by rw [HE.out]; rfl, hb⟩
theorem any_not {p : Du → Bool} (l : List Du) : (l.any fun d => !p d) = !l.all p := by
 induction l with
 | nil => rfl
 | cons d t ih => simp [ih]
set_option maxHeartbeats 1000000 in
theorem all_any (l : List Du) (v : Value) (w : World) (h : RdG duR w v l) :
  Calls Try.prog 33 #[v] w fun en w' => en = .returned (.bool (allB l)) ∧ Below w.heap.size w w' := by
 have HC := Lib.hid (containsA_any l v w h)
 obtain ⟨a, c, rfl⟩ := h.shape
 have hle := h.le'
 by_cases h0 : l.length ≤ 64
 ·have e0 : decide ((l.length : Int) ≤ 64) = true := decide_eq_true (by omega)
  have HE := Lib.hid (show allB l = !(l.any fun d => !mayD d) by rw [any_not]; simp [allB, h0])
  generalize (l.any fun d => !mayD d) = B at HC HE
  clear h0
  go_enter Try.func33, Try.ntmps33
  go_wp2_with fail
  refine HC.out.mono ?_
  rintro en w1 ⟨rfl, hb⟩
  go_wp2_with fail
  go_ret
  exact ⟨by rw [HE.out]; rfl, hb⟩
 ·have e0 : decide ((l.length : Int) ≤ 64) = false := decide_eq_false (by omega)
  have HE := Lib.hid (show allB l = false by simp [allB, h0])
  clear h0
  go_enter Try.func33, Try.ntmps33
  go_wp2_with fail
  go_ret
  exact ⟨by rw [HE.out]; rfl, Below.refl _ _⟩
set_option maxHeartbeats 1000000 in
theorem below_any (n : Int) (l : List Du) (v : Value) (w : World) (h : RdG duR w v l) :
  Calls Try.prog 34 #[.int .i64 n, v] w fun en w' => en = .returned (.bool (belowB n l)) ∧ Below w.heap.size w w' := by
 have hs := (Sep.start w).newCells #[.int .i64 n] 3
 have q0 := cell_of (hs.cells 0 rfl) 0
 simp only [List.getElem?_toArray, List.getElem?_cons_zero] at q0
 have HC := Lib.hid (containsB_any l v n w.heap.size _ (hs.rdG h) q0 (lt_of (hs.cells 0 rfl)))
 have HE := Lib.hid (show belowB n l = !(l.any fun d => !belowX n d) by rw [any_not]; simp [belowB])
 obtain ⟨a, c, rfl⟩ := h.shape
 generalize (l.any fun d => !belowX n d) = B at HC HE
 have hle := h.le'
 go_enter Try.func34, Try.ntmps34
 go_wp2_with fail
 refine HC.out.mono ?_
 rintro en w1 ⟨rfl, hb⟩
 go_wp2_with fail
 go_ret
 exact ⟨by rw [HE.out]; rfl, (hs.belowStep hb).below⟩
end Go.Proofs.Ytjijhpflkkicaaa
namespace Go.Proofs.Ytjijhpflkkicaaa
open Go Go.RowKit Go.Mem Go.MoneyP Go.NetP Go.BuildP Go.OffP Go.Shelf
theorem Try.infoI64o : (Try.prog.info? 2).map (fun i => (i.zero, i.size, i.bytes)) = some (some (.int .i64 0), 1, 8) := by kernel_rfl
/-- What Nets answers. -/
def NetsD (n : Int) (l : List Du) (w : World) (en : Ending) (w' : World) : Prop :=
 (netsE n l ≠ 0 ∧ en = .returned (.tuple #[.slice none 0 0, .int .i64 (netsE n l)]) ∧ Below w.heap.size w w') ∨
 (netsE n l = 0 ∧ ∃ v, en = .returned (.tuple #[v, .int .i64 0]) ∧ Sep w w' [intsT .i64 2 v (netsF n.toNat l)])
set_option maxRecDepth 100000 in
set_option maxHeartbeats 4000000 in
theorem nets_any (n : Int) (l : List Du) (vl : Value) (w : World) (h : RdG duR w vl l) :
  Calls Try.prog 19 #[.int .i64 n, vl] w fun en w' => NetsD n l w en w' := by
 obtain ⟨i0, hi0, hz0, hz1, hz2⟩ := info_parts Try.infoI64o
 have HALL := Lib.hid (all_any l vl w h)
 have HBEL := Lib.hid (fun W (hW : RdG duR W vl l) => below_any n l vl W hW)
 obtain ⟨al, cl, rfl⟩ := h.shape
 have hle := h.le'
 by_cases h0 : n < 0
 ·go_enter Try.func19, Try.ntmps19
  have H := Lib.hid (netsE_arg (l := l) (.inl h0))
  go_wp2_with fail
  go_ret2
  exact .inl ⟨by rw [H.out]; decide, by rw [H.out]; rfl, (Below.refl _ _)⟩
 by_cases h1 : 16 < n
 ·go_enter Try.func19, Try.ntmps19
  have H := Lib.hid (netsE_arg (l := l) (.inr (.inl h1)))
  go_wp2_with fail
  go_ret2
  exact .inl ⟨by rw [H.out]; decide, by rw [H.out]; rfl, (Below.refl _ _)⟩
 cases ha : allB l
 ·rw [ha] at HALL
  go_enter Try.func19, Try.ntmps19
  go_wp2_with fail
  refine HALL.out.mono ?_
  rintro en w1 ⟨rfl, hb⟩
  have H := Lib.hid (netsE_arg (n := n) (.inr (.inr ha)))
  go_wp2_with fail
  go_ret2
  exact .inl ⟨by rw [H.out]; decide, by rw [H.out]; rfl, (hb)⟩
 rw [ha] at HALL
 cases hbl : belowB n l
 ·rw [hbl] at HBEL
  have H0 := Lib.hid (netsE_below ⟨by omega, by omega⟩ ha hbl)
  clear ha hbl
  go_enter Try.func19, Try.ntmps19
  go_wp2_with fail
  refine HALL.out.mono ?_
  rintro en w1 ⟨rfl, hb⟩
  have hs := (Sep.start _).belowStep hb
  clear hb
  go_wp2_with fail
  refine (HBEL.out _ (hs.rdG h)).mono ?_
  rintro en w2 ⟨rfl, hb⟩
  have H := Lib.hid (H0.out)
  go_wp2_with fail
  go_ret2
  exact .inl ⟨by rw [H.out]; decide, by rw [H.out]; rfl, ((hs.belowStep hb).below)⟩
 rw [hbl] at HBEL
 have HE := Lib.hid (netsE_sum (n := n) (l := l) ⟨by omega, by omega⟩ ha hbl)
 obtain ⟨hl64, hmay⟩ := all_parts ha
 have HMAY := Lib.hid hmay
 have HBE := Lib.hid (below_parts hbl)
 clear ha hbl hmay
 obtain ⟨N, rfl⟩ : ∃ N : Nat, n = N := ⟨n.toNat, by omega⟩
 have hN16 : N ≤ 16 := by omega
 go_enter Try.func19, Try.ntmps19
 go_wp2_with fail
 refine HALL.out.mono ?_
 rintro en w1 ⟨rfl, hb⟩
 have hs := (Sep.start _).belowStep hb
 clear hb
 go_wp2_with fail
 refine (HBEL.out _ (hs.rdG h)).mono ?_
 rintro en w2 ⟨rfl, hb⟩
 replace hs := hs.belowStep hb
 clear hb HALL HBEL
 go_wp2_with (at_make; refine wpList_makeInts rfl (.tmp 23) (.tmp 23) 23 rfl 2 i0 .i64 8 Try.underlying23 hi0 hz0 hz1 hz2 N .i64 .i64 rfl rfl hs ?m1 ?m2 ?m3)
 case m1 => unfold maxLen; omega
 case m2 => omega
 case m3 =>
  intro w3 g hs3
  clear hs
  go_wp2_with fail
  refine wp_loopM [none, none, none, none, some 4, some 5, none, some 7, none, some 9, none, none, none, none, none, none, none, none, none, none, none, none, none, none, none, none, none, some 27, some 28, some 29, some 30, some 31, some 32, some 33, some 34, some 35, some 36, some 37, some 38, some 39, some 40, some 41, some 42, some 43, some 44, some 45, some 46, some 47, some 48, some 49, some 50, some 51, some 52, some 53, some 54, some 55, some 56, some 57, some 58, some 59, some 60, none] (fun (r : Nat) (f : Nat → Value) (wr : World) => (fun (v vq vr ve : Value) => ∃ (i : Nat) (q : Int) (OX : List Int), v = .int .i64 i ∧ vq = .int .i64 q ∧ vr = .slice none 0 0 ∧ ve = .int .i64 0 ∧ i ≤ l.length ∧ r = l.length - i ∧ Hid (q = 4503599627370496 - sumX (l.take i) ∧ OX = netsF N (l.take i)) ∧ 0 ≤ q ∧ q ≤ 4503599627370496 ∧ Sep w wr [intsT .i64 2 (.slice (some ⟨g, 0, none⟩) N N) OX]) (f 27) (f 7) (f 4) (f 5)) (l.length) (by kernel_rfl) ?atStart5 ?round5
  case' atStart5 => (try dsimp only [nthV])
  case' round5 =>
   intro gk f wr l hl hrel J1 K1 hJ1 hK1
   (try simp only [mask] at hl)
   generalize f 27 = u27 at hl hrel
   generalize f 7 = u7 at hl hrel
   generalize f 4 = u4 at hl hrel
   generalize f 5 = u5 at hl hrel
   subst hl
   (try dsimp only at hrel)
  case atStart5 => exact ⟨0, 4503599627370496, List.replicate N 0, rfl, rfl, rfl, rfl, Nat.zero_le _, rfl, Lib.hid ⟨by simp [sumX], rfl⟩, by omega, by omega, hs3⟩
  case round5 =>
   clear hs3
   obtain ⟨i, Q, OX, rfl, rfl, rfl, rfl, hi, rfl, HI, hq0, hq1, hs⟩ := hrel
   by_cases hlt : i < l.length
   ·have hiI : (i : Int) < l.length := by omega
    have hm := HMAY.out _ (List.getElem_mem hlt)
    have hbe := HBE.out _ (List.getElem_mem hlt)
    have HST := Lib.hid (netsF_take (n := N) hlt)
    have HSX := Lib.hid (sumX_take hlt)
    have HSL := Lib.hid (sumX_le (l := l) (fun d hd => (HMAY.out d hd).x0) (i + 1))
    have HOXl := Lib.hid (show OX.length = N by rw [HI.out.2]; exact netsF_len _ _)
    have hOXb : ∀ j, -sumX (l.take i) ≤ OX.getD j 0 ∧ OX.getD j 0 ≤ sumX (l.take i) := fun j => by
     rw [HI.out.2, netsF_at (fun d hd => ⟨HMAY.out d (List.mem_of_mem_take hd), HBE.out d (List.mem_of_mem_take hd)⟩) j]
     exact deltaS_bound j _ fun d hd => ⟨(HMAY.out d (List.mem_of_mem_take hd)).x0, (HMAY.out d (List.mem_of_mem_take hd)).ne⟩
    have HOB := Lib.hid (show ∀ j, -4503599627370496 ≤ OX.getD j 0 ∧ OX.getD j 0 ≤ 4503599627370496 from fun j => by have := hOXb j; have := HI.out.1; omega)
    clear hOXb
    obtain ⟨b1, o1, e1, _, hc1⟩ := (hs.rdG h).at i hlt
    subst e1
    obtain ⟨x, hx⟩ : ∃ x, x = l[i] := ⟨_, rfl⟩
    rw [← hx] at hc1 hm hbe HST HSX
    have HX := Lib.hid hx
    clear hx
    obtain ⟨id, f, t, xx, we, u, hh⟩ := x
    have x0 := hc1 0 (by decide)
    have x1 := hc1 1 (by decide)
    have x2 := hc1 2 (by decide)
    have x3 := hc1 3 (by decide)
    have x4 := hc1 4 (by decide)
    have x5 := hc1 5 (by decide)
    have x6 := hc1 6 (by decide)
    simp only [duR, Nat.add_zero, List.getElem?_cons_zero, List.getElem?_cons_succ] at x0 x1 x2 x3 x4 x5 x6
    clear hc1
    obtain ⟨hf0, hf1, ht0, ht1, hne, hx0, hx1, _, _, _⟩ := hm
    obtain ⟨hfn, htn⟩ := hbe
    dsimp only at hf0 hf1 ht0 ht1 hne hx0 hx1 hfn htn HSX
    obtain ⟨F, rfl⟩ : ∃ F : Nat, f = F := ⟨f.toNat, by omega⟩
    obtain ⟨T, rfl⟩ : ∃ T : Nat, t = T := ⟨t.toNat, by omega⟩
    have hF : F < N := by omega
    have hT : T < N := by omega
    have hFT : F ≠ T := by omega
    go_upto_region 12 with fail
    replace hs := hs.newCells #[.int .u64 id, .int .i64 F, .int .i64 T, .int .i64 xx, .int .i64 we, .int .i64 u, .bool hh] 44
    obtain ⟨B, hB⟩ : ∃ B, B = wr.heap.size := ⟨_, rfl⟩
    rw [← hB] at hs ⊢
    clear hB x0 x1 x2 x3 x4 x5 x6
    generalize World.alloc wr _ = W1 at hs ⊢
    have x0 := cell_of (hs.cells 0 rfl) 0
    have x1 := cell_of (hs.cells 0 rfl) 1
    have x2 := cell_of (hs.cells 0 rfl) 2
    have x3 := cell_of (hs.cells 0 rfl) 3
    have x4 := cell_of (hs.cells 0 rfl) 4
    have x5 := cell_of (hs.cells 0 rfl) 5
    have x6 := cell_of (hs.cells 0 rfl) 6
    simp only [List.getElem?_toArray, List.getElem?_cons_zero, List.getElem?_cons_succ] at x0 x1 x2 x3 x4 x5 x6
    by_cases hgr : Q < xx
    ·have H0 := Lib.hid (show netsE N l = 13 by rw [HE.out, if_pos]; have := HI.out.1; have := HSX.out; have := HSL.out; omega)
     go_wp2_with fail
     (repeat rw [Exit.noGoto_ret])
     go_ret2
     exact .inl ⟨by rw [H0.out]; decide, by rw [H0.out]; rfl, hs.below⟩
    ·have HQ := Lib.hid (show Q - xx = 4503599627370496 - sumX (l.take (i + 1)) by rw [HSX.out, HI.out.1]; omega)
     cases hh
     ·have HST2 := Lib.hid (show netsF N (l.take (i + 1)) = (OX.set T (OX.getD T 0 + xx)).set F (OX.getD F 0 - xx) by
       rw [HST.out, ← HI.out.2]
       unfold stepN
       rw [if_neg (by simp)]
       dsimp only
       rw [show ((F : Int)).toNat = F by omega, show ((T : Int)).toNat = T by omega, getD_set _ _ _ _ (by rw [HOXl.out]; exact hT), if_neg (fun e => hFT e.symm)])
      have HXF := Lib.hid (show (OX.set T (OX.getD T 0 + xx)).getD F 0 = OX.getD F 0 by rw [getD_set _ _ _ _ (by rw [HOXl.out]; exact hT), if_neg (fun e => hFT e.symm)])
      obtain ⟨n1, n2⟩ := HOB.out F
      obtain ⟨n3, n4⟩ := HOB.out T
      obtain ⟨g', cg', eg, _, hcR, hfr⟩ := (hs.ints 1 rfl).get T (by rw [HOXl.out]; exact hT)
      injection eg with eg q1 q2
      injection eg with eg
      injection eg with eg
      subst eg
      have r0 := hcR T (by rw [HOXl.out]; exact hT)
      clear q1 q2 hcR
      obtain ⟨XF, hXF⟩ : ∃ x, x = OX.getD F 0 := ⟨_, rfl⟩
      obtain ⟨XT, hXT⟩ : ∃ x, x = OX.getD T 0 := ⟨_, rfl⟩
      rw [← hXF] at n1 n2 HST2 HXF
      rw [← hXT] at r0 n3 n4 HST2 HXF
      clear hXF hXT HST
      go_wp2_with fail
      refine Mix.region [0, 0, 0, 0, 0, 0, 0, 0, 0, 2] (fun _ => True) (by kernel_rfl) (by kernel_rfl) trivial ?_
      simp only [List.zip_cons_cons, List.zip_nil_right]
      iterate 9 (refine Mix.step0 fun K hK => ?_; go_simp; (try (go_bits; try go_simp)); first | ((with_reducible refine hK _ _ ?_); clear hK K) | ((try (simp only [IntWalk.iteOmega]; try go_simp)); (try go_bits); (with_reducible refine hK _ _ ?_); clear hK K))
      refine Mix.step2n (by first | rfl | simp [Region.wanted, yielded]) fun K hK => ?_
      go_wp2_with fail
      refine Mix.post_mk (C := (fun _ => True)) trivial (hK _ _ ?_)
      clear hK K
      refine Mix.done ?_
      have hs2 := (hs.setInts (j := T) 1 rfl (XT + xx)).drew
      (try simp only [List.set_cons_zero, List.set_cons_succ] at hs2)
      clear hs r0 hfr x0 x1 x2 x3 x4 x5 x6
      go_upto_region 17 with fail
      generalize World.drew _ = W2 at hs2 ⊢
      have hs := hs2
      clear hs2
      have x0 := cell_of (hs.cells 0 rfl) 0
      have x1 := cell_of (hs.cells 0 rfl) 1
      have x2 := cell_of (hs.cells 0 rfl) 2
      have x3 := cell_of (hs.cells 0 rfl) 3
      have x4 := cell_of (hs.cells 0 rfl) 4
      have x5 := cell_of (hs.cells 0 rfl) 5
      have x6 := cell_of (hs.cells 0 rfl) 6
      simp only [List.getElem?_toArray, List.getElem?_cons_zero, List.getElem?_cons_succ] at x0 x1 x2 x3 x4 x5 x6
      obtain ⟨g', cg', eg, _, hcR, hfr⟩ := (hs.ints 1 rfl).get F (by rw [List.length_set, HOXl.out]; exact hF)
      injection eg with eg q1 q2
      injection eg with eg
      injection eg with eg
      subst eg
      have r1 := hcR F (by rw [List.length_set, HOXl.out]; exact hF)
      clear q1 q2 hcR
      rw [HXF.out] at r1
      refine Mix.region [0, 0, 0, 0, 0, 0, 0, 0, 0, 2] (fun _ => True) (by kernel_rfl) (by kernel_rfl) trivial ?_
      simp only [List.zip_cons_cons, List.zip_nil_right]
      iterate 9 (refine Mix.step0 fun K hK => ?_; go_simp; (try (go_bits; try go_simp)); first | ((with_reducible refine hK _ _ ?_); clear hK K) | ((try (simp only [IntWalk.iteOmega]; try go_simp)); (try go_bits); (with_reducible refine hK _ _ ?_); clear hK K))
      refine Mix.step2n (by first | rfl | simp [Region.wanted, yielded]) fun K hK => ?_
      go_wp2_with fail
      refine Mix.post_mk (C := (fun _ => True)) trivial (hK _ _ ?_)
      clear hK K
      refine Mix.done ?_
      have hs3 := (hs.setInts (j := F) 1 rfl (XF - xx)).drew
      (try simp only [List.set_cons_zero, List.set_cons_succ] at hs3)
      clear hs r1 hfr x0 x1 x2 x3 x4 x5 x6
      go_wp2_with fail
      refine Round.intro (l.length - (i + 1)) ?measure6 (by kernel_rfl) (hJ1 _ _ _ ?rel6)
      case' rel6 => (try dsimp only [nthV])
      case measure6 => omega
      case rel6 => exact ⟨i + 1, Q - xx, _, by go_num, rfl, rfl, rfl, hlt, rfl, Lib.hid ⟨HQ.out, HST2.out.symm⟩, by omega, by omega, hs3.tail⟩
     ·have HST2 := Lib.hid (show netsF N (l.take (i + 1)) = OX by
       rw [HST.out, ← HI.out.2]
       unfold stepN
       rw [if_pos rfl])
      go_wp2_with fail
      refine Round.intro (l.length - (i + 1)) ?measure7 (by kernel_rfl) (hJ1 _ _ _ ?rel7)
      case' rel7 => (try dsimp only [nthV])
      case measure7 => omega
      case rel7 => exact ⟨i + 1, Q - xx, _, by go_num, rfl, rfl, rfl, hlt, rfl, Lib.hid ⟨HQ.out, HST2.out.symm⟩, by omega, by omega, hs.tail⟩
   ·obtain rfl : i = l.length := by omega
    have h1' := HI.out.1
    have h2' := HI.out.2
    rw [List.take_length] at h1' h2'
    have H0 := Lib.hid (show netsE N l = 0 by rw [HE.out, if_neg]; omega)
    have HF := Lib.hid h2'
    clear h1' h2'
    go_wp2_with fail
    (repeat rw [Exit.noGoto_ret])
    go_ret2
    exact .inr ⟨H0.out, _, rfl, by rw [Int.toNat_natCast, ← HF.out]; exact hs⟩
end Go.Proofs.Ytjijhpflkkicaaa
namespace Go.Proofs.Ytjijhpflkkicaaa
open Go Go.RowKit Go.Mem Go.MoneyP Go.NetP Go.BuildP Go.OffP Go.Shelf
set_option maxRecDepth 100000 in
set_option maxHeartbeats 4000000 in
theorem rmay29_any (n : Int) (l : List Du) (vl : Value) (w : World) (h : RdG duR w vl l) :
  Calls Try.prog 17 #[.int .i64 n, vl] w fun en w' => en = .returned (.bool (may29 n l)) ∧ Below w.heap.size w w' := by
 obtain ⟨al, cl, rfl⟩ := h.shape
 have hle := h.le'
 by_cases h0 : n < 0
 ·have H := Lib.hid (show may29 n l = false by simp [may29]; omega)
  go_enter Try.func17, Try.ntmps17
  go_wp2_with fail
  go_ret
  exact ⟨by rw [H.out]; rfl, Below.refl _ _⟩
 by_cases h1 : 16 < n
 ·have H := Lib.hid (show may29 n l = false by simp [may29]; omega)
  go_enter Try.func17, Try.ntmps17
  go_wp2_with fail
  go_ret
  exact ⟨by rw [H.out]; rfl, Below.refl _ _⟩
 by_cases h2 : 64 < l.length
 ·have e2 : decide (64 < (l.length : Int)) = true := decide_eq_true (by omega)
  have H := Lib.hid (show may29 n l = false by simp [may29, allB]; omega)
  go_enter Try.func17, Try.ntmps17
  go_wp2_with fail
  go_ret
  exact ⟨by rw [H.out]; rfl, Below.refl _ _⟩
 have e2 : decide (64 < (l.length : Int)) = false := decide_eq_false (by omega)
 have HL := Lib.hid h2
 clear h2
 go_enter Try.func17, Try.ntmps17
 go_wp2_with fail
 refine wp_loopM [none, none, none, none, some 4, some 5, none, none, none, none, none, none, none, none, none, none, none, some 17, some 18, some 19, some 20, some 21, some 22, some 23, some 24, some 25, some 26, some 27, some 28, some 29, some 30, some 31, some 32, some 33, some 34, some 35, some 36, some 37, some 38, some 39, some 40, some 41, some 42, some 43, some 44, some 45, some 46] (fun (r : Nat) (f : Nat → Value) (wr : World) => (fun (v vr : Value) => ∃ (i : Nat), v = .int .i64 i ∧ vr = .bool false ∧ i ≤ l.length ∧ r = l.length - i ∧ Hid (∀ d ∈ l.take i, mayD d = true ∧ belowX n d = true) ∧ Sep w wr []) (f 5) (f 4)) (l.length) (by kernel_rfl) ?atStart8 ?round8
 case' atStart8 => (try dsimp only [nthV])
 case' round8 =>
  intro gk f wr l hl hrel J1 K1 hJ1 hK1
  (try simp only [mask] at hl)
  generalize f 5 = u5 at hl hrel
  generalize f 4 = u4 at hl hrel
  subst hl
  (try dsimp only at hrel)
 case atStart8 => exact ⟨0, rfl, rfl, Nat.zero_le _, rfl, Lib.hid (by simp), Sep.start w⟩
 case round8 =>
  obtain ⟨i, rfl, rfl, hi, rfl, HA, hs⟩ := hrel
  by_cases hlt : i < l.length
  ·have hiI : (i : Int) < l.length := by omega
   obtain ⟨b1, o1, e1, _, hc1⟩ := (hs.rdG h).at i hlt
   subst e1
   obtain ⟨x, hx⟩ : ∃ x, x = l[i] := ⟨_, rfl⟩
   rw [← hx] at hc1
   have HX := Lib.hid hx
   have hxm : x ∈ l := by rw [hx]; exact List.getElem_mem hlt
   clear hx
   have HE := Lib.hid (rmayD_any x wr)
   have HNO := Lib.hid (show mayD x = false ∨ belowX n x = false → may29 n l = false from fun q => by
    rcases q with q | q
    ·have : allB l = false := by
      rw [Bool.eq_false_iff]; intro e
      have := (Bool.and_eq_true _ _).mp e
      have := List.all_eq_true.1 this.2 x hxm
      rw [q] at this; cases this
     simp [may29, this]
    ·have : belowB n l = false := by
      rw [Bool.eq_false_iff]; intro e
      have := List.all_eq_true.1 e x hxm
      rw [q] at this; cases this
     simp [may29, this])
   have HYES := Lib.hid (show mayD x = true → belowX n x = true → ∀ d ∈ l.take (i + 1), mayD d = true ∧ belowX n d = true from fun a b => by
    rw [List.take_succ_eq_append_getElem hlt]
    intro d hd
    rcases List.mem_append.1 hd with q | q
    ·exact HA.out d q
    ·rw [List.mem_singleton.1 q, ← HX.out]; exact ⟨a, b⟩)
   clear hxm
   cases hm : mayD x
   ·rw [hm] at HE
    have H := Lib.hid (HNO.out (.inl hm))
    clear hm HYES HNO
    obtain ⟨id, f, t, xx, we, u, hh⟩ := x
    have x0 := hc1 0 (by decide)
    have x1 := hc1 1 (by decide)
    have x2 := hc1 2 (by decide)
    have x3 := hc1 3 (by decide)
    have x4 := hc1 4 (by decide)
    have x5 := hc1 5 (by decide)
    have x6 := hc1 6 (by decide)
    simp only [duR, Nat.add_zero, List.getElem?_cons_zero, List.getElem?_cons_succ] at x0 x1 x2 x3 x4 x5 x6
    clear hc1
    dsimp only [Du.val] at HE
    go_wp2_with fail
    refine HE.out.mono ?_
    rintro en w1 ⟨rfl, hb⟩
    clear HE x0 x1 x2 x3 x4 x5 x6
    go_wp2_with fail
    (repeat rw [Exit.noGoto_ret])
    go_ret
    exact ⟨by rw [H.out]; rfl, (hs.belowStep hb).below⟩
   ·rw [hm] at HE
    have HM := Lib.hid hm
    clear hm
    by_cases hf : n ≤ x.f
    ·have H := Lib.hid (HNO.out (.inr (by simp [belowX]; omega)))
     clear HYES HNO
     obtain ⟨id, f, t, xx, we, u, hh⟩ := x
     have x0 := hc1 0 (by decide)
     have x1 := hc1 1 (by decide)
     have x2 := hc1 2 (by decide)
     have x3 := hc1 3 (by decide)
     have x4 := hc1 4 (by decide)
     have x5 := hc1 5 (by decide)
     have x6 := hc1 6 (by decide)
     simp only [duR, Nat.add_zero, List.getElem?_cons_zero, List.getElem?_cons_succ] at x0 x1 x2 x3 x4 x5 x6
     clear hc1
     (try dsimp only at hf)
     dsimp only [Du.val] at HE
     go_wp2_with fail
     refine HE.out.mono ?_
     rintro en w1 ⟨rfl, hb⟩
     clear HE x0 x1 x2 x3 x4 x5 x6
     replace hs := hs.belowStep hb
     clear hb
     obtain ⟨b1', o1', e1', _, hc2⟩ := (hs.rdG h).at i hlt
     injection e1' with e1'
     injection e1' with q3 q4
     subst q3
     subst q4
     rw [← HX.out] at hc2
     have x0 := hc2 0 (by decide)
     have x1 := hc2 1 (by decide)
     have x2 := hc2 2 (by decide)
     have x3 := hc2 3 (by decide)
     have x4 := hc2 4 (by decide)
     have x5 := hc2 5 (by decide)
     have x6 := hc2 6 (by decide)
     simp only [duR, Nat.add_zero, List.getElem?_cons_zero, List.getElem?_cons_succ] at x0 x1 x2 x3 x4 x5 x6
     clear hc2
     have d1 : decide (n ≤ f) = true := decide_eq_true (by omega)
     go_wp2_with fail
     (repeat rw [Exit.noGoto_ret])
     go_ret
     exact ⟨by rw [H.out]; rfl, hs.below⟩
    ·by_cases ht : n ≤ x.t
     ·have H := Lib.hid (HNO.out (.inr (by simp [belowX]; omega)))
      clear HYES HNO
      obtain ⟨id, f, t, xx, we, u, hh⟩ := x
      have x0 := hc1 0 (by decide)
      have x1 := hc1 1 (by decide)
      have x2 := hc1 2 (by decide)
      have x3 := hc1 3 (by decide)
      have x4 := hc1 4 (by decide)
      have x5 := hc1 5 (by decide)
      have x6 := hc1 6 (by decide)
      simp only [duR, Nat.add_zero, List.getElem?_cons_zero, List.getElem?_cons_succ] at x0 x1 x2 x3 x4 x5 x6
      clear hc1
      (try dsimp only at hf)
      dsimp only [Du.val] at HE
      go_wp2_with fail
      refine HE.out.mono ?_
      rintro en w1 ⟨rfl, hb⟩
      clear HE x0 x1 x2 x3 x4 x5 x6
      replace hs := hs.belowStep hb
      clear hb
      obtain ⟨b1', o1', e1', _, hc2⟩ := (hs.rdG h).at i hlt
      injection e1' with e1'
      injection e1' with q3 q4
      subst q3
      subst q4
      rw [← HX.out] at hc2
      have x0 := hc2 0 (by decide)
      have x1 := hc2 1 (by decide)
      have x2 := hc2 2 (by decide)
      have x3 := hc2 3 (by decide)
      have x4 := hc2 4 (by decide)
      have x5 := hc2 5 (by decide)
      have x6 := hc2 6 (by decide)
      simp only [duR, Nat.add_zero, List.getElem?_cons_zero, List.getElem?_cons_succ] at x0 x1 x2 x3 x4 x5 x6
      clear hc2
      (try dsimp only at ht)
      have d1 : decide (n ≤ f) = false := decide_eq_false (by omega)
      have d2 : decide (n ≤ t) = true := decide_eq_true (by omega)
      go_wp2_with fail
      (repeat rw [Exit.noGoto_ret])
      go_ret
      exact ⟨by rw [H.out]; rfl, hs.below⟩
     ·have HA2 := Lib.hid (HYES.out HM.out (by simp [belowX]; omega))
      clear HYES HNO
      obtain ⟨id, f, t, xx, we, u, hh⟩ := x
      have x0 := hc1 0 (by decide)
      have x1 := hc1 1 (by decide)
      have x2 := hc1 2 (by decide)
      have x3 := hc1 3 (by decide)
      have x4 := hc1 4 (by decide)
      have x5 := hc1 5 (by decide)
      have x6 := hc1 6 (by decide)
      simp only [duR, Nat.add_zero, List.getElem?_cons_zero, List.getElem?_cons_succ] at x0 x1 x2 x3 x4 x5 x6
      clear hc1
      (try dsimp only at hf)
      dsimp only [Du.val] at HE
      go_wp2_with fail
      refine HE.out.mono ?_
      rintro en w1 ⟨rfl, hb⟩
      clear HE x0 x1 x2 x3 x4 x5 x6
      replace hs := hs.belowStep hb
      clear hb
      obtain ⟨b1', o1', e1', _, hc2⟩ := (hs.rdG h).at i hlt
      injection e1' with e1'
      injection e1' with q3 q4
      subst q3
      subst q4
      rw [← HX.out] at hc2
      have x0 := hc2 0 (by decide)
      have x1 := hc2 1 (by decide)
      have x2 := hc2 2 (by decide)
      have x3 := hc2 3 (by decide)
      have x4 := hc2 4 (by decide)
      have x5 := hc2 5 (by decide)
      have x6 := hc2 6 (by decide)
      simp only [duR, Nat.add_zero, List.getElem?_cons_zero, List.getElem?_cons_succ] at x0 x1 x2 x3 x4 x5 x6
      clear hc2
      (try dsimp only at ht)
      have d1 : decide (n ≤ f) = false := decide_eq_false (by omega)
      have d2 : decide (n ≤ t) = false := decide_eq_false (by omega)
      go_wp2_with fail
      refine Round.intro (l.length - (i + 1)) ?measure9 (by kernel_rfl) (hJ1 _ _ _ ?rel9)
      case' rel9 => (try dsimp only [nthV])
      case measure9 => omega
      case rel9 => exact ⟨i + 1, by go_num, rfl, hlt, rfl, HA2, hs⟩
  ·obtain rfl : i = l.length := by omega
   have H := Lib.hid (show may29 n l = true by
    have h3 := HA.out
    rw [List.take_length] at h3
    have h4 := HL.out
    simp only [may29, allB, belowB, Bool.and_eq_true, decide_eq_true_eq, List.all_eq_true]
    exact ⟨⟨⟨by omega, by omega⟩, by omega, fun d hd => (h3 d hd).1⟩, fun d hd => (h3 d hd).2⟩)
   go_wp2_with fail
   (repeat rw [Exit.noGoto_ret])
   go_ret
   exact ⟨by rw [H.out]; rfl, hs.below⟩
end Go.Proofs.Ytjijhpflkkicaaa
