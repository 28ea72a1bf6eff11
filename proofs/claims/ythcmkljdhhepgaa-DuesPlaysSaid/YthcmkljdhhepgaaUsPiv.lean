/-
  choosePivotOrdered and its fellows at uint64, walked: they read only; a place of the range comes back.
-/
import Derived.Test.YthcmkljdhhepgaaUsT
set_option linter.unusedVariables false
set_option linter.unusedSimpArgs false
namespace Go.Proofs.Ythcmkljdhhepgaa
open Go Go.RowKit Go.Mem Go.Sort
attribute [local go_sem] Oper.semAt_some
section
variable {w0 w : World} {L : List Thing} {q g n c : Nat} {d : Array Int}
/-- What order2 answers: the two, either way. -/
def Two (a b i j : Nat) : Prop := (i = a ∧ j = b) ∨ (i = b ∧ j = a)
set_option maxRecDepth 100000 in
set_option maxHeartbeats 4000000 in
theorem order2_u {bs : Nat} {s : Int} (hs : Sep w0 w (cellsT bs #[.int .i64 s] 3 :: L)) (hq : L[q]? = some (uT g n c d)) (a b : Nat) (ha : a < d.size) (hb : b < d.size) (hs0 : 0 ≤ s) (hs1 : s ≤ 1000) (hsz : d.size ≤ 1000000) :
    Calls Try.prog 76 #[.slice (some ⟨g, 0, none⟩) n c, .int .i64 a, .int .i64 b, .pointer (some ⟨bs, 0, none⟩)] w fun en w' => ∃ (i j : Nat) (s' : Int), en = .returned (.tuple #[.int .i64 i, .int .i64 j]) ∧ Two a b i j ∧ 0 ≤ s' ∧ s' ≤ s + 1 ∧ Sep w0 w' (cellsT bs #[.int .i64 s'] 3 :: L) := by
  have hn := (uT_len hs (i := q + 1) hq).1
  have y1 := uT_cell hs (i := q + 1) hq ha
  have y2 := uT_cell hs (i := q + 1) hq hb
  obtain ⟨x1, hx1⟩ : ∃ x, x = d[a]! := ⟨_, rfl⟩
  obtain ⟨x2, hx2⟩ : ∃ x, x = d[b]! := ⟨_, rfl⟩
  rw [← hx1] at y1
  rw [← hx2] at y2
  obtain ⟨N, hN⟩ : ∃ N, N = d.size := ⟨_, rfl⟩
  rw [← hN] at hn ha hb hsz
  subst hn
  clear hN hx1 hx2
  have HS := Lib.hid hs
  obtain ⟨l, hl⟩ : ∃ l, l = ltInt x2 x1 := ⟨_, rfl⟩
  have HL := Lib.hid hl
  clear hs hl
  go_enter Try.func76, Try.ntmps76
  go_wp2_with fail
  refine Mix.region [0, 0, 0, 0, 0, 0, 0, 0, 2] (fun _ => True) (by kernel_rfl) (by kernel_rfl) trivial ?_
  simp only [List.zip_cons_cons, List.zip_nil_right]
  iterate 8 (refine Mix.step0 fun K hK => ?_; go_simp; (try (go_bits; try go_simp)); first | ((with_reducible refine hK _ _ ?_); clear hK K) | ((try (simp only [IntWalk.iteOmega]; try go_simp)); (try go_bits); (with_reducible refine hK _ _ ?_); clear hK K))
  refine Mix.step2n (by first | rfl | simp [Region.wanted, yielded]) fun K hK => ?_
  go_wp2_with fail
  refine (less_u x2 x1 _).mono ?_
  rintro en w2 ⟨rfl, rfl⟩
  rw [← HL.out]
  go_wp2_with fail
  refine Mix.post_mk (C := (fun _ => True)) trivial (hK _ _ ?_)
  clear hK K
  refine Mix.done ?_
  have hs := HS.out.drew
  clear y1 y2
  cases l
  · go_wp2_with fail
    go_ret2
    exact ⟨a, b, s, rfl, .inl ⟨rfl, rfl⟩, hs0, by omega, hs⟩
  · have y3 : World.cell? (World.drew _) ⟨bs, 0, none⟩ = some (.int .i64 s) := cell_of (hs.cells 0 rfl) 0
    have f3 := frozen_of (hs.cells 0 rfl) 0
    have hs2 := hs.setCells 0 rfl 0 (.int .i64 (s + 1)) _ rfl
    have HS2 := Lib.hid hs2
    clear hs hs2
    go_wp2_with fail
    go_ret2
    exact ⟨b, a, s + 1, rfl, .inr ⟨rfl, rfl⟩, by omega, by omega, HS2.out⟩
set_option maxRecDepth 100000 in
set_option maxHeartbeats 4000000 in
theorem median_u {bs : Nat} {s : Int} (hs : Sep w0 w (cellsT bs #[.int .i64 s] 3 :: L)) (hq : L[q]? = some (uT g n c d)) (x y z : Nat) (hx : x < d.size) (hy : y < d.size) (hz : z < d.size) (hs0 : 0 ≤ s) (hs1 : s ≤ 900) (hsz : d.size ≤ 1000000) :
    Calls Try.prog 74 #[.slice (some ⟨g, 0, none⟩) n c, .int .i64 x, .int .i64 y, .int .i64 z, .pointer (some ⟨bs, 0, none⟩)] w fun en w' => ∃ (i : Nat) (s' : Int), en = .returned (.int .i64 i) ∧ (i = x ∨ i = y ∨ i = z) ∧ 0 ≤ s' ∧ s' ≤ s + 3 ∧ Sep w0 w' (cellsT bs #[.int .i64 s'] 3 :: L) := by
  go_enter Try.func74, Try.ntmps74
  go_wp2_with fail
  refine (order2_u hs hq x y hx hy hs0 (by omega) hsz).mono ?_
  rintro en w1 ⟨i1, j1, s1, rfl, ht1, hp1, hb1, hs1'⟩
  have hi1 : i1 < d.size ∧ j1 < d.size := by rcases ht1 with ⟨h1, h2⟩ | ⟨h1, h2⟩ <;> omega
  clear hs
  go_wp2_with fail
  refine (order2_u hs1' hq j1 z hi1.2 hz hp1 (by omega) hsz).mono ?_
  rintro en w2 ⟨i2, j2, s2, rfl, ht2, hp2, hb2, hs2'⟩
  have hi2 : i2 < d.size ∧ j2 < d.size := by rcases ht2 with ⟨h1, h2⟩ | ⟨h1, h2⟩ <;> omega
  clear hs1'
  go_wp2_with fail
  refine (order2_u hs2' hq i1 i2 hi1.1 hi2.1 hp2 (by omega) hsz).mono ?_
  rintro en w3 ⟨i3, j3, s3, rfl, ht3, hp3, hb3, hs3'⟩
  go_wp2_with fail
  go_ret
  exact ⟨j3, s3, rfl, by rcases ht1 with ⟨h1, h2⟩ | ⟨h1, h2⟩ <;> rcases ht2 with ⟨h3, h4⟩ | ⟨h3, h4⟩ <;> rcases ht3 with ⟨h5, h6⟩ | ⟨h5, h6⟩ <;> omega, hp3, by omega, hs3'⟩
theorem median_i {bs : Nat} {s xi yi zi : Int} (hs : Sep w0 w (cellsT bs #[.int .i64 s] 3 :: L)) (hq : L[q]? = some (uT g n c d)) (x y z : Nat) (ex : xi = (x : Int)) (ey : yi = (y : Int)) (ez : zi = (z : Int)) (hx : x < d.size) (hy : y < d.size) (hz : z < d.size) (hs0 : 0 ≤ s) (hs1 : s ≤ 900) (hsz : d.size ≤ 1000000) :
    Calls Try.prog 74 #[.slice (some ⟨g, 0, none⟩) n c, .int .i64 xi, .int .i64 yi, .int .i64 zi, .pointer (some ⟨bs, 0, none⟩)] w fun en w' => ∃ (i : Nat) (s' : Int), en = .returned (.int .i64 i) ∧ (i = x ∨ i = y ∨ i = z) ∧ 0 ≤ s' ∧ s' ≤ s + 3 ∧ Sep w0 w' (cellsT bs #[.int .i64 s'] 3 :: L) := by
  subst ex ey ez
  exact median_u hs hq x y z hx hy hz hs0 hs1 hsz
set_option maxRecDepth 100000 in
set_option maxHeartbeats 4000000 in
theorem medianAdj_u {bs : Nat} {s : Int} (hs : Sep w0 w (cellsT bs #[.int .i64 s] 3 :: L)) (hq : L[q]? = some (uT g n c d)) (x : Nat) (hx0 : 1 ≤ x) (hx : x + 1 < d.size) (hs0 : 0 ≤ s) (hs1 : s ≤ 900) (hsz : d.size ≤ 1000000) :
    Calls Try.prog 73 #[.slice (some ⟨g, 0, none⟩) n c, .int .i64 x, .pointer (some ⟨bs, 0, none⟩)] w fun en w' => ∃ (i : Nat) (s' : Int), en = .returned (.int .i64 i) ∧ x - 1 ≤ i ∧ i ≤ x + 1 ∧ 0 ≤ s' ∧ s' ≤ s + 3 ∧ Sep w0 w' (cellsT bs #[.int .i64 s'] 3 :: L) := by
  go_enter Try.func73, Try.ntmps73
  go_wp2_with fail
  refine (median_i hs hq (x - 1) x (x + 1) (by omega) rfl (by omega) (by omega) (by omega) (by omega) hs0 hs1 hsz).mono ?_
  rintro en w1 ⟨i, s1, rfl, hi, hp, hb, hs2⟩
  go_wp2_with fail
  go_ret
  exact ⟨i, s1, rfl, by omega, by omega, hp, hb, hs2⟩
theorem medianAdj_i {bs : Nat} {s xi : Int} (hs : Sep w0 w (cellsT bs #[.int .i64 s] 3 :: L)) (hq : L[q]? = some (uT g n c d)) (x : Nat) (ex : xi = (x : Int)) (hx0 : 1 ≤ x) (hx : x + 1 < d.size) (hs0 : 0 ≤ s) (hs1 : s ≤ 900) (hsz : d.size ≤ 1000000) :
    Calls Try.prog 73 #[.slice (some ⟨g, 0, none⟩) n c, .int .i64 xi, .pointer (some ⟨bs, 0, none⟩)] w fun en w' => ∃ (i : Nat) (s' : Int), en = .returned (.int .i64 i) ∧ x - 1 ≤ i ∧ i ≤ x + 1 ∧ 0 ≤ s' ∧ s' ≤ s + 3 ∧ Sep w0 w' (cellsT bs #[.int .i64 s'] 3 :: L) := by
  subst ex
  exact medianAdj_u hs hq x hx0 hx hs0 hs1 hsz
set_option maxRecDepth 100000 in
set_option maxHeartbeats 4000000 in
theorem pivot_u (hs : Sep w0 w L) (hq : L[q]? = some (uT g n c d)) (a b : Nat) (hab : a < b) (hb : b ≤ d.size) (hsz : d.size ≤ 1000000) :
    Calls Try.prog 62 #[.slice (some ⟨g, 0, none⟩) n c, .int .i64 a, .int .i64 b] w fun en w' => ∃ (i : Nat) (h : Int), en = .returned (.tuple #[.int .i64 i, .int .i64 h]) ∧ a ≤ i ∧ i < b ∧ Sep w0 w' L := by
  obtain ⟨l, rfl⟩ : ∃ l, b = a + l := ⟨b - a, by omega⟩
  obtain ⟨t, ht⟩ : ∃ t, t = l / 4 := ⟨_, rfl⟩
  have ht4 : t * 4 ≤ l := by omega
  have eb : ((a + l : Nat) : Int) - (a : Int) = (l : Int) := by omega
  have et : (l : Int) / 4 = (t : Int) := by omega
  have hs1 : Sep w0 (w.alloc (.cells #[.int .i64 0] 3)) (cellsT w.heap.size #[.int .i64 0] 3 :: L) := hs.newCells _ _
  have HT := Lib.hid ht
  have hl0 : l ≤ 1000000 := by omega
  have ha0 : a ≤ 1000000 := by omega
  have hc : ∀ (W : World) (s : Int), Sep w0 W (cellsT w.heap.size #[.int .i64 s] 3 :: L) → W.cell? ⟨w.heap.size, 0, none⟩ = some (.int .i64 s) := fun _ _ h => cell_of (h.cells 0 rfl) 0
  have HC := Lib.hid hc
  clear hs ht hc
  have hE : ∀ (s : Int), s = 0 ∨ ¬ s = 0 := fun s => by omega
  by_cases h8 : 8 ≤ l
  · have h8I : (8 : Int) ≤ (l : Int) := by omega
    have hml : a + t * 3 < a + l := by omega
    by_cases h50 : 50 ≤ l
    · have h50I : (50 : Int) ≤ (l : Int) := by omega
      go_enter Try.func62, Try.ntmps62
      go_wp2_with fail
      refine (medianAdj_i hs1 hq (a + t) (by omega) (by omega) (by omega) (by omega) (by omega) hsz).mono ?_
      rintro en w1 ⟨i1, s1, rfl, hi1, hi2, hp1, hb1, hs2⟩
      clear hs1
      go_wp2_with fail
      refine (medianAdj_i hs2 hq (a + t * 2) (by omega) (by omega) (by omega) (by omega) (by omega) hsz).mono ?_
      rintro en w2 ⟨i2, s2, rfl, hj1, hj2, hp2, hb2, hs3⟩
      clear hs2
      go_wp2_with fail
      refine (medianAdj_i hs3 hq (a + t * 3) (by omega) (by omega) (by omega) (by omega) (by omega) hsz).mono ?_
      rintro en w3 ⟨i3, s3, rfl, hk1, hk2, hp3, hb3, hs4⟩
      clear hs3
      go_wp2_with fail
      refine (median_i hs4 hq i1 i2 i3 rfl rfl rfl (by omega) (by omega) (by omega) (by omega) (by omega) hsz).mono ?_
      rintro en w4 ⟨p, s, rfl, hp, hp0, hb0, hs5⟩
      have hc := HC.out _ _ hs5
      have HS := Lib.hid hs5
      have hpp : a ≤ p ∧ p < a + l := by omega
      clear hs4 hs5 hp hi1 hi2 hj1 hj2 hk1 hk2
      go_wp2_with fail
      all_goals (go_ret2; exact ⟨p, _, rfl, hpp.1, hpp.2, HS.out.tail⟩)
    · have h50I : ¬ (50 : Int) ≤ (l : Int) := by omega
      go_enter Try.func62, Try.ntmps62
      go_wp2_with fail
      refine (median_i hs1 hq (a + t) (a + t * 2) (a + t * 3) (by omega) (by omega) (by omega) (by omega) (by omega) (by omega) (by omega) (by omega) hsz).mono ?_
      rintro en w4 ⟨p, s, rfl, hp, hp0, hb0, hs5⟩
      have hc := HC.out _ _ hs5
      have HS := Lib.hid hs5
      have hpp : a ≤ p ∧ p < a + l := by omega
      clear hs1 hs5 hp
      go_wp2_with fail
      all_goals (go_ret2; exact ⟨p, _, rfl, hpp.1, hpp.2, HS.out.tail⟩)
  · have h8I : ¬ (8 : Int) ≤ (l : Int) := by omega
    go_enter Try.func62, Try.ntmps62
    have hpp : a ≤ a + t * 2 ∧ a + t * 2 < a + l := by omega
    have HS := Lib.hid hs1
    clear hs1
    go_wp2_with fail
    all_goals (go_ret2; exact ⟨a + t * 2, by go_num, hpp.1, hpp.2, HS.out.tail⟩)
end
end Go.Proofs.Ythcmkljdhhepgaa
