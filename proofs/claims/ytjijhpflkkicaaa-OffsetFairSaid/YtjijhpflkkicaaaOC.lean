/-
 Pays and what is left, and their reference: plain, walked.
-/
import Derived.Test.YtjijhpflkkicaaaOB
set_option linter.unusedVariables false
set_option linter.unusedSimpArgs false
namespace Go.OffP
open Go Go.Mem Go.MoneyP Go.BuildP
def both (O : List Du) (a b : Nat) : Int := min (owesS O a b) (owesS O b a)
/-- What may be paid between each two: up to row a, column b. -/
def leftI (n : Nat) (O : List Du) (a b : Nat) : List Int := (List.range 256).map fun k => if k / 16 < n ∧ k % 16 < n ∧ (k / 16 < a ∨ k / 16 = a ∧ k % 16 < b) then both O (k / 16) (k % 16) else 0
theorem leftI_len (n : Nat) (O : List Du) (a b : Nat) : (leftI n O a b).length = 256 := by unfold leftI; rw [List.length_map, List.length_range]
theorem leftI_at {n : Nat} {O : List Du} {a b k : Nat} (hk : k < 256) : (leftI n O a b).getD k 0 = if k / 16 < n ∧ k % 16 < n ∧ (k / 16 < a ∨ k / 16 = a ∧ k % 16 < b) then both O (k / 16) (k % 16) else 0 := by
 unfold leftI
 rw [List.getD_eq_getElem?_getD, List.getElem?_map, List.getElem?_range hk]; rfl
theorem list_getD {A B : List Int} (hl : A.length = B.length) (h : ∀ k, k < B.length → A.getD k 0 = B.getD k 0) : A = B := by
 refine List.ext_getElem hl fun k h1 h2 => ?_
 have := h k h2
 rwa [List.getD_eq_getElem?_getD, List.getD_eq_getElem?_getD, List.getElem?_eq_getElem h1, List.getElem?_eq_getElem h2] at this
theorem leftI_start (n : Nat) (O : List Du) : leftI n O 0 0 = zero256 := by
 refine list_getD (by rw [leftI_len, zero_len]) fun k hk => ?_
 rw [zero_len] at hk
 rw [leftI_at hk, if_neg (by omega)]
 unfold zero256
 rw [List.getD_eq_getElem?_getD, List.getElem?_replicate, if_pos hk]; rfl
theorem leftI_step {n : Nat} {O : List Du} {a b : Nat} (ha : a < n) (hb : b < n) (hn : n ≤ 16) : (leftI n O a b).set (a * 16 + b) (both O a b) = leftI n O a (b + 1) := by
 refine list_getD (by rw [List.length_set, leftI_len, leftI_len]) fun k hk => ?_
 rw [leftI_len] at hk
 rw [getD_set _ _ _ _ (by rw [leftI_len]; omega), leftI_at hk, leftI_at hk]
 by_cases e : a * 16 + b = k
 ·rw [if_pos e, if_pos (by omega), show k / 16 = a by omega, show k % 16 = b by omega]
 ·rw [if_neg e]
  by_cases q : k / 16 < n ∧ k % 16 < n ∧ (k / 16 < a ∨ k / 16 = a ∧ k % 16 < b)
  ·rw [if_pos q, if_pos (by omega)]
  ·rw [if_neg q, if_neg (by omega)]
theorem leftI_next {n : Nat} {O : List Du} {a : Nat} : leftI n O a n = leftI n O (a + 1) 0 := by
 refine list_getD (by rw [leftI_len, leftI_len]) fun k hk => ?_
 rw [leftI_len] at hk
 rw [leftI_at hk, leftI_at hk]
 by_cases q : k / 16 < n ∧ k % 16 < n ∧ (k / 16 < a ∨ k / 16 = a ∧ k % 16 < n)
 ·rw [if_pos q, if_pos (by omega)]
 ·rw [if_neg q, if_neg (by omega)]
/-- One pay. -/
def payX (Z : List Int) (d : Du) : Int := min (Z.getD (d.f.toNat * 16 + d.t.toNat) 0) d.x
def payZ (Z : List Int) (d : Du) : List Int := Z.set (d.f.toNat * 16 + d.t.toNat) (Z.getD (d.f.toNat * 16 + d.t.toNat) 0 - payX Z d)
def leftZ (n : Nat) (O : List Du) (i : Nat) : List Int := (O.take i).foldl payZ (leftI n O n 0)
def paysL (n : Nat) (O : List Du) : List Int := (List.range O.length).map fun i => payX (leftZ n O i) (O.getD i default)
theorem payZ_len (Z : List Int) (d : Du) : (payZ Z d).length = Z.length := by simp [payZ]
theorem foldZ_len : ∀ (O : List Du) (Z : List Int), (O.foldl payZ Z).length = Z.length
 | [], _ => rfl
 | d :: O, Z => by rw [List.foldl_cons, foldZ_len O, payZ_len]
theorem leftZ_len (n : Nat) (O : List Du) (i : Nat) : (leftZ n O i).length = 256 := by unfold leftZ; rw [foldZ_len, leftI_len]
theorem leftZ_succ {n : Nat} {O : List Du} {i : Nat} (h : i < O.length) : leftZ n O (i + 1) = payZ (leftZ n O i) O[i] := by
 unfold leftZ; rw [List.take_succ_eq_append_getElem h, List.foldl_append]; rfl
theorem paysL_len (n : Nat) (O : List Du) : (paysL n O).length = O.length := by simp [paysL]
theorem paysL_at {n : Nat} {O : List Du} {i : Nat} (h : i < O.length) : (paysL n O).getD i 0 = payX (leftZ n O i) O[i] := by
 unfold paysL
 rw [List.getD_eq_getElem?_getD, List.getElem?_map, List.getElem?_range h]
 simp [h]
theorem both_bound {O : List Du} (h : ∀ d ∈ O, 1 ≤ d.x) (a b : Nat) : 0 ≤ both O a b ∧ both O a b ≤ sumX O := by
 have h1 := owes_bound O h a b
 have h2 := owes_bound O h b a
 unfold both
 omega
/-- What is left is never below 0. -/
theorem leftZ_bound {n : Nat} {O : List Du} (h : ∀ d ∈ O, 1 ≤ d.x) : ∀ i, i ≤ O.length → ∀ k, 0 ≤ (leftZ n O i).getD k 0 ∧ (leftZ n O i).getD k 0 ≤ sumX O
 | 0, _, k => by
  have h0 := sumX_nonneg O h
  show 0 ≤ (leftI n O n 0).getD k 0 ∧ (leftI n O n 0).getD k 0 ≤ sumX O
  rcases Nat.lt_or_ge k 256 with hk | hk
  ·rw [leftI_at hk]
   split
   ·exact both_bound h _ _
   ·omega
  ·rw [List.getD_eq_getElem?_getD, List.getElem?_eq_none (by rw [leftI_len]; exact hk)]
   simpa using h0
 | i + 1, hi, k => by
  have ih := leftZ_bound (n := n) h i (by omega)
  have hd := h _ (List.getElem_mem (show i < O.length by omega))
  rw [leftZ_succ (by omega)]
  unfold payZ
  rcases Nat.lt_or_ge ((O[i]).f.toNat * 16 + (O[i]).t.toNat) 256 with hk | hk
  ·rw [getD_set _ _ _ _ (by rw [leftZ_len]; exact hk)]
   split
   ·have := ih ((O[i]).f.toNat * 16 + (O[i]).t.toNat)
    unfold payX
    omega
   ·exact ih k
  ·rw [List.set_eq_of_length_le (by rw [leftZ_len]; exact hk)]
   exact ih k
theorem put_next {P : List Int} {n i : Nat} (hl : P.length = n) (hi : i < n) : (P.take i ++ List.replicate (n - i) 0).set i (P.getD i 0) = P.take (i + 1) ++ List.replicate (n - (i + 1)) 0 := by
 have h1 : (P.take i).length = i := by rw [List.length_take]; omega
 rw [List.set_append_right _ _ (by omega), h1, Nat.sub_self, show n - i = n - (i + 1) + 1 by omega, List.replicate_succ, List.set_cons_zero, List.take_succ_eq_append_getElem (by omega : i < P.length), List.append_assoc]
 congr 2
 simp [show i < P.length by omega]
/-- The reference goes through the pairs: what is paid up to the pair (a, b), due i. -/
def doneP (O : List Du) (a b i j : Nat) : Bool := decide ((O.getD j default).f < (a : Int)) || (decide ((O.getD j default).f = (a : Int)) && (decide ((O.getD j default).t < (b : Int)) || (decide ((O.getD j default).t = (b : Int)) && decide (j < i))))
def refY (n : Nat) (O : List Du) (a b i : Nat) : List Int := (List.range O.length).map fun j => if doneP O a b i j = true then (paysL n O).getD j 0 else 0
section
variable {n : Nat} {O : List Du} (hO : ∀ d ∈ O, MayD d ∧ d.f < n ∧ d.t < n)
include hO
omit hO in
omit hO in
omit hO in
theorem left_first {a b : Nat} (ha : a < n) (hb : b < n) (hn : n ≤ 16) : (leftZ n O 0).getD (a * 16 + b) 0 = both O a b := by
 show (leftI n O n 0).getD (a * 16 + b) 0 = _
 rw [leftI_at (by omega), if_pos (by omega), show (a * 16 + b) / 16 = a by omega, show (a * 16 + b) % 16 = b by omega]
theorem left_skip {a b i : Nat} (hb : b < n) (hn : n ≤ 16) (hi : i < O.length) (hp : ¬ ((O[i]).f = (a : Int) ∧ (O[i]).t = (b : Int))) : (leftZ n O (i + 1)).getD (a * 16 + b) 0 = (leftZ n O i).getD (a * 16 + b) 0 := by
 obtain ⟨h1, h2, h3⟩ := hO _ (List.getElem_mem hi)
 have := h1.f0
 have := h1.t0
 rw [leftZ_succ hi]
 unfold payZ
 rw [getD_set _ _ _ _ (by rw [leftZ_len]; omega), if_neg (by omega)]
theorem left_put {a b i : Nat} (hn : n ≤ 16) (hi : i < O.length) (h1 : (O[i]).f = (a : Int)) (h2 : (O[i]).t = (b : Int)) :
  (paysL n O).getD i 0 = min ((leftZ n O i).getD (a * 16 + b) 0) (O[i]).x ∧ (leftZ n O (i + 1)).getD (a * 16 + b) 0 = (leftZ n O i).getD (a * 16 + b) 0 - (paysL n O).getD i 0 := by
 obtain ⟨g1, g2, g3⟩ := hO _ (List.getElem_mem hi)
 have e : (O[i]).f.toNat * 16 + (O[i]).t.toNat = a * 16 + b := by rw [h1, h2, Int.toNat_natCast, Int.toNat_natCast]
 have hx : (paysL n O).getD i 0 = min ((leftZ n O i).getD (a * 16 + b) 0) (O[i]).x := by rw [paysL_at hi]; unfold payX; rw [e]
 refine ⟨hx, ?_⟩
 rw [leftZ_succ hi, hx]
 unfold payZ payX
 rw [e, getD_set _ _ _ _ (by rw [leftZ_len]; have := g1.f0; have := g1.t0; omega), if_pos rfl]
end
end Go.OffP
namespace Go.OffP
open Go Go.Mem Go.MoneyP Go.BuildP
/-- How many open dues there are ahead of due i. -/
def posO (l : List Du) (i : Nat) : Nat := (openL (l.take i)).length
def cutD (d : Du) (p : Int) : Du := { d with x := d.x - p }
def leftD (d : Du) (p : Int) : List Du := if d.h = true then [d] else if 0 < d.x - p then [cutD d p] else []
def leftO (l : List Du) (ps : List Int) : Nat → List Du
 | 0 => []
 | i + 1 => leftO l ps i ++ leftD (l.getD i default) (ps.getD (posO l i) 0)
def okD (d : Du) (p : Int) : Bool := d.h || decide (p ≤ d.x)
def okO (l : List Du) (ps : List Int) : Nat → Bool
 | 0 => true
 | i + 1 => okO l ps i && okD (l.getD i default) (ps.getD (posO l i) 0)
def leftE (l : List Du) (ps : List Int) : Int :=
 if (openL l).length ≠ ps.length then 1 else if ps.any (fun p => decide (p < 0)) = true then 1 else if okO l ps l.length = true then 0 else 12
def leftL (l : List Du) (ps : List Int) : List Du := leftO l ps l.length
theorem leftO_succ (l : List Du) (ps : List Int) (i : Nat) : leftO l ps (i + 1) = leftO l ps i ++ leftD (l.getD i default) (ps.getD (posO l i) 0) := rfl
theorem okO_succ (l : List Du) (ps : List Int) (i : Nat) : okO l ps (i + 1) = (okO l ps i && okD (l.getD i default) (ps.getD (posO l i) 0)) := rfl
theorem okO_stop {l : List Du} {ps : List Int} {i : Nat} (h : okO l ps i = false) : ∀ k, i ≤ k → okO l ps k = false
 | 0, hk => by
  obtain rfl : i = 0 := by omega
  exact h
 | k + 1, hk => by
  rcases Nat.lt_or_ge k i with q | q
  ·obtain rfl : i = k + 1 := by omega
   exact h
  ·rw [okO_succ, okO_stop h k q]; rfl
theorem posO_succ {l : List Du} {i : Nat} (h : i < l.length) : posO l (i + 1) = posO l i + if (l[i]).h = true then 0 else 1 := by
 unfold posO openL
 rw [List.take_succ_eq_append_getElem h, List.filter_append, List.length_append]
 cases q : (l[i]).h <;> simp [q]
theorem posO_le (l : List Du) (i : Nat) : posO l i ≤ (openL l).length := by
 unfold posO openL
 have : l.filter (fun d => !d.h) = (l.take i).filter (fun d => !d.h) ++ (l.drop i).filter (fun d => !d.h) := by rw [← List.filter_append, List.take_append_drop]
 rw [this, List.length_append]; omega
theorem posO_lt {l : List Du} {i : Nat} (h : i < l.length) (hh : (l[i]).h = false) : posO l i < (openL l).length := by
 have h1 := posO_succ h
 have h2 := posO_le l (i + 1)
 rw [hh] at h1
 simp at h1
 omega
theorem leftO_len (l : List Du) (ps : List Int) : ∀ i, (leftO l ps i).length ≤ i
 | 0 => Nat.le_refl _
 | i + 1 => by
  have ih := leftO_len l ps i
  rw [leftO_succ, List.length_append]
  have : (leftD (l.getD i default) (ps.getD (posO l i) 0)).length ≤ 1 := by
   unfold leftD; split
   ·simp
   ·split <;> simp
  omega
theorem drop_getD {ps : List Int} {k : Nat} : (ps.drop k).getD 0 0 = ps.getD k 0 := by
 simp [List.getD_eq_getElem?_getD]
end Go.OffP
namespace Go.Proofs.Ytjijhpflkkicaaa
open Go Go.RowKit Go.Mem Go.MoneyP Go.NetP Go.BuildP Go.OffP Go.Shelf
theorem ent_pays1 : Enters Try.prog 29 := enters_of Try.func29 (by kernel_rfl) rfl
set_option maxRecDepth 100000 in
set_option maxHeartbeats 2000000 in
theorem pays1_any {w0 w : World} {L : List Thing} (hs : Sep w0 w L) (q B : Nat) (Z : List Int) (d : Du) (hq : L[q]? = some (tabT .i64 B 65 Z)) (hm : MayD d) (hZ : Z.length = 256) (hb : ∀ k, 0 ≤ Z.getD k 0 ∧ Z.getD k 0 ≤ 4503599627370496) :
  Calls Try.prog 29 #[d.val, .pointer (some ⟨B, 0, none⟩)] w fun en w' => en = .returned (.int .i64 (payX Z d)) ∧ Sep w0 w' (L.set q (tabT .i64 B 65 (payZ Z d))) := by
 obtain ⟨id, f, t, x, we, u, hh⟩ := d
 obtain ⟨hf0, hf1, ht0, ht1, hne, hx0, hx1, _, _, _⟩ := hm
 dsimp only [Du.val] at hf0 hf1 ht0 ht1 hne hx0 hx1 ⊢
 obtain ⟨F, rfl⟩ : ∃ F : Nat, f = F := ⟨f.toNat, by omega⟩
 obtain ⟨T, rfl⟩ : ∃ T : Nat, t = T := ⟨t.toNat, by omega⟩
 have hF : F < 16 := by omega
 have hT : T < 16 := by omega
 have HP := Lib.hid (show payX Z ⟨id, F, T, x, we, u, hh⟩ = min (Z.getD (F * 16 + T) 0) x by unfold payX; dsimp only; rw [Int.toNat_natCast, Int.toNat_natCast])
 have HZ := Lib.hid (show payZ Z ⟨id, F, T, x, we, u, hh⟩ = Z.set (F * 16 + T) (Z.getD (F * 16 + T) 0 - min (Z.getD (F * 16 + T) 0) x) by unfold payZ; rw [HP.out]; dsimp only; rw [Int.toNat_natCast, Int.toNat_natCast])
 have hqlt : q < L.length := (List.getElem?_eq_some_iff.1 hq).1
 have hq1 : ∀ A : Thing, (A :: L)[q + 1]? = some (tabT .i64 B 65 Z) := fun A => by rw [List.getElem?_cons_succ]; exact hq
 have HQ := Lib.hid hq1
 replace hs := hs.newCells #[.int .u64 id, .int .i64 F, .int .i64 T, .int .i64 x, .int .i64 we, .int .i64 u, .bool hh] 44
 obtain ⟨BX, hB⟩ : ∃ BX, BX = w.heap.size := ⟨_, rfl⟩
 rw [← hB] at hs
 obtain ⟨z0, z1⟩ := hb (F * 16 + T)
 obtain ⟨X, hX⟩ : ∃ X, X = Z.getD (F * 16 + T) 0 := ⟨_, rfl⟩
 have HX := Lib.hid hX
 rw [← hX] at z0 z1 HP HZ
 clear hX hq hq1 hqlt hb
 go_enter Try.func29, Try.ntmps29
 go_upto_region 1 with fail
 rw [← hB]
 clear hB
 generalize World.alloc w _ = W1 at hs ⊢
 have x0 := cell_of (hs.cells 0 rfl) 0
 have x1 := cell_of (hs.cells 0 rfl) 1
 have x2 := cell_of (hs.cells 0 rfl) 2
 have x3 := cell_of (hs.cells 0 rfl) 3
 have x4 := cell_of (hs.cells 0 rfl) 4
 have x5 := cell_of (hs.cells 0 rfl) 5
 have x6 := cell_of (hs.cells 0 rfl) 6
 simp only [List.getElem?_toArray, List.getElem?_cons_zero, List.getElem?_cons_succ] at x0 x1 x2 x3 x4 x5 x6
 obtain ⟨r0, rf⟩ := hs.tabAt (q + 1) (HQ.out _) (F * 16 + T) (by omega)
 rw [← HX.out] at r0
 refine Mix.region [0, 0, 0, 0, 0, 0, 0, 0, 0, 0, 0] (fun _ => True) (by kernel_rfl) (by kernel_rfl) trivial ?_
 simp only [List.zip_cons_cons, List.zip_nil_right]
 iterate 11 (refine Mix.step0 fun K hK => ?_; go_simp; (try (go_bits; try go_simp)); first | ((with_reducible refine hK _ _ ?_); clear hK K) | ((try (simp only [IntWalk.iteOmega]; try go_simp)); (try go_bits); (with_reducible refine hK _ _ ?_); clear hK K))
 refine Mix.done ?_
 replace hs := hs.drew
 clear x0 x1 x2 x3 x4 x5 x6 r0 rf
 obtain ⟨Mn, hMn⟩ : ∃ Mn, Mn = min X x := ⟨_, rfl⟩
 have hm0 : 0 ≤ Mn ∧ Mn ≤ X := by omega
 obtain ⟨m0, m1⟩ := hm0
 rw [show (if x < X then x else X) = Mn by rw [hMn]; split <;> omega]
 have HM := Lib.hid hMn
 clear hMn
 go_upto_region 2 with fail
 generalize World.drew W1 = W2 at hs ⊢
 have x0 := cell_of (hs.cells 0 rfl) 0
 have x1 := cell_of (hs.cells 0 rfl) 1
 have x2 := cell_of (hs.cells 0 rfl) 2
 have x3 := cell_of (hs.cells 0 rfl) 3
 have x4 := cell_of (hs.cells 0 rfl) 4
 have x5 := cell_of (hs.cells 0 rfl) 5
 have x6 := cell_of (hs.cells 0 rfl) 6
 simp only [List.getElem?_toArray, List.getElem?_cons_zero, List.getElem?_cons_succ] at x0 x1 x2 x3 x4 x5 x6
 obtain ⟨r0, rf⟩ := hs.tabAt (q + 1) (HQ.out _) (F * 16 + T) (by omega)
 rw [← HX.out] at r0
 refine Mix.region [0, 0, 0, 0, 0, 0, 0, 0, 0, 0, 0, 2] (fun _ => True) (by kernel_rfl) (by kernel_rfl) trivial ?_
 simp only [List.zip_cons_cons, List.zip_nil_right]
 iterate 11 (refine Mix.step0 fun K hK => ?_; go_simp; (try (go_bits; try go_simp)); first | ((with_reducible refine hK _ _ ?_); clear hK K) | ((try (simp only [IntWalk.iteOmega]; try go_simp)); (try go_bits); (with_reducible refine hK _ _ ?_); clear hK K))
 refine Mix.step2n (by first | rfl | simp [Region.wanted, yielded]) fun K hK => ?_
 go_wp2_with fail
 refine Mix.post_mk (C := (fun _ => True)) trivial (hK _ _ ?_)
 clear hK K
 refine Mix.done ?_
 have hs2 := (hs.tabSet (q + 1) (HQ.out _) (F * 16 + T) (X - Mn)).drew
 rw [List.set_cons_succ, HM.out] at hs2
 rw [HM.out]
 clear hs
 go_wp2_with fail
 go_ret
 exact ⟨by rw [HP.out]; rfl, by rw [HZ.out]; exact hs2.tail⟩
/-- What Pays answers. -/
def PaysD (n : Int) (l : List Du) (w : World) (en : Ending) (w' : World) : Prop :=
 (netsE n l ≠ 0 ∧ en = .returned (.tuple #[.slice none 0 0, .int .i64 (netsE n l)]) ∧ Below w.heap.size w w') ∨
 (netsE n l = 0 ∧ ∃ v, en = .returned (.tuple #[v, .int .i64 0]) ∧ Sep w w' [intsT .i64 2 v (paysL n.toNat (openL l))])
set_option maxRecDepth 100000 in
set_option maxHeartbeats 4000000 in
theorem opays_any (n : Int) (l : List Du) (vl : Value) (w : World) (h : RdG duR w vl l) :
  Calls Try.prog 10 #[.int .i64 n, vl] w fun en w' => PaysD n l w en w' := by
 obtain ⟨i0, hi0, hz0, hz1, hz2⟩ := info_parts Try.infoI64o
 have HOF := Lib.hid (of_any n l vl w h)
 have hen := fun W args => ent_pays1 W args
 go_enter Try.func10, Try.ntmps10
 go_wp2_with fail
 refine HOF.out.mono ?_
 clear HOF
 rintro en w1 (⟨hne, rfl, hb⟩ | ⟨he, rfl, hb⟩)
 ·have hs := (Sep.start w).belowStep hb
  clear hb
  have HNE := Lib.hid hne
  have d0 : (netsE n l != 0) = true := by simpa using hne
  obtain ⟨EE, hEE⟩ : ∃ EE, EE = netsE n l := ⟨_, rfl⟩
  rw [← hEE] at d0 ⊢
  have HEE := Lib.hid hEE
  clear hne hEE
  replace hs := hs.newCells Try.zeroCells65 65
  obtain ⟨B6, hB⟩ : ∃ B6, B6 = w1.heap.size := ⟨_, rfl⟩
  rw [← hB] at hs
  have HB := Lib.hid hB
  clear hB
  go_wp2_with (refine wpList_store_mid rfl 65 (.tmp 6) (.tmp 20) rfl B6 0 (tabV .i64 zero256).toArray (by rw [HB.out]; rfl) rfl ?hta ?hia (tabV_one _ _) (Stop.out ?nxa))
  case hta =>
   have := there_of (hs.cells 0 rfl)
   rw [Try.zeros65] at this ⊢
   simp only [List.size_toArray, tabV_len, zero_len, zero_len] at this ⊢
   exact this
  case hia => rw [Try.size65]; simp only [List.size_toArray, tabV_len, zero_len]
  refine Stop.mk ?_
  rw [Try.zeros65, ← HB.out]
  rw [Try.zeros65] at hs
  clear HB
  generalize World.alloc w1 _ = W1 at hs ⊢
  have hs2 := hs.tabStore (Z := zero256) 0 rfl (by simp only [zero_len, zero_len])
  (try simp only [List.set_cons_zero] at hs2)
  clear hs
  generalize World.setCells W1 _ _ _ = W2 at hs2 ⊢
  have hs := hs2
  clear hs2
  go_wp2_with fail
  (repeat rw [Exit.noGoto_ret])
  go_ret2
  exact .inl ⟨HNE.out, by rw [HEE.out]; rfl, hs.below⟩
 ·have HE := Lib.hid he
  obtain ⟨N, rfl, hgood⟩ := netsE_good he
  have hs := (Sep.start w).belowStep hb
  have hN16 := hgood.n16
  have hl64 := hgood.len
  have HMAY := Lib.hid (show ∀ d ∈ openL l, MayD d from fun d hd => hgood.may d (open_mem hd))
  have HSO := Lib.hid (show sumX (openL l) ≤ 4503599627370496 by
   have h1 := sum_open l fun d hd => (hgood.may d hd).x0
   have h2 := hgood.sum
   omega)
  have hol : (openL l).length ≤ 64 := by have := open_le l; omega
  clear he hgood hb
  obtain ⟨O, hO⟩ : ∃ O, O = openL l := ⟨_, rfl⟩
  obtain ⟨Z, hZ⟩ : ∃ Z, Z = tabL (openL l) := ⟨_, rfl⟩
  rw [← hZ]
  rw [← hO] at HMAY HSO hol
  have HZL := Lib.hid (show Z.length = 256 by rw [hZ]; exact tabL_len _)
  have HZA := Lib.hid (show ∀ a b, a < 16 → b < 16 → Z.getD (a * 16 + b) 0 = owesS O a b from fun a b ha hb => by rw [hZ, ← hO]; exact tabL_at ha hb HMAY.out)
  have HO := Lib.hid hO
  clear hO hZ
  have HOB := Lib.hid (fun a b => owes_bound O (fun d hd => (HMAY.out d hd).x0) a b)
  replace hs := hs.newCells Try.zeroCells65 65
  obtain ⟨B6, hB⟩ : ∃ B6, B6 = w1.heap.size := ⟨_, rfl⟩
  rw [← hB] at hs
  have HB := Lib.hid hB
  clear hB
  go_wp2_with (refine wpList_store_mid rfl 65 (.tmp 6) (.tmp 20) rfl B6 0 (tabV .i64 Z).toArray (by rw [HB.out]; rfl) rfl ?htb ?hib (tabV_one _ _) (Stop.out ?nxb))
  case htb =>
   have := there_of (hs.cells 0 rfl)
   rw [Try.zeros65] at this ⊢
   simp only [List.size_toArray, tabV_len, zero_len, HZL.out] at this ⊢
   exact this
  case hib => rw [Try.size65]; simp only [List.size_toArray, tabV_len, HZL.out]
  refine Stop.mk ?_
  rw [Try.zeros65, ← HB.out]
  rw [Try.zeros65] at hs
  clear HB
  generalize World.alloc w1 _ = W1 at hs ⊢
  have hs2 := hs.tabStore (Z := Z) 0 rfl (by simp only [zero_len, HZL.out])
  (try simp only [List.set_cons_zero] at hs2)
  clear hs
  generalize World.setCells W1 _ _ _ = W2 at hs2 ⊢
  have hs := hs2
  clear hs2
  go_upto_region 5 with fail
  replace hs := hs.newCells Try.zeroCells65 65
  obtain ⟨B8, hB8⟩ : ∃ B8, B8 = W2.heap.size := ⟨_, rfl⟩
  rw [← hB8] at hs ⊢
  clear hB8
  rw [Try.zeros65] at hs ⊢
  generalize World.alloc W2 _ = W3 at hs ⊢
  go_wp2_with fail
  refine wp_loopM [none, none, none, none, none, none, none, none, none, some 9, some 10, none, none, none, none, none, none, none, none, none, none, none, none, none, none, none, some 26, some 27, some 28, some 29, some 30, some 31, some 32, some 33, some 34, some 35, some 36, some 37, some 38, some 39, some 40, some 41, some 42, some 43, some 44, some 45, some 46, some 47, some 48, some 49, none, none, none, none, none, none, none, none, none, none, none, none, none, none, none, none, none, none, none, none, none] (fun (r : Nat) (f : Nat → Value) (wr : World) => (fun (v : Value) => ∃ (i : Nat), v = .int .i64 i ∧ i ≤ N ∧ r = N - i ∧ Sep w wr [tabT .i64 B8 65 (leftI N O i 0), tabT .i64 B6 65 Z]) (f 26)) (N) (by kernel_rfl) ?atStart1 ?round1
  case' atStart1 => (try dsimp only [nthV])
  case' round1 =>
   intro gk f wr l hl hrel J1 K1 hJ1 hK1
   (try simp only [mask] at hl)
   generalize f 26 = u26 at hl hrel
   subst hl
   (try dsimp only at hrel)
  case atStart1 => exact ⟨0, rfl, Nat.zero_le _, rfl, by rw [leftI_start]; exact hs⟩
  case round1 =>
   clear hs
   obtain ⟨i, rfl, hi, rfl, hs⟩ := hrel
   by_cases hlt : i < N
   ·have hiI : (i : Int) < N := by omega
    go_wp2_with fail
    refine wp_loopM [none, none, none, none, none, none, none, none, none, none, some 10, none, none, none, none, none, none, none, none, none, none, none, none, none, none, none, none, none, none, none, some 30, some 31, some 32, some 33, some 34, some 35, some 36, some 37, some 38, some 39, some 40, some 41, some 42, some 43, some 44, some 45, some 46, some 47, some 48, none, none, none, none, none, none, none, none, none, none, none, none, none, none, none, none, none, none, none, none, none, none] (fun (r : Nat) (f : Nat → Value) (wq : World) => (fun (v : Value) => ∃ (j : Nat), v = .int .i64 j ∧ j ≤ N ∧ r = N - j ∧ Sep w wq [tabT .i64 B8 65 (leftI N O i j), tabT .i64 B6 65 Z]) (f 30)) (N) (by kernel_rfl) ?atStart2 ?round2
    case' atStart2 => (try dsimp only [nthV])
    case' round2 =>
     intro gk f wr l hl hrel J2 K2 hJ2 hK2
     (try simp only [mask] at hl)
     generalize f 30 = u30 at hl hrel
     subst hl
     (try dsimp only at hrel)
    case atStart2 => exact ⟨0, rfl, Nat.zero_le _, rfl, hs⟩
    case round2 =>
     clear hs
     obtain ⟨j, rfl, hj, rfl, hs⟩ := hrel
     by_cases hjt : j < N
     ·have hjI : (j : Int) < N := by omega
      have hi16 : i < 16 := by omega
      have hj16 : j < 16 := by omega
      have HST := Lib.hid (leftI_step (O := O) hlt hjt hN16)
      obtain ⟨x0, _⟩ := hs.tabAt 1 rfl (i * 16 + j) (by rw [HZL.out]; omega)
      obtain ⟨x1, _⟩ := hs.tabAt 1 rfl (j * 16 + i) (by rw [HZL.out]; omega)
      obtain ⟨x2, rf⟩ := hs.tabAt 0 rfl (i * 16 + j) (by rw [leftI_len]; omega)
      rw [HZA.out i j hi16 hj16] at x0
      rw [HZA.out j i hj16 hi16] at x1
      obtain ⟨b0, b1⟩ := HOB.out i j
      obtain ⟨b2, b3⟩ := HOB.out j i
      have HBT := Lib.hid (show (if owesS O j i < owesS O i j then owesS O j i else owesS O i j) = both O i j by unfold both; split <;> omega)
      obtain ⟨X, hX⟩ : ∃ X, X = owesS O i j := ⟨_, rfl⟩
      obtain ⟨Y, hY⟩ : ∃ Y, Y = owesS O j i := ⟨_, rfl⟩
      rw [← hX] at x0 b0 b1 HBT
      rw [← hY] at x1 b2 b3 HBT
      clear hX hY
      by_cases hq : Y < X
      ·rw [if_pos hq] at HBT
       go_wp2_with fail
       refine Mix.region [0, 0, 0, 0, 0, 0, 0, 0, 0, 0, 0, 0, 0, 0, 0, 2] (fun _ => True) (by kernel_rfl) (by kernel_rfl) trivial ?_
       simp only [List.zip_cons_cons, List.zip_nil_right]
       iterate 15 (refine Mix.step0 fun K hK => ?_; go_simp; (try (go_bits; try go_simp)); first | ((with_reducible refine hK _ _ ?_); clear hK K) | ((try (simp only [IntWalk.iteOmega]; try go_simp)); (try go_bits); (with_reducible refine hK _ _ ?_); clear hK K))
       refine Mix.step2n (by first | rfl | simp [Region.wanted, yielded]) fun K hK => ?_
       go_wp2_with fail
       refine Mix.post_mk (C := (fun _ => True)) trivial (hK _ _ ?_)
       clear hK K
       refine Mix.done ?_
       have hs2 := (hs.tabSet (k := .i64) 0 rfl (i * 16 + j) (Y)).drew
       (try simp only [List.set_cons_zero] at hs2)
       rw [HBT.out, HST.out] at hs2
       rw [HBT.out]
       clear hs x0 x1 x2 rf
       go_wp2_with fail
       refine Round.intro (N - (j + 1)) ?measure3 (by kernel_rfl) (hJ2 _ _ _ ?rel3)
       case' rel3 => (try dsimp only [nthV])
       case measure3 => omega
       case rel3 => exact ⟨j + 1, by go_num, hjt, rfl, hs2⟩
      ·rw [if_neg hq] at HBT
       go_wp2_with fail
       refine Mix.region [0, 0, 0, 0, 0, 0, 0, 0, 0, 0, 0, 0, 0, 0, 0, 2] (fun _ => True) (by kernel_rfl) (by kernel_rfl) trivial ?_
       simp only [List.zip_cons_cons, List.zip_nil_right]
       iterate 15 (refine Mix.step0 fun K hK => ?_; go_simp; (try (go_bits; try go_simp)); first | ((with_reducible refine hK _ _ ?_); clear hK K) | ((try (simp only [IntWalk.iteOmega]; try go_simp)); (try go_bits); (with_reducible refine hK _ _ ?_); clear hK K))
       refine Mix.step2n (by first | rfl | simp [Region.wanted, yielded]) fun K hK => ?_
       go_wp2_with fail
       refine Mix.post_mk (C := (fun _ => True)) trivial (hK _ _ ?_)
       clear hK K
       refine Mix.done ?_
       have hs2 := (hs.tabSet (k := .i64) 0 rfl (i * 16 + j) (X)).drew
       (try simp only [List.set_cons_zero] at hs2)
       rw [HBT.out, HST.out] at hs2
       rw [HBT.out]
       clear hs x0 x1 x2 rf
       go_wp2_with fail
       refine Round.intro (N - (j + 1)) ?measure4 (by kernel_rfl) (hJ2 _ _ _ ?rel4)
       case' rel4 => (try dsimp only [nthV])
       case measure4 => omega
       case rel4 => exact ⟨j + 1, by go_num, hjt, rfl, hs2⟩
     ·obtain rfl : N = j := by omega
      rw [leftI_next] at hs
      go_wp2_with fail
      refine Round.intro (N - (i + 1)) ?measure5 (by kernel_rfl) (hJ1 _ _ _ ?rel5)
      case' rel5 => (try dsimp only [nthV])
      case measure5 => omega
      case rel5 => exact ⟨i + 1, by go_num, hlt, rfl, hs⟩
   ·obtain rfl : N = i := by omega
    clear hlt hi
    replace hs := hs.takeN 1
    go_wp2_with fail
    refine (openo_any l vl _ (hs.rdG h) (by omega)).mono ?_
    rintro en w4 ⟨u, rfl, k2⟩
    replace hs := hs.join k2
    rw [← HO.out] at hs
    clear k2
    obtain ⟨au, cu, rfl⟩ := (hs.rdRecs 0 rfl).shape
    go_wp2_with (at_make; refine wpList_makeInts rfl (.tmp 54) (.tmp 54) 23 rfl 2 i0 .i64 8 Try.underlying23 hi0 hz0 hz1 hz2 O.length .i64 .i64 rfl rfl hs ?m1 ?m2 ?m3)
    case m1 => unfold maxLen; omega
    case m2 => omega
    case m3 =>
     intro w5 g hs3
     clear hs
     (try simp only [List.cons_append, List.nil_append, List.take_succ_cons, List.take_zero] at hs3)
     go_wp2_with fail
     refine wp_loopM [none, none, none, none, none, none, none, none, none, none, none, none, none, none, some 14, some 15, none, none, none, none, none, none, none, none, none, none, none, none, none, none, none, none, none, none, none, none, none, none, none, none, none, none, none, none, none, none, none, none, none, none, none, none, none, none, none, none, none, none, some 58, some 59, some 60, some 61, some 62, some 63, some 64, some 65, some 66, some 67, some 68, some 69, none] (fun (r : Nat) (f : Nat → Value) (wr : World) => (fun (v : Value) => ∃ (i : Nat), v = .int .i64 i ∧ i ≤ O.length ∧ r = O.length - i ∧ Sep w wr [intsT .i64 2 (.slice (some ⟨g, 0, none⟩) O.length O.length) ((paysL N O).take i ++ List.replicate (O.length - i) 0), recT duR 44 (.slice au O.length cu) O, tabT .i64 B8 65 (leftZ N O i)]) (f 58)) (O.length) (by kernel_rfl) ?atStart6 ?round6
     case' atStart6 => (try dsimp only [nthV])
     case' round6 =>
      intro gk f wr l hl hrel J3 K3 hJ3 hK3
      (try simp only [mask] at hl)
      generalize f 58 = u58 at hl hrel
      subst hl
      (try dsimp only at hrel)
     case atStart6 => exact ⟨0, rfl, Nat.zero_le _, rfl, hs3⟩
     case round6 =>
      clear hs3
      obtain ⟨i, rfl, hi, rfl, hs⟩ := hrel
      by_cases hlt : i < O.length
      ·have hiI : (i : Int) < O.length := by omega
       obtain ⟨b1, o1, e1, _, hc1⟩ := (hs.rdRecs 1 rfl).at i hlt
       subst e1
       have hm := HMAY.out _ (List.getElem_mem hlt)
       have HLZ := Lib.hid (leftZ_succ (n := N) hlt)
       have HPA := Lib.hid (paysL_at (n := N) hlt)
       have HBZ := Lib.hid (show ∀ k, 0 ≤ (leftZ N O i).getD k 0 ∧ (leftZ N O i).getD k 0 ≤ 4503599627370496 from fun k => by
        have h1 := leftZ_bound (n := N) (fun d hd => (HMAY.out d hd).x0) i hi k
        have h2 := HSO.out
        omega)
       have HOUT := Lib.hid (show ((paysL N O).take i ++ List.replicate (O.length - i) 0).set i ((paysL N O).getD i 0) = (paysL N O).take (i + 1) ++ List.replicate (O.length - (i + 1)) 0 from put_next (paysL_len N O) hlt)
       have HOL := Lib.hid (show ((paysL N O).take i ++ List.replicate (O.length - i) (0 : Int)).length = O.length by rw [List.length_append, List.length_take, List.length_replicate, paysL_len]; omega)
       obtain ⟨OX, hOX⟩ : ∃ OX, OX = (paysL N O).take i ++ List.replicate (O.length - i) (0 : Int) := ⟨_, rfl⟩
       rw [← hOX] at hs HOUT HOL
       clear hOX
       obtain ⟨x, hx⟩ : ∃ x, x = O[i] := ⟨_, rfl⟩
       rw [← hx] at hc1 hm HLZ HPA
       clear hx
       have HPY := Lib.hid (fun (L : List Thing) (W : World) (hS : Sep w W L) (q : Nat) (hq : L[q]? = some (tabT .i64 B8 65 (leftZ N O i))) => pays1_any hS q B8 (leftZ N O i) x hq hm (leftZ_len N O i) HBZ.out)
       clear hm
       obtain ⟨id, f, t, x, we, u, hh⟩ := x
       dsimp only [Du.val] at HPY
       have x0 := hc1 0 (by decide)
       have x1 := hc1 1 (by decide)
       have x2 := hc1 2 (by decide)
       have x3 := hc1 3 (by decide)
       have x4 := hc1 4 (by decide)
       have x5 := hc1 5 (by decide)
       have x6 := hc1 6 (by decide)
       simp only [duR, Nat.add_zero, List.getElem?_cons_zero, List.getElem?_cons_succ] at x0 x1 x2 x3 x4 x5 x6
       clear hc1
       go_upto_region 20 with fail
       replace hs := hs.newCells #[.int .u64 id, .int .i64 f, .int .i64 t, .int .i64 x, .int .i64 we, .int .i64 u, .bool hh] 44
       obtain ⟨B, hB⟩ : ∃ B, B = wr.heap.size := ⟨_, rfl⟩
       rw [← hB] at hs ⊢
       clear hB x0 x1 x2 x3 x4 x5 x6
       generalize World.alloc wr _ = W4 at hs ⊢
       have x0 := cell_of (hs.cells 0 rfl) 0
       have x1 := cell_of (hs.cells 0 rfl) 1
       have x2 := cell_of (hs.cells 0 rfl) 2
       have x3 := cell_of (hs.cells 0 rfl) 3
       have x4 := cell_of (hs.cells 0 rfl) 4
       have x5 := cell_of (hs.cells 0 rfl) 5
       have x6 := cell_of (hs.cells 0 rfl) 6
       simp only [List.getElem?_toArray, List.getElem?_cons_zero, List.getElem?_cons_succ] at x0 x1 x2 x3 x4 x5 x6
       go_wp2_with fail
       refine (HPY.out _ _ hs 3 rfl).mono ?_
       rintro en w6 ⟨rfl, hs2⟩
       (try simp only [List.set_cons_zero, List.set_cons_succ] at hs2)
       rw [← HLZ.out] at hs2
       rw [← HPA.out]
       clear hs HPY x0 x1 x2 x3 x4 x5 x6
       have hs := hs2
       clear hs2
       obtain ⟨g', cg', eg, _, hcR, rf⟩ := (hs.ints 1 rfl).get i (by rw [HOL.out]; exact hlt)
       injection eg with eg q1 q2
       injection eg with eg
       injection eg with eg
       subst eg
       have r0 := hcR i (by rw [HOL.out]; exact hlt)
       clear q1 q2 hcR
       go_wp2_with fail
       have hs2 := hs.setInts (j := i) 1 rfl ((paysL N O).getD i 0)
       (try simp only [List.set_cons_zero, List.set_cons_succ] at hs2)
       rw [HOUT.out] at hs2
       refine Round.intro (O.length - (i + 1)) ?measure7 (by kernel_rfl) (hJ3 _ _ _ ?rel7)
       case' rel7 => (try dsimp only [nthV])
       case measure7 => omega
       case rel7 => exact ⟨i + 1, by go_num, hlt, rfl, hs2.tail⟩
      ·obtain rfl : i = O.length := by omega
       rw [Nat.sub_self, List.replicate_zero, List.append_nil, List.take_of_length_le (by rw [paysL_len]; omega)] at hs
       go_wp2_with fail
       (repeat rw [Exit.noGoto_ret])
       go_ret2
       exact .inr ⟨HE.out, _, rfl, by rw [Int.toNat_natCast, ← HO.out]; exact hs.takeN 1⟩
end Go.Proofs.Ytjijhpflkkicaaa
namespace Go.Proofs.Ytjijhpflkkicaaa
open Go Go.RowKit Go.Mem Go.MoneyP Go.NetP Go.BuildP Go.OffP Go.Shelf
theorem gridR_at {w : World} {a : Option Addr} {n c : Nat} {M : List (List Int)} (h : GridR w (.slice a n c) M) : n = M.length ∧ ∀ i (hi : i < M.length), ∃ (s : Sl) (b o : Nat), a = some ⟨b, o, none⟩ ∧ w.cell? ⟨b, o + i, none⟩ = some (.slice s.a s.n s.c) ∧ Rd .i64 w (.slice s.a s.n s.c) M[i] := by
 obtain ⟨G, g1, g2, g3⟩ := h
 have hl : G.length = M.length := by rw [← g1]; simp
 have hn : n = M.length := by obtain ⟨_, _, e⟩ := g2.shape; injection e with _ e2 _; rw [e2, List.length_map, hl]
 subst hn
 refine ⟨rfl, fun i hi => ?_⟩
 have hlt1 : i < G.length := by omega
 obtain ⟨b1, o1, e1, _, hc1⟩ := g2.at i (by rw [List.length_map]; exact hlt1)
 have x1 := hc1 0 (by decide)
 simp only [slR, List.getElem_map, List.getElem?_cons_zero, Nat.mul_one, Nat.add_zero] at x1
 have hR1 := g3 _ (List.getElem_mem hlt1)
 have e3 : G[i].2 = M[i] := by have := congrArg (fun l => l[i]?) g1; simpa [hlt1, hi] using this
 rw [e3] at hR1
 exact ⟨G[i].1, b1, o1, e1, x1, hR1⟩
theorem rowM_at {N : Nat} {O : List Du} {a b : Nat} (h : b < N) : (owesRow N O a).getD b 0 = owesS O a b := by
 rw [List.getD_eq_getElem?_getD]; unfold owesRow; simp [h]
end Go.Proofs.Ytjijhpflkkicaaa
namespace Go.Mem
open Go Go.RowKit
theorem Rd.drop1 {k : IntKind} {w : World} {b o n c : Nat} {zs : List Int} (h : Rd k w (.slice (some ⟨b, o, none⟩) n c) zs) (a : Option Addr) (ha : 1 < zs.length → a = some ⟨b, o + 1, none⟩) (hn : a ≠ none) (m c' : Nat) (hm : m = n - 1) (h0 : 0 < zs.length) : Rd k w (.slice a m c') (zs.drop 1) := by
 obtain ⟨a0, c0, e, hl, _, hc⟩ := h
 injection e with e1 e2 e3
 obtain ⟨b', o', e4, hb, hcell⟩ := hc h0
 rw [e4] at e1
 injection e1 with e1
 injection e1 with e5 e6
 subst e5
 subst e6
 refine ⟨a, c', by rw [List.length_drop, hm, e2], by rw [List.length_drop]; omega, fun q => absurd q hn, fun hq => ?_⟩
 rw [List.length_drop] at hq
 refine ⟨b, o + 1, ha (by omega), hb, fun j hj => ?_⟩
 rw [List.length_drop] at hj
 rw [show o + 1 + j = o + (1 + j) by omega, hcell (1 + j) (by omega)]
 congr 2
 rw [List.getD_eq_getElem?_getD, List.getD_eq_getElem?_getD, List.getElem?_drop]
end Go.Mem
namespace Go.Proofs.Ytjijhpflkkicaaa
open Go Go.RowKit Go.Mem Go.MoneyP Go.NetP Go.BuildP Go.OffP Go.Shelf
/-- What Left answers. -/
def LeftD (l : List Du) (ps : List Int) (w : World) (en : Ending) (w' : World) : Prop :=
 (leftE l ps ≠ 0 ∧ en = .returned (.tuple #[.slice none 0 0, .int .i64 (leftE l ps)]) ∧ Below w.heap.size w w') ∨
 (leftE l ps = 0 ∧ ∃ v, en = .returned (.tuple #[v, .int .i64 0]) ∧ Sep w w' [recT duR 44 v (leftL l ps)])
set_option maxRecDepth 100000 in
set_option maxHeartbeats 4000000 in
theorem oleft_any (l : List Du) (ps : List Int) (vl vp : Value) (w : World) (h : RdG duR w vl l) (h' : Rd .i64 w vp ps) (hcap : ∀ a n c, vp = .slice a n c → n ≤ c) (hl1 : l.length ≤ 1000) (hwf : ∀ d ∈ l, d.x ≤ 9223372036854775807) :
  Calls Try.prog 14 #[vl, vp] w fun en w' => LeftD l ps w en w' := by
 obtain ⟨i0, hi0, hz0, hz1, hz2⟩ := info_parts Try.infoDu
 obtain ⟨al, cl, rfl⟩ := h.shape
 obtain ⟨ap, cp, rfl⟩ := h'.shape
 have hpc := hcap _ _ _ rfl
 have hpl := h'.le'
 clear hcap
 have HWF := Lib.hid hwf
 clear hwf
 have hol := open_le l
 go_enter Try.func14, Try.ntmps14
 go_wp2_with fail
 refine (openo_any l _ _ h (by omega)).mono ?_
 rintro en w1 ⟨u, rfl, k1⟩
 obtain ⟨au, cu, rfl⟩ := (k1.rdRecs 0 rfl).shape
 have hs := (Sep.start w).belowStep k1.below
 clear k1
 by_cases hlen : (openL l).length = ps.length
 rotate_left
 ·have H0 := Lib.hid (show leftE l ps = 1 by unfold leftE; rw [if_pos hlen])
  have d0 : (((openL l).length : Int) != (ps.length : Int)) = true := by simpa using fun e : ((openL l).length : Int) = ps.length => hlen (by omega)
  go_wp2_with fail
  (repeat rw [Exit.noGoto_ret])
  go_ret2
  exact .inl ⟨by rw [H0.out]; decide, by rw [H0.out]; rfl, hs.below⟩
 have HLEN := Lib.hid hlen
 rw [hlen]
 have hps : ps.length ≤ 1000 := by omega
 clear hlen hol
 go_wp2_with fail
 refine wp_loopM [none, none, none, none, some 4, some 5, none, some 7, none, none, none, none, none, none, none, none, none, none, none, some 19, some 20, some 21, some 22, some 23, some 24, some 25, none, none, none, none, none, none, none, none, none, none, none, none, none, none, none, none, none, none, none, none, none, none, none, none, none, none, none, none, none, none, none, none, none, none, none, none, none] (fun (r : Nat) (f : Nat → Value) (wr : World) => (fun (v : Value) => ∃ i : Nat, v = .int .i64 i ∧ i ≤ ps.length ∧ r = ps.length - i ∧ Hid (∀ x ∈ ps.take i, ¬ x < 0) ∧ wr = w1) (f 19)) (ps.length) (by kernel_rfl) ?atStart23 ?round23
 case' atStart23 => (try dsimp only [nthV])
 case' round23 =>
  intro gk f wr l hl hrel J1 K1 hJ1 hK1
  (try simp only [mask] at hl)
  generalize f 19 = u19 at hl hrel
  subst hl
  (try dsimp only at hrel)
 case atStart23 => exact ⟨0, rfl, Nat.zero_le _, rfl, Lib.hid (by simp), rfl⟩
 case round23 =>
  obtain ⟨i, rfl, hi, rfl, HN, rfl⟩ := hrel
  by_cases hlt : i < ps.length
  ·have hiI : (i : Int) < ps.length := by omega
   obtain ⟨b1, o1, e1, _, hc1⟩ := (hs.rd h').at i hlt
   subst e1
   obtain ⟨X, hX⟩ : ∃ X, X = ps.getD i 0 := ⟨_, rfl⟩
   rw [← hX] at hc1
   by_cases hneg : X < 0
   ·have H0 := Lib.hid (show leftE l ps = 1 by
     unfold leftE
     rw [if_neg (by rw [HLEN.out]; simp), if_pos]
     exact List.any_eq_true.2 ⟨X, by rw [hX]; exact getD_mem hlt, decide_eq_true hneg⟩)
    clear hX
    go_wp2_with fail
    (repeat rw [Exit.noGoto_ret])
    go_ret2
    exact .inl ⟨by rw [H0.out]; decide, by rw [H0.out]; rfl, hs.below⟩
   ·have HN2 := Lib.hid (show ∀ x ∈ ps.take (i + 1), ¬ x < 0 by
     rw [take_snoc hlt]
     intro y hy
     rcases List.mem_append.1 hy with q | q
     ·exact HN.out y q
     ·rw [List.mem_singleton.1 q, ← hX]; exact hneg)
    clear hX
    go_wp2_with fail
    refine Round.intro (ps.length - (i + 1)) ?measure24 (by kernel_rfl) (hJ1 _ _ _ ?rel24)
    case' rel24 => (try dsimp only [nthV])
    case measure24 => omega
    case rel24 => exact ⟨i + 1, by go_num, hlt, rfl, HN2, rfl⟩
  ·obtain rfl : i = ps.length := by omega
   have hnn := HN.out
   rw [List.take_length] at hnn
   have HNN := Lib.hid (show ∀ k, 0 ≤ ps.getD k 0 from fun k => by
    rcases Nat.lt_or_ge k ps.length with q | q
    ·have := hnn _ (getD_mem q); omega
    ·rw [List.getD_eq_getElem?_getD, List.getElem?_eq_none q]; exact Int.le_refl _)
   have HANY := Lib.hid (show ps.any (fun p => decide (p < 0)) = false from List.any_eq_false.2 fun x hx => by have := hnn x hx; simp; omega)
   have HE := Lib.hid (show leftE l ps = if okO l ps l.length = true then 0 else 12 by unfold leftE; rw [if_neg (by rw [HLEN.out]; simp), if_neg (by rw [HANY.out]; decide)])
   clear hnn HN hlt hi
   go_wp2_with fail
   refine wp_loopM [none, some 1, none, none, some 4, some 5, none, none, some 8, none, some 10, none, none, none, none, none, none, none, none, none, none, none, none, none, none, none, none, none, some 28, some 29, some 30, some 31, some 32, some 33, some 34, some 35, some 36, some 37, some 38, some 39, some 40, some 41, some 42, some 43, some 44, some 45, some 46, some 47, some 48, some 49, some 50, some 51, some 52, some 53, some 54, some 55, some 56, some 57, some 58, some 59, some 60, some 61, none] (fun (r : Nat) (f : Nat → Value) (wr : World) => (fun (v vo vq : Value) => ∃ (i : Nat) (ao : Option Addr) (co : Nat) (aq : Option Addr) (cq : Nat), v = .int .i64 i ∧ vo = .slice ao (leftO l ps i).length co ∧ vq = .slice aq (ps.length - posO l i) cq ∧ ps.length - posO l i ≤ cq ∧ i ≤ l.length ∧ r = l.length - i ∧ Hid (okO l ps i = true ∧ Rd .i64 w (.slice aq (ps.length - posO l i) cq) (ps.drop (posO l i))) ∧ Sep w wr [recT duR 44 (.slice ao (leftO l ps i).length co) (leftO l ps i)]) (f 28) (f 8) (f 1)) (l.length) (by kernel_rfl) ?atStart25 ?round25
   case' atStart25 => (try dsimp only [nthV])
   case' round25 =>
    intro gk f wr l hl hrel J2 K2 hJ2 hK2
    (try simp only [mask] at hl)
    generalize f 28 = u28 at hl hrel
    generalize f 8 = u8 at hl hrel
    generalize f 1 = u1 at hl hrel
    subst hl
    (try dsimp only at hrel)
   case atStart25 => exact ⟨0, none, 0, ap, cp, rfl, rfl, rfl, hpc, Nat.zero_le _, rfl, Lib.hid ⟨rfl, h'⟩, hs.nilRecs duR _⟩
   case round25 =>
    clear hs
    obtain ⟨i, ao, co, aq, cq, rfl, rfl, rfl, hcq, hi, rfl, HI, hs⟩ := hrel
    have hol := leftO_len l ps i
    by_cases hlt : i < l.length
    ·have hiI : (i : Int) < l.length := by omega
     have HOK := HI.out.1
     have HRD := Lib.hid HI.out.2
     clear HI
     have HPS := Lib.hid (posO_succ hlt)
     have HPL := Lib.hid (fun hh => posO_lt hlt hh)
     have hge : l.getD i default = l[i] := by simp [hlt]
     have HLS := Lib.hid (leftO_succ l ps i)
     have HOS := Lib.hid (okO_succ l ps i)
     rw [hge] at HLS HOS
     obtain ⟨b1, o1, e1, _, hc1⟩ := (hs.rdG h).at i hlt
     subst e1
     have hxx := HWF.out _ (List.getElem_mem hlt)
     obtain ⟨x, hx⟩ : ∃ x, x = l[i] := ⟨_, rfl⟩
     rw [← hx] at hc1 HPS HPL HLS HOS hxx
     clear hx hge
     obtain ⟨id, f, t, x, we, u, hh⟩ := x
     have x0 := hc1 0 (by decide)
     have x1 := hc1 1 (by decide)
     have x2 := hc1 2 (by decide)
     have x3 := hc1 3 (by decide)
     have x4 := hc1 4 (by decide)
     have x5 := hc1 5 (by decide)
     have x6 := hc1 6 (by decide)
     simp only [duR, Nat.add_zero, List.getElem?_cons_zero, List.getElem?_cons_succ] at x0 x1 x2 x3 x4 x5 x6
     clear hc1
     dsimp only at HPS HPL hxx
     obtain ⟨P, hP⟩ : ∃ P, P = posO l i := ⟨_, rfl⟩
     rw [← hP] at HPS HPL HLS HOS HRD hcq ⊢
     clear hP
     have hxb := (hs.rdG h).le'
     go_upto_region 13 with fail
     replace hs := hs.newCells #[.int .u64 id, .int .i64 f, .int .i64 t, .int .i64 x, .int .i64 we, .int .i64 u, .bool hh] 44
     obtain ⟨B, hB⟩ : ∃ B, B = wr.heap.size := ⟨_, rfl⟩
     rw [← hB] at hs ⊢
     clear hB x0 x1 x2 x3 x4 x5 x6
     generalize World.alloc wr _ = W1 at hs ⊢
     have x0 := cell_of (hs.cells 0 rfl) 0
     have x1 := cell_of (hs.cells 0 rfl) 1
     have x2 := cell_of (hs.cells 0 rfl) 2
     have x3 := cell_of (hs.cells 0 rfl) 3
     have x4 := cell_of (hs.cells 0 rfl) 4
     have x5 := cell_of (hs.cells 0 rfl) 5
     have x6 := cell_of (hs.cells 0 rfl) 6
     have xf := fun j => frozen_of (hs.cells 0 rfl) j
     simp only [List.getElem?_toArray, List.getElem?_cons_zero, List.getElem?_cons_succ] at x0 x1 x2 x3 x4 x5 x6
     cases hh
     rotate_left
     ·have HOK2 := Lib.hid (show okO l ps (i + 1) = true by rw [HOS.out, HOK]; rfl)
      have HL2 := Lib.hid (show leftO l ps (i + 1) = leftO l ps i ++ [⟨id, f, t, x, we, u, true⟩] by rw [HLS.out]; rfl)
      have HP2 := Lib.hid (show posO l (i + 1) = P by rw [HPS.out]; simp)
      clear HLS HOS HPL HPS HOK
      go_wp2_with (at_builtin; refine wpList_appRec duR rfl (.tmp 57) (.tmp 59) 22 rfl 44 i0 _ 56 Try.underlying22 hi0 hz0 hz1 hz2 rfl _ _ ⟨id, f, t, x, we, u, true⟩ hs 1 rfl _ rfl rfl rfl ?c3true ?c4true ?growtrue)
      case c3true => unfold maxLen; omega
      case c4true => omega
      case' growtrue =>
       intro v' w5 hs2 hv
       obtain ⟨g2, k2, rfl⟩ := hv.out
       rw [← HL2.out] at hs2
       have hLL : (leftO l ps i).length + 1 = (leftO l ps (i + 1)).length := by rw [HL2.out, List.length_append]; rfl
       rw [hLL] at hs2 ⊢
       replace hs2 := hs2.tail
       clear hs hv x0 x1 x2 x3 x4 x5 x6 xf hLL
       go_wp2_with fail
      refine Round.intro (l.length - (i + 1)) ?measure26 (by kernel_rfl) (hJ2 _ _ _ ?rel26)
      case' rel26 => (try dsimp only [nthV])
      case measure26 => omega
      case rel26 => exact ⟨i + 1, _, _, aq, cq, by go_num, rfl, by rw [HP2.out], by rw [HP2.out]; exact hcq, hlt, rfl, Lib.hid ⟨HOK2.out, by rw [HP2.out]; exact HRD.out⟩, hs2⟩
     ·have hPl := HPL.out rfl
      rw [HLEN.out] at hPl
      have hP1 : posO l (i + 1) = P + 1 := by rw [HPS.out]; simp
      have hm0 : 0 < (ps.drop P).length := by rw [List.length_drop]; omega
      obtain ⟨bq, oq, eq, _, y0⟩ := (hs.rd HRD.out).at 0 hm0
      subst eq
      rw [drop_getD, Nat.add_zero] at y0
      have hp0 := HNN.out P
      obtain ⟨pp, hpp⟩ : ∃ pp, pp = ps.getD P 0 := ⟨_, rfl⟩
      rw [← hpp] at y0 hp0 HLS HOS
      have HP1 := Lib.hid hP1
      have HPPV := Lib.hid hpp
      clear hpp HPS HPL hP1
      obtain ⟨m, hm⟩ : ∃ m, m = ps.length - P := ⟨_, rfl⟩
      have HM := Lib.hid hm
      have hm1 : 0 < m := by omega
      have hm1I : (0 : Int) < m := by omega
      rw [← hm] at hcq HRD ⊢
      by_cases hgt : x < pp
      ·have H0 := Lib.hid (show leftE l ps = 12 by
        rw [HE.out, if_neg]
        rw [okO_stop (i := i + 1) (by rw [HOS.out]; simp [okD]; intro _; omega) l.length hlt]
        decide)
       clear HLS HOS hm
       go_wp2_with fail
       refine Mix.region [0, 0, 0, 0, 0, 0] (fun _ => True) (by kernel_rfl) (by kernel_rfl) trivial ?_
       simp only [List.zip_cons_cons, List.zip_nil_right]
       iterate 6 (refine Mix.step0 fun K hK => ?_; go_simp; (try (go_bits; try go_simp)); first | ((with_reducible refine hK _ _ ?_); clear hK K) | ((try (simp only [IntWalk.iteOmega]; try go_simp)); (try go_bits); (with_reducible refine hK _ _ ?_); clear hK K))
       refine Mix.done ?_
       replace hs := hs.drew
       go_wp2_with fail
       (repeat rw [Exit.noGoto_ret])
       go_ret2
       exact .inl ⟨by rw [H0.out]; decide, by rw [H0.out]; rfl, hs.below⟩
      ·have HOK2 := Lib.hid (show okO l ps (i + 1) = true by rw [HOS.out, HOK]; simp [okD]; omega)
       clear HOS HOK hm
       go_wp2_with fail
       refine Mix.region [0, 0, 0, 0, 0, 0] (fun _ => True) (by kernel_rfl) (by kernel_rfl) trivial ?_
       simp only [List.zip_cons_cons, List.zip_nil_right]
       iterate 6 (refine Mix.step0 fun K hK => ?_; go_simp; (try (go_bits; try go_simp)); first | ((with_reducible refine hK _ _ ?_); clear hK K) | ((try (simp only [IntWalk.iteOmega]; try go_simp)); (try go_bits); (with_reducible refine hK _ _ ?_); clear hK K))
       refine Mix.done ?_
       replace hs := hs.drew
       clear x0 x1 x2 x3 x4 x5 x6 xf y0
       go_upto_region 16 with fail
       generalize World.drew W1 = W2 at hs ⊢
       have x0 := cell_of (hs.cells 0 rfl) 0
       have x1 := cell_of (hs.cells 0 rfl) 1
       have x2 := cell_of (hs.cells 0 rfl) 2
       have x3 := cell_of (hs.cells 0 rfl) 3
       have x4 := cell_of (hs.cells 0 rfl) 4
       have x5 := cell_of (hs.cells 0 rfl) 5
       have x6 := cell_of (hs.cells 0 rfl) 6
       have xf := fun j => frozen_of (hs.cells 0 rfl) j
       simp only [List.getElem?_toArray, List.getElem?_cons_zero, List.getElem?_cons_succ] at x0 x1 x2 x3 x4 x5 x6
       obtain ⟨_, _, eq, _, y0⟩ := (hs.rd HRD.out).at 0 hm0
       injection eq with eq
       injection eq with q1 q2
       subst q1
       subst q2
       rw [drop_getD, Nat.add_zero, ← HPPV.out] at y0
       refine Mix.region [0, 0, 0, 0, 0, 0, 0, 2] (fun _ => True) (by kernel_rfl) (by kernel_rfl) trivial ?_
       simp only [List.zip_cons_cons, List.zip_nil_right]
       iterate 7 (refine Mix.step0 fun K hK => ?_; go_simp; (try (go_bits; try go_simp)); first | ((with_reducible refine hK _ _ ?_); clear hK K) | ((try (simp only [IntWalk.iteOmega]; try go_simp)); (try go_bits); (with_reducible refine hK _ _ ?_); clear hK K))
       refine Mix.step2n (by first | rfl | simp [Region.wanted, yielded]) fun K hK => ?_
       go_wp2_with fail
       refine Mix.post_mk (C := (fun _ => True)) trivial (hK _ _ ?_)
       clear hK K
       refine Mix.done ?_
       have hs2 := (hs.setC 0 rfl 3 (.int .i64 (x - pp)) #[.int .u64 id, .int .i64 f, .int .i64 t, .int .i64 (x - pp), .int .i64 we, .int .i64 u, .bool false] rfl).drew
       (try simp only [List.set_cons_zero] at hs2)
       clear hs x0 x1 x2 x3 x4 x5 x6 xf y0
       go_upto_region 17 with fail
       generalize World.drew _ = W3 at hs2 ⊢
       have hs := hs2
       clear hs2
       have x0 := cell_of (hs.cells 0 rfl) 0
       have x1 := cell_of (hs.cells 0 rfl) 1
       have x2 := cell_of (hs.cells 0 rfl) 2
       have x3 := cell_of (hs.cells 0 rfl) 3
       have x4 := cell_of (hs.cells 0 rfl) 4
       have x5 := cell_of (hs.cells 0 rfl) 5
       have x6 := cell_of (hs.cells 0 rfl) 6
       have xf := fun j => frozen_of (hs.cells 0 rfl) j
       simp only [List.getElem?_toArray, List.getElem?_cons_zero, List.getElem?_cons_succ] at x0 x1 x2 x3 x4 x5 x6
       by_cases hc1 : cq = 1
       ·subst hc1
        have HR2 := Lib.hid (HRD.out.drop1 (some ⟨bq, oq, none⟩) (fun q => by rw [List.length_drop] at q; have := HM.out; omega) (by simp) (m - 1) (1 - 1) rfl hm0)
        rw [List.drop_drop] at HR2
        have hml : m - 1 = ps.length - posO l (i + 1) := by rw [HP1.out, HM.out]; omega
        rw [hml, ← HP1.out] at HR2
        have hcle : ps.length - posO l (i + 1) ≤ (1) - 1 := by omega
        have HML := Lib.hid hml
        have HCL := Lib.hid hcle
        clear hml hcle
        by_cases hpos : 0 < x - pp
        ·have HL2 := Lib.hid (show leftO l ps (i + 1) = leftO l ps i ++ [⟨id, f, t, x - pp, we, u, false⟩] by rw [HLS.out]; unfold leftD; rw [if_neg (by simp), if_pos hpos]; rfl)
         clear HLS
         go_wp2_with (at_builtin; refine wpList_appRec duR rfl (.tmp 57) (.tmp 59) 22 rfl 44 i0 _ 56 Try.underlying22 hi0 hz0 hz1 hz2 rfl _ _ ⟨id, f, t, x - pp, we, u, false⟩ hs 1 rfl _ rfl rfl rfl ?c5a ?c6a ?grow2a)
         case c5a => unfold maxLen; omega
         case c6a => omega
         case' grow2a =>
          intro v' w5 hs2 hv
          obtain ⟨g2, k2, rfl⟩ := hv.out
          rw [← HL2.out] at hs2
          have hLL : (leftO l ps i).length + 1 = (leftO l ps (i + 1)).length := by rw [HL2.out, List.length_append]; rfl
          rw [hLL] at hs2 ⊢
          replace hs2 := hs2.tail
          clear hs hv x0 x1 x2 x3 x4 x5 x6 xf hLL
          go_wp2_with fail
         refine Round.intro (l.length - (i + 1)) ?measure27 (by kernel_rfl) (hJ2 _ _ _ ?rel27)
         case' rel27 => (try dsimp only [nthV])
         case measure27 => omega
         case rel27 => exact ⟨i + 1, _, _, _, _, by go_num, rfl, by first | rw [HML.out] | (have := HML.out; congr 1; omega), HCL.out, hlt, rfl, Lib.hid ⟨HOK2.out, HR2.out⟩, hs2⟩
        ·have HL2 := Lib.hid (show leftO l ps (i + 1) = leftO l ps i by rw [HLS.out]; unfold leftD; rw [if_neg (by simp), if_neg hpos, List.append_nil])
         clear HLS
         go_wp2_with fail
         refine Round.intro (l.length - (i + 1)) ?measure28 (by kernel_rfl) (hJ2 _ _ _ ?rel28)
         case' rel28 => (try dsimp only [nthV])
         case measure28 => omega
         case rel28 => exact ⟨i + 1, ao, co, _, _, by go_num, by rw [HL2.out], by first | rw [HML.out] | (have := HML.out; congr 1; omega), HCL.out, hlt, rfl, Lib.hid ⟨HOK2.out, HR2.out⟩, by rw [HL2.out]; exact hs.tail⟩
       ·have hcN : ¬ cq = 1 := hc1
        have HR2 := Lib.hid (HRD.out.drop1 (some ⟨bq, oq + 1, none⟩) (fun _ => rfl) (by simp) (m - 1) (cq - 1) rfl hm0)
        rw [List.drop_drop] at HR2
        have hml : m - 1 = ps.length - posO l (i + 1) := by rw [HP1.out, HM.out]; omega
        rw [hml, ← HP1.out] at HR2
        have hcle : ps.length - posO l (i + 1) ≤ (cq) - 1 := by omega
        have HML := Lib.hid hml
        have HCL := Lib.hid hcle
        clear hml hcle
        by_cases hpos : 0 < x - pp
        ·have HL2 := Lib.hid (show leftO l ps (i + 1) = leftO l ps i ++ [⟨id, f, t, x - pp, we, u, false⟩] by rw [HLS.out]; unfold leftD; rw [if_neg (by simp), if_pos hpos]; rfl)
         clear HLS
         go_wp2_with (at_builtin; refine wpList_appRec duR rfl (.tmp 57) (.tmp 59) 22 rfl 44 i0 _ 56 Try.underlying22 hi0 hz0 hz1 hz2 rfl _ _ ⟨id, f, t, x - pp, we, u, false⟩ hs 1 rfl _ rfl rfl rfl ?c5b ?c6b ?grow2b)
         case c5b => unfold maxLen; omega
         case c6b => omega
         case' grow2b =>
          intro v' w5 hs2 hv
          obtain ⟨g2, k2, rfl⟩ := hv.out
          rw [← HL2.out] at hs2
          have hLL : (leftO l ps i).length + 1 = (leftO l ps (i + 1)).length := by rw [HL2.out, List.length_append]; rfl
          rw [hLL] at hs2 ⊢
          replace hs2 := hs2.tail
          clear hs hv x0 x1 x2 x3 x4 x5 x6 xf hLL
          go_wp2_with fail
         refine Round.intro (l.length - (i + 1)) ?measure29 (by kernel_rfl) (hJ2 _ _ _ ?rel29)
         case' rel29 => (try dsimp only [nthV])
         case measure29 => omega
         case rel29 => exact ⟨i + 1, _, _, _, _, by go_num, rfl, by first | rw [HML.out] | (have := HML.out; congr 1; omega), HCL.out, hlt, rfl, Lib.hid ⟨HOK2.out, HR2.out⟩, hs2⟩
        ·have HL2 := Lib.hid (show leftO l ps (i + 1) = leftO l ps i by rw [HLS.out]; unfold leftD; rw [if_neg (by simp), if_neg hpos, List.append_nil])
         clear HLS
         go_wp2_with fail
         refine Round.intro (l.length - (i + 1)) ?measure30 (by kernel_rfl) (hJ2 _ _ _ ?rel30)
         case' rel30 => (try dsimp only [nthV])
         case measure30 => omega
         case rel30 => exact ⟨i + 1, ao, co, _, _, by go_num, by rw [HL2.out], by first | rw [HML.out] | (have := HML.out; congr 1; omega), HCL.out, hlt, rfl, Lib.hid ⟨HOK2.out, HR2.out⟩, by rw [HL2.out]; exact hs.tail⟩
    ·obtain rfl : i = l.length := by omega
     have H0 := Lib.hid (show leftE l ps = 0 by rw [HE.out, if_pos HI.out.1])
     go_wp2_with fail
     (repeat rw [Exit.noGoto_ret])
     go_ret2
     exact .inr ⟨H0.out, _, rfl, hs⟩
end Go.Proofs.Ytjijhpflkkicaaa
namespace Go.Proofs.Ytjijhpflkkicaaa
open Go Go.RowKit Go.Mem Go.MoneyP Go.NetP Go.BuildP Go.OffP Go.Shelf
end Go.Proofs.Ytjijhpflkkicaaa
