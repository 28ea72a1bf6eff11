/-
  What is paid between each two: plain.
-/
import Derived.Test.YtjijhpflkkicaaaOPlain10
set_option linter.unusedVariables false
set_option linter.unusedSimpArgs false
namespace Go.OffP
open Go Go.Mem Go.MoneyP Go.BuildP
def sameP (d : Du) (a b : Nat) : Bool := decide (d.f = (a : Int)) && decide (d.t = (b : Int))
theorem sameP_iff {d : Du} {a b : Nat} : sameP d a b = true ↔ d.f = (a : Int) ∧ d.t = (b : Int) := by
  unfold sameP; rw [Bool.and_eq_true, decide_eq_true_eq, decide_eq_true_eq]
/-- What the first i dues pay from a to b. -/
def paidI (O : List Du) (ps : List Int) (a b : Nat) : Nat → Int
  | 0 => 0
  | i + 1 => paidI O ps a b i + if sameP (O.getD i default) a b = true then ps.getD i 0 else 0
theorem paidI_succ (O : List Du) (ps : List Int) (a b i : Nat) : paidI O ps a b (i + 1) = paidI O ps a b i + if sameP (O.getD i default) a b = true then ps.getD i 0 else 0 := rfl
theorem owes_snoc (O : List Du) (d : Du) (a b : Nat) : owesS (O ++ [d]) a b = owesS O a b + if sameP d a b = true then d.x else 0 := by
  unfold owesS
  rw [List.filter_append, List.map_append, List.sum_append]
  congr 1
  by_cases q : d.f = (a : Int) ∧ d.t = (b : Int)
  · rw [List.filter_cons, if_pos (decide_eq_true q), if_pos (sameP_iff.2 q)]; simp
  · rw [List.filter_cons, if_neg (by simpa using q), if_neg (fun e => q (sameP_iff.1 e))]; simp
theorem owes_take {O : List Du} {i : Nat} (h : i < O.length) (a b : Nat) : owesS (O.take (i + 1)) a b = owesS (O.take i) a b + if sameP (O.getD i default) a b = true then (O.getD i default).x else 0 := by
  rw [List.take_succ_eq_append_getElem h, owes_snoc, getDu h]
theorem both_comm (O : List Du) (a b : Nat) : both O a b = both O b a := by unfold both; rw [Int.min_comm]
section
variable {n : Nat} {O : List Du} (hO : ∀ d ∈ O, MayD d ∧ d.f < n ∧ d.t < n)
include hO
theorem pays_inv {a b : Nat} (ha : a < n) (hb : b < n) (hn : n ≤ 16) : ∀ i, i ≤ O.length →
    (leftZ n O i).getD (a * 16 + b) 0 = max 0 (both O a b - owesS (O.take i) a b) ∧ paidI O (paysL n O) a b i = both O a b - (leftZ n O i).getD (a * 16 + b) 0
  | 0, _ => by
    rw [left_first ha hb hn]
    have := (both_bound (fun d hd => (hO d hd).1.x0) a b).1
    refine ⟨?_, by simp [paidI]⟩
    rw [List.take_zero, show owesS [] a b = 0 from rfl]
    omega
  | i + 1, hi => by
    obtain ⟨i1, i2⟩ := pays_inv ha hb hn i (by omega)
    have hx := (hO _ (List.getElem_mem (show i < O.length by omega))).1.x0
    have hb0 := (both_bound (fun d hd => (hO d hd).1.x0) a b).1
    rw [owes_take hi, paidI_succ]
    by_cases q : (O[i]).f = (a : Int) ∧ (O[i]).t = (b : Int)
    · obtain ⟨h1, h2⟩ := left_put hO hn hi q.1 q.2
      have e : sameP (O.getD i default) a b = true := by rw [getDu hi]; exact sameP_iff.2 q
      rw [if_pos e, if_pos e, h2, getDu hi]
      omega
    · have e : ¬ sameP (O.getD i default) a b = true := by rw [getDu hi]; exact fun e => q (sameP_iff.1 e)
      rw [if_neg e, if_neg e, left_skip hO hb hn hi q]
      omega
/-- In all as much as each owes the other one. -/
theorem paid_is {a b : Nat} (ha : a < n) (hb : b < n) (hn : n ≤ 16) : paidI O (paysL n O) a b O.length = both O a b := by
  obtain ⟨h1, h2⟩ := pays_inv hO ha hb hn O.length (Nat.le_refl _)
  rw [List.take_length] at h1
  have : both O a b ≤ owesS O a b := by unfold both; omega
  omega
theorem pays_ok : PayOk O (paysL n O) := by
  have hx := fun d hd => (hO d hd).1.x0
  refine ⟨paysL_len n O, fun k hk => ?_, fun k hk => ?_⟩
  · rw [paysL_at hk]
    have h1 := (leftZ_bound hx k (by omega) ((O[k]).f.toNat * 16 + (O[k]).t.toNat) (n := n)).1
    have h2 := hx _ (List.getElem_mem hk)
    unfold payX
    omega
  · rw [paysL_at hk, getDu hk]
    unfold payX
    omega
end
/-- What is left between two. -/
theorem left_owes {ps : List Int} (a b : Nat) (O : List Du) : (∀ k, k < O.length → ps.getD k 0 ≤ (O.getD k default).x) → owesS (leftS O ps) a b = owesS O a b - paidI O ps a b O.length := by
  refine snocInd (P := fun O => (∀ k, k < O.length → ps.getD k 0 ≤ (O.getD k default).x) → owesS (leftS O ps) a b = owesS O a b - paidI O ps a b O.length) (fun _ => rfl) (fun O d ih h => ?_) O
  have ih := ih fun k hk => by
    have := h k (by rw [List.length_append]; omega)
    rwa [getD_snoc _ _ hk] at this
  have hd := h O.length (by simp)
  rw [getD_last] at hd
  have hp : ∀ i, i ≤ O.length → paidI (O ++ [d]) ps a b i = paidI O ps a b i := by
    intro i
    induction i with
    | zero => intro _; rfl
    | succ i ih =>
      intro hi
      rw [paidI_succ, paidI_succ, ih (by omega), getD_snoc _ _ (by omega)]
  rw [List.length_append, List.length_singleton, paidI_succ, hp _ (Nat.le_refl _), getD_last, owes_snoc, leftS_snoc]
  by_cases e : 0 < d.x - ps.getD O.length 0
  · rw [if_pos e, owes_snoc, ih]
    by_cases q : sameP d a b = true
    · have q2 : sameP (cutD d (ps.getD O.length 0)) a b = true := q
      rw [if_pos q, if_pos q, if_pos q2]
      show _ + (d.x - ps.getD O.length 0) = _
      omega
    · have q2 : ¬ sameP (cutD d (ps.getD O.length 0)) a b = true := q
      rw [if_neg q, if_neg q, if_neg q2]
      omega
  · rw [if_neg e, List.append_nil, ih]
    split <;> omega
/-- Behind Pays nothing is paid between any two. -/
theorem pays_again {n : Nat} {l : List Du} (h : GoodN n l) : ∀ i, i < (openL (leftL l (paysL n (openL l)))).length → (paysL n (openL (leftL l (paysL n (openL l))))).getD i 0 = 0 := by
  have hO : ∀ d ∈ openL l, MayD d ∧ d.f < n ∧ d.t < n := fun d hd => ⟨h.may d (open_mem hd), h.inn d (open_mem hd)⟩
  have ok := pays_ok hO
  have h2 := leftL_good h ok
  have hO2 : ∀ d ∈ openL (leftL l (paysL n (openL l))), MayD d ∧ d.f < n ∧ d.t < n := fun d hd => ⟨h2.may d (open_mem hd), h2.inn d (open_mem hd)⟩
  intro i hi
  obtain ⟨m1, m2, m3⟩ := hO2 _ (List.getElem_mem hi)
  obtain ⟨A, hA⟩ : ∃ A : Nat, A = ((openL (leftL l (paysL n (openL l))))[i]).f.toNat := ⟨_, rfl⟩
  obtain ⟨B, hB⟩ : ∃ B : Nat, B = ((openL (leftL l (paysL n (openL l))))[i]).t.toNat := ⟨_, rfl⟩
  have a0 := m1.f0
  have b0 := m1.t0
  have x0 := m1.x0
  have ha : A < n := by omega
  have hb : B < n := by omega
  have h1 := (pays_inv hO2 ha hb h.n16 i (by omega)).1
  have hz : both (openL (leftL l (paysL n (openL l)))) A B = 0 := by
    rw [open_left]
    have e1 := left_owes A B (openL l) ok.hi
    have e2 := left_owes B A (openL l) ok.hi
    rw [paid_is hO ha hb h.n16] at e1
    rw [paid_is hO hb ha h.n16] at e2
    have e3 := both_comm (openL l) A B
    have e4 : both (openL l) A B = min (owesS (openL l) A B) (owesS (openL l) B A) := rfl
    unfold both
    rw [e1, e2]
    unfold both at e3 e4 ⊢
    omega
  have hw := (owes_bound ((openL (leftL l (paysL n (openL l)))).take i) (fun d hd => (hO2 d (List.mem_of_mem_take hd)).1.x0) A B).1
  rw [paysL_at hi]
  unfold payX
  rw [← hA, ← hB, h1, hz]
  omega
/-- Behind Pays of no two banks each owes the other one. -/
theorem left_both {n : Nat} {l : List Du} (h : GoodN n l) {a b : Nat} (ha : a < n) (hb : b < n) : both (openL (leftL l (paysL n (openL l)))) a b = 0 := by
  have hO : ∀ d ∈ openL l, MayD d ∧ d.f < n ∧ d.t < n := fun d hd => ⟨h.may d (open_mem hd), h.inn d (open_mem hd)⟩
  have ok := pays_ok hO
  rw [open_left]
  have e1 := left_owes a b (openL l) ok.hi
  have e2 := left_owes b a (openL l) ok.hi
  rw [paid_is hO ha hb h.n16] at e1
  rw [paid_is hO hb ha h.n16] at e2
  have e3 := both_comm (openL l) a b
  have e4 : both (openL l) a b = min (owesS (openL l) a b) (owesS (openL l) b a) := rfl
  unfold both
  rw [e1, e2]
  unfold both at e3 e4 ⊢
  omega
/-- A due turned round. -/
def turnD (d : Du) : Du := { d with f := d.t, t := d.f }
def turnL (l : List Du) : List Du := l.map turnD
theorem turn_may {d : Du} (h : MayD d) : MayD (turnD d) := ⟨h.t0, h.t1, h.f0, h.f1, fun e => h.ne e.symm, h.x0, h.x1, h.w0, h.w1, h.u0⟩
theorem turn_turn (d : Du) : turnD (turnD d) = d := rfl
theorem turnB (d : Du) : mayD (turnD d) = mayD d := by
  rw [Bool.eq_iff_iff, mayD_iff, mayD_iff]
  exact ⟨fun h => turn_may h, turn_may⟩
theorem turn_open (l : List Du) : openL (turnL l) = (openL l).map turnD := by
  unfold openL turnL
  rw [List.filter_map]
  rfl
theorem turn_netsE (n : Int) (l : List Du) : netsE n (turnL l) = netsE n l := by
  have h1 : allB (turnL l) = allB l := by
    unfold allB turnL
    rw [List.length_map, List.all_map]
    congr 2
    funext d
    exact turnB d
  have h2 : belowB n (turnL l) = belowB n l := by
    unfold belowB turnL
    rw [List.all_map]
    congr 1
    funext d
    show (decide (d.t < n) && decide (d.f < n)) = (decide (d.f < n) && decide (d.t < n))
    rw [Bool.and_comm]
  have h3 : sumX (turnL l) = sumX l := by
    unfold sumX turnL
    rw [List.map_map]
    rfl
  unfold netsE
  rw [h1, h2, h3]
theorem turn_owes (a b : Nat) (O : List Du) : owesS (O.map turnD) a b = owesS O b a := by
  refine snocInd (P := fun O => owesS (O.map turnD) a b = owesS O b a) rfl (fun O d ih => ?_) O
  rw [List.map_append, List.map_singleton, owes_snoc, owes_snoc, ih]
  congr 1
  have : sameP (turnD d) a b = sameP d b a := by unfold sameP turnD; rw [Bool.and_comm]
  rw [this]
  rfl
theorem turn_both (a b : Nat) (O : List Du) : both (O.map turnD) a b = both O b a := by
  unfold both
  rw [turn_owes, turn_owes]
/-- With all dues turned round the same is paid. -/
theorem turn_pays {n : Nat} (hn : n ≤ 16) {O : List Du} (hO : ∀ d ∈ O, MayD d ∧ d.f < n ∧ d.t < n) : paysL n (O.map turnD) = paysL n O := by
  have hO2 : ∀ d ∈ O.map turnD, MayD d ∧ d.f < n ∧ d.t < n := fun d hd => by
    obtain ⟨e, he, rfl⟩ := List.mem_map.1 hd
    obtain ⟨h1, h2, h3⟩ := hO e he
    exact ⟨turn_may h1, h3, h2⟩
  refine list_getD (by rw [paysL_len, paysL_len, List.length_map]) fun k hk => ?_
  rw [paysL_len] at hk
  have hk2 : k < (O.map turnD).length := by rw [List.length_map]; exact hk
  rw [paysL_at hk, paysL_at hk2]
  obtain ⟨h1, h2, h3⟩ := hO _ (List.getElem_mem hk)
  have f0 := h1.f0
  have t0 := h1.t0
  have e : (O.map turnD)[k] = turnD O[k] := List.getElem_map _
  rw [e]
  have g1 := (pays_inv hO (a := (O[k]).f.toNat) (b := (O[k]).t.toNat) (by omega) (by omega) hn k (by omega)).1
  have g2 := (pays_inv hO2 (a := (O[k]).t.toNat) (b := (O[k]).f.toNat) (by omega) (by omega) hn k (by omega)).1
  rw [turn_both, ← List.map_take, turn_owes] at g2
  unfold payX
  show min ((leftZ n (O.map turnD) k).getD ((O[k]).t.toNat * 16 + (O[k]).f.toNat) 0) (O[k]).x = _
  rw [g1, g2]
end Go.OffP
