/-
  Dues, rounds, what is permitted and what it is worth: plain.
-/
import Derived.Test.YthcmkljdhhepgaaMPlain
import Derived.Test.YthcmkljdhhepgaaNA
import Derived.Test.YthcmkljdhhepgaaLA
set_option linter.unusedVariables false
set_option linter.unusedSimpArgs false
namespace Go.BuildP
open Go Go.RowKit Go.Mem Go.MoneyP Go.NetP

/-- A due. -/
structure Du where
  id : Int
  f : Int
  t : Int
  x : Int
  w : Int
  u : Int
  h : Bool
deriving DecidableEq
instance : Inhabited Du := ⟨⟨0, 0, 0, 0, 0, 0, false⟩⟩
def duR : Rec Du where
  m := 7
  cells d := [.int .u64 d.id, .int .i64 d.f, .int .i64 d.t, .int .i64 d.x, .int .i64 d.w, .int .i64 d.u, .bool d.h]
  len _ := rfl
  one d u hu := by
    simp only [List.mem_cons, List.not_mem_nil, or_false] at hu
    rcases hu with rfl | rfl | rfl | rfl | rfl | rfl | rfl <;> rfl
  pos := by decide
def Du.val (d : Du) : Value := .agg #[.int .u64 d.id, .int .i64 d.f, .int .i64 d.t, .int .i64 d.x, .int .i64 d.w, .int .i64 d.u, .bool d.h]
def bankB (k : Int) : Bool := decide (0 ≤ k) && decide (k < 16)
/-- May a due be? -/
def mayD (d : Du) : Bool := bankB d.f && bankB d.t && decide (d.f ≠ d.t) && decide (1 ≤ d.x) && mayB d.x && decide (1 ≤ d.w) && decide (d.w ≤ 1000) && decide (0 ≤ d.u)
structure MayD (d : Du) : Prop where
  f0 : 0 ≤ d.f
  f1 : d.f < 16
  t0 : 0 ≤ d.t
  t1 : d.t < 16
  ne : d.f ≠ d.t
  x0 : 1 ≤ d.x
  x1 : d.x ≤ 4503599627370496
  w0 : 1 ≤ d.w
  w1 : d.w ≤ 1000
  u0 : 0 ≤ d.u
theorem mayD_iff (d : Du) : mayD d = true ↔ MayD d := by
  simp only [mayD, bankB, mayB, Bool.and_eq_true, decide_eq_true_eq]
  constructor
  · rintro ⟨⟨⟨⟨⟨⟨⟨⟨a, b⟩, ⟨c, d⟩⟩, e⟩, f⟩, ⟨_, g⟩⟩, h⟩, i⟩, j⟩
    exact ⟨a, b, c, d, e, f, g, h, i, j⟩
  · rintro ⟨a, b, c, d, e, f, g, h, i, j⟩
    exact ⟨⟨⟨⟨⟨⟨⟨⟨a, b⟩, ⟨c, d⟩⟩, e⟩, f⟩, ⟨by omega, g⟩⟩, h⟩, i⟩, j⟩
/-- May a due be in a round of n banks? -/
def inD (n : Nat) (d : Du) : Bool := decide (d.f < n) && decide (d.t < n)
def rightR (rooms : List Int) (l : List Du) : Bool := decide (rooms.length ≤ 16) && decide (l.length ≤ 64) && mays rooms && l.all (fun d => mayD d && inD rooms.length d) && decide ((l.map (·.x)).sum ≤ 4503599627370496)
def openL (l : List Du) : List Du := l.filter fun d => !d.h
def dueE (d : Du) : Ed := ⟨d.f, d.t, d.x, -d.w⟩
def hubE (rooms : List Int) (k : Nat) : List Ed := [⟨rooms.length, k, rooms.getD k 0, 0⟩, ⟨k, rooms.length, 4503599627370496, 0⟩]
/-- The net of a round. -/
def edgesL (rooms : List Int) (l : List Du) (c : Bool) : List Ed := (openL l).map dueE ++ if c then [] else (List.range rooms.length).flatMap (hubE rooms)
/-- May so much be paid of a due? -/
def payB (q : Du × Int) : Bool := decide (0 ≤ q.2) && decide (q.2 ≤ q.1.x)
/-- What goes out of each bank, by one pay; what is left of its room. -/
def stepO (o : List Int) (q : Du × Int) : List Int := (o.set q.1.f.toNat (o.getD q.1.f.toNat 0 + q.2)).set q.1.t.toNat ((o.set q.1.f.toNat (o.getD q.1.f.toNat 0 + q.2)).getD q.1.t.toNat 0 - q.2)
def stepL (o : List Int) (q : Du × Int) : List Int := (o.set q.1.f.toNat (o.getD q.1.f.toNat 0 - q.2)).set q.1.t.toNat ((o.set q.1.f.toNat (o.getD q.1.f.toNat 0 - q.2)).getD q.1.t.toNat 0 + q.2)
def outQ (n : Nat) (Q : List (Du × Int)) : List Int := Q.foldl stepO (List.replicate n 0)
def fitI (rooms : List Int) (c : Bool) (o : List Int) (i : Nat) : Bool := decide (o.getD i 0 ≤ rooms.getD i 0) && (!c || decide (o.getD i 0 = 0))
def permitQ (rooms : List Int) (Q : List (Du × Int)) (c : Bool) : Bool := Q.all payB && (List.range rooms.length).all (fitI rooms c (outQ rooms.length Q))
/-- Is that permitted? -/
def permitB (rooms : List Int) (l : List Du) (c : Bool) (ps : List Int) : Bool := rightR rooms l && decide ((openL l).length = ps.length) && permitQ rooms ((openL l).zip ps) c
/-- What it is worth. -/
def worthQ (Q : List (Du × Int)) : Int := (Q.map fun q => q.1.w * q.2).sum
/-- A due that is open in a round of n banks. -/
def GoodQ (n : Nat) (Q : List (Du × Int)) : Prop := (∀ q ∈ Q, MayD q.1 ∧ q.1.f < n ∧ q.1.t < n) ∧ (Q.map (·.1.x)).sum ≤ 4503599627370496
theorem out_len (Q : List (Du × Int)) : ∀ o : List Int, (Q.foldl stepO o).length = o.length := by
  induction Q with
  | nil => intro o; rfl
  | cons q t ih => intro o; rw [List.foldl_cons, ih]; simp [stepO]
theorem left_len (Q : List (Du × Int)) : ∀ o : List Int, (Q.foldl stepL o).length = o.length := by
  induction Q with
  | nil => intro o; rfl
  | cons q t ih => intro o; rw [List.foldl_cons, ih]; simp [stepL]
theorem getD_set (o : List Int) (k j : Nat) (x : Int) (hk : k < o.length) : (o.set k x).getD j 0 = if k = j then x else o.getD j 0 := by
  rw [List.getD_eq_getElem?_getD, List.getD_eq_getElem?_getD]
  by_cases h : k = j
  · subst h; simp [hk]
  · simp [h, List.getElem?_set_ne h]
theorem stepO_at {o : List Int} {q : Du × Int} (h : MayD q.1) (hf : q.1.f < o.length) (ht : q.1.t < o.length) (j : Nat) : (stepO o q).getD j 0 = o.getD j 0 + (if q.1.f.toNat = j then q.2 else 0) - (if q.1.t.toNat = j then q.2 else 0) := by
  have h1 := h.f0; have h2 := h.t0; have h3 := h.ne
  unfold stepO
  rw [getD_set _ _ _ _ (by rw [List.length_set]; omega), getD_set _ _ _ _ (by omega), getD_set _ _ _ _ (by omega)]
  have hne : q.1.f.toNat ≠ q.1.t.toNat := by omega
  by_cases a : q.1.t.toNat = j <;> by_cases b : q.1.f.toNat = j <;> simp [a, b] <;> omega
theorem stepL_at {o : List Int} {q : Du × Int} (h : MayD q.1) (hf : q.1.f < o.length) (ht : q.1.t < o.length) (j : Nat) : (stepL o q).getD j 0 = o.getD j 0 - (if q.1.f.toNat = j then q.2 else 0) + (if q.1.t.toNat = j then q.2 else 0) := by
  have h1 := h.f0; have h2 := h.t0; have h3 := h.ne
  unfold stepL
  rw [getD_set _ _ _ _ (by rw [List.length_set]; omega), getD_set _ _ _ _ (by omega), getD_set _ _ _ _ (by omega)]
  have hne : q.1.f.toNat ≠ q.1.t.toNat := by omega
  by_cases a : q.1.t.toNat = j <;> by_cases b : q.1.f.toNat = j <;> simp [a, b] <;> omega
theorem left_out {n : Nat} : ∀ (Q : List (Du × Int)) (s o : List Int), s.length = n → o.length = n → (∀ q ∈ Q, MayD q.1 ∧ q.1.f < n ∧ q.1.t < n) → ∀ j, (Q.foldl stepL s).getD j 0 = s.getD j 0 + o.getD j 0 - (Q.foldl stepO o).getD j 0
  | [], s, o, _, _, _, j => by simp
  | q :: t, s, o, hs, ho, h, j => by
    obtain ⟨h1, h2, h3⟩ := h q List.mem_cons_self
    rw [List.foldl_cons, List.foldl_cons, left_out t (stepL s q) (stepO o q) (by simp [stepL, hs]) (by simp [stepO, ho]) (fun p hp => h p (List.mem_cons_of_mem _ hp)) j, stepL_at h1 (by rw [hs]; exact h2) (by rw [hs]; exact h3), stepO_at h1 (by rw [ho]; exact h2) (by rw [ho]; exact h3)]
    omega
/-- What goes out of a bank is no more than all. -/
theorem out_bound {n : Nat} : ∀ (Q : List (Du × Int)) (o : List Int), o.length = n → (∀ q ∈ Q, MayD q.1 ∧ q.1.f < n ∧ q.1.t < n) → Q.all payB = true → ∀ j, o.getD j 0 - (Q.map (·.1.x)).sum ≤ (Q.foldl stepO o).getD j 0 ∧ (Q.foldl stepO o).getD j 0 ≤ o.getD j 0 + (Q.map (·.1.x)).sum
  | [], o, _, _, _, j => by simp
  | q :: t, o, ho, h, hp, j => by
    obtain ⟨h1, h2, h3⟩ := h q List.mem_cons_self
    rw [List.all_cons, Bool.and_eq_true] at hp
    have hq : 0 ≤ q.2 ∧ q.2 ≤ q.1.x := by simpa [payB] using hp.1
    have ih := out_bound t (stepO o q) (by simp [stepO, ho]) (fun p hp => h p (List.mem_cons_of_mem _ hp)) hp.2 j
    rw [List.foldl_cons, List.map_cons, List.sum_cons]
    rw [stepO_at h1 (by rw [ho]; exact h2) (by rw [ho]; exact h3)] at ih
    have hne : q.1.f.toNat ≠ q.1.t.toNat := by have := h1.f0; have := h1.t0; have := h1.ne; omega
    have hs : (t.map fun x => x.1.x).sum = (t.map fun x => x.1.x).sum := rfl
    by_cases a : q.1.t.toNat = j <;> by_cases b : q.1.f.toNat = j <;> simp only [a, b, if_true, if_false] at ih <;> omega
theorem worth_bound : ∀ (Q : List (Du × Int)), (∀ q ∈ Q, MayD q.1) → Q.all payB = true → 0 ≤ worthQ Q ∧ worthQ Q ≤ 1000 * (Q.map (·.1.x)).sum
  | [], _, _ => by simp [worthQ]
  | q :: t, h, hp => by
    rw [List.all_cons, Bool.and_eq_true] at hp
    have hq : 0 ≤ q.2 ∧ q.2 ≤ q.1.x := by simpa [payB] using hp.1
    have h1 := h q List.mem_cons_self
    have ih := worth_bound t (fun p hp => h p (List.mem_cons_of_mem _ hp)) hp.2
    unfold worthQ at ih ⊢
    rw [List.map_cons, List.sum_cons, List.map_cons, List.sum_cons]
    have h2 : 0 ≤ q.1.w * q.2 := Int.mul_nonneg (by have := h1.w0; omega) hq.1
    have h3 : q.1.w * q.2 ≤ 1000 * q.1.x := Int.mul_le_mul h1.w1 hq.2 hq.1 (by omega)
    omega
end Go.BuildP
