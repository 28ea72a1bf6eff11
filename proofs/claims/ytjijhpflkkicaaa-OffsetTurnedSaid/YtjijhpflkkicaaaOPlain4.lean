/-
  What is left behind pays: plain.
-/
import Derived.Test.YtjijhpflkkicaaaOPlain3
set_option linter.unusedVariables false
set_option linter.unusedSimpArgs false
namespace Go.OffP
open Go Go.Mem Go.MoneyP Go.BuildP
/-- How many open dues there are ahead of due i. -/
def posO (l : List Du) (i : Nat) : Nat := (openL (l.take i)).length
def cutD (d : Du) (p : Int) : Du := { d with x := d.x - p }
def leftD (d : Du) (p : Int) : List Du := if d.h = true then [d] else if 0 < d.x - p then [cutD d p] else []
def leftO (l : List Du) (ps : List Int) : Nat → List Du
  | 0 => []
  | i + 1 => leftO l ps i ++ leftD (l.getD i default) (ps.getD (posO l i) 0)
def okD (d : Du) (p : Int) : Bool := d.h || decide (p ≤ d.x)
def okO (l : List Du) (ps : List Int) : Nat → Bool
  | 0 => true
  | i + 1 => okO l ps i && okD (l.getD i default) (ps.getD (posO l i) 0)
def leftE (l : List Du) (ps : List Int) : Int :=
  if (openL l).length ≠ ps.length then 1 else if ps.any (fun p => decide (p < 0)) = true then 1 else if okO l ps l.length = true then 0 else 12
def leftL (l : List Du) (ps : List Int) : List Du := leftO l ps l.length
theorem leftO_succ (l : List Du) (ps : List Int) (i : Nat) : leftO l ps (i + 1) = leftO l ps i ++ leftD (l.getD i default) (ps.getD (posO l i) 0) := rfl
theorem okO_succ (l : List Du) (ps : List Int) (i : Nat) : okO l ps (i + 1) = (okO l ps i && okD (l.getD i default) (ps.getD (posO l i) 0)) := rfl
theorem okO_stop {l : List Du} {ps : List Int} {i : Nat} (h : okO l ps i = false) : ∀ k, i ≤ k → okO l ps k = false
  | 0, hk => by
    obtain rfl : i = 0 := by omega
    exact h
  | k + 1, hk => by
    rcases Nat.lt_or_ge k i with q | q
    · obtain rfl : i = k + 1 := by omega
      exact h
    · rw [okO_succ, okO_stop h k q]; rfl
theorem posO_succ {l : List Du} {i : Nat} (h : i < l.length) : posO l (i + 1) = posO l i + if (l[i]).h = true then 0 else 1 := by
  unfold posO openL
  rw [List.take_succ_eq_append_getElem h, List.filter_append, List.length_append]
  cases q : (l[i]).h <;> simp [q]
theorem posO_le (l : List Du) (i : Nat) : posO l i ≤ (openL l).length := by
  unfold posO openL
  have : l.filter (fun d => !d.h) = (l.take i).filter (fun d => !d.h) ++ (l.drop i).filter (fun d => !d.h) := by rw [← List.filter_append, List.take_append_drop]
  rw [this, List.length_append]; omega
theorem posO_lt {l : List Du} {i : Nat} (h : i < l.length) (hh : (l[i]).h = false) : posO l i < (openL l).length := by
  have h1 := posO_succ h
  have h2 := posO_le l (i + 1)
  rw [hh] at h1
  simp at h1
  omega
theorem leftO_len (l : List Du) (ps : List Int) : ∀ i, (leftO l ps i).length ≤ i
  | 0 => Nat.le_refl _
  | i + 1 => by
    have ih := leftO_len l ps i
    rw [leftO_succ, List.length_append]
    have : (leftD (l.getD i default) (ps.getD (posO l i) 0)).length ≤ 1 := by
      unfold leftD; split
      · simp
      · split <;> simp
    omega
theorem drop_getD {ps : List Int} {k : Nat} : (ps.drop k).getD 0 0 = ps.getD k 0 := by
  simp [List.getD_eq_getElem?_getD]
end Go.OffP
