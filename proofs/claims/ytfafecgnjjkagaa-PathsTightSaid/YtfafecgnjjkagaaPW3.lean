/-
  Package paths: the finder as it lies; better, walked.
-/
import Derived.Test.YtfafecgnjjkagaaPW2
import Derived.Test.YtfafecgnjjkagaaHSep
namespace Go.Proofs.Ytfafecgnjjkagaa
open Go Go.RowKit Go.Mem Go.NetP Go.RestP Go.CertP Go.PathP

/-- A finder's blocks, and the arcs that leave each node. -/
structure Fi where
  bf : Nat
  go : Nat
  gd : Nat
  gh : Nat
  gb : Nat
  n : Nat
  rows : List (Value × List Ar)
  ex : List Thing
def Fi.cells (F : Fi) : Array Value := #[.slice (some ⟨F.go, 0, none⟩) F.n F.n, .slice (some ⟨F.gd, 0, none⟩) F.n F.n, .slice (some ⟨F.gh, 0, none⟩) F.n F.n, .slice (some ⟨F.gb, 0, none⟩) F.n F.n]
def rowsL (rows : List (Value × List Ar)) : List Thing := rows.map fun p => recT arR 45 p.1 p.2
/-- The finder, with its numbers. -/
def fiL (F : Fi) (D H B : List Int) : List Thing :=
  cellsT F.bf F.cells 49 :: intsT .i64 2 (.slice (some ⟨F.gd, 0, none⟩) F.n F.n) D :: intsT .i64 3 (.slice (some ⟨F.gh, 0, none⟩) F.n F.n) H :: intsT .i64 3 (.slice (some ⟨F.gb, 0, none⟩) F.n F.n) B ::
    cellsT F.go (F.rows.map (·.1)).toArray 50 :: (rowsL F.rows ++ F.ex)
theorem rows_at {F : Fi} {u : Nat} (hu : u < F.rows.length) (A1 A2 A3 A4 A5 A6 : Thing) : (A1 :: A2 :: A3 :: A4 :: A5 :: A6 :: (rowsL F.rows ++ F.ex))[6 + u]? = some (recT arR 45 F.rows[u].1 F.rows[u].2) := by
  rw [show 6 + u = u + 1 + 1 + 1 + 1 + 1 + 1 by omega]
  simp only [List.getElem?_cons_succ]
  unfold rowsL
  rw [List.getElem?_append_left (by simpa using hu), List.getElem?_map, List.getElem?_eq_getElem hu]
  rfl
/-- What better asks, of numbers. -/
def betX (X Y x y : Int) : Bool := decide (X = -1) || decide (x < X) || (decide (x = X) && decide (y < Y))
theorem betX_eq (D H : List Int) (v : Nat) (x y : Int) : betX (g D v) (g H v) x y = bet (g D) (g H) v x y := rfl
set_option maxHeartbeats 1000000 in
theorem better_any (BF gd gh n : Nat) (vo vb : Value) (D H : List Int) (v : Nat) (x y : Int) (w : World) (hf : w.heap[BF]? = some (.cells #[vo, .slice (some ⟨gd, 0, none⟩) n n, .slice (some ⟨gh, 0, none⟩) n n, vb] 49 (0, 0)))
    (hd : Rd .i64 w (.slice (some ⟨gd, 0, none⟩) n n) D) (hh : Rd .i64 w (.slice (some ⟨gh, 0, none⟩) n n) H) (hv : v < n) :
    Calls Try.prog 38 #[.pointer (some ⟨BF, 0, none⟩), .int .i64 v, .int .i64 x, .int .i64 y] w fun e w' => e = .returned (.bool (bet (g D) (g H) v x y)) ∧ w' = w := by
  have e1 := hd.len
  have e2 := hh.len
  obtain ⟨b1, o1, q1, _, x0⟩ := hd.at v (by omega)
  obtain ⟨b2, o2, q2, _, y0⟩ := hh.at v (by omega)
  injection q1 with q1
  injection q1 with q1 q3
  subst q1; subst q3
  injection q2 with q2
  injection q2 with q2 q3
  subst q2; subst q3
  have f1 := cell_of hf 1
  have f2 := cell_of hf 2
  simp only [List.getElem?_toArray, List.getElem?_cons_zero, List.getElem?_cons_succ] at f1 f2
  rw [Nat.zero_add] at x0 y0
  have HB := Lib.hid (betX_eq D H v x y)
  have hle := hd.le'
  obtain ⟨X, hX⟩ : ∃ X, X = D.getD v 0 := ⟨_, rfl⟩
  obtain ⟨Y, hY⟩ : ∃ Y, Y = H.getD v 0 := ⟨_, rfl⟩
  rw [show g D v = X from hX.symm, show g H v = Y from hY.symm] at HB
  rw [← hX] at x0
  rw [← hY] at y0
  have hvn : (v : Int) < n := by omega
  clear hX hY hd hh e2 hf
  by_cases c1 : X = -1
  · have HR := Lib.hid (show betX X Y x y = true by simp [betX, c1])
    have d1 : (X == -1) = true := by simpa using c1
    clear c1
    go_enter Try.func38, Try.ntmps38
    go_wp2_with fail
    go_ret
    exact ⟨by rw [← HB.out, HR.out]; rfl, rfl⟩
  have d1 : (X == -1) = false := by simpa using c1
  by_cases c2 : x < X
  · have HR := Lib.hid (show betX X Y x y = true by simp [betX, c2])
    have d2 : decide (x < X) = true := decide_eq_true c2
    clear c1 c2
    go_enter Try.func38, Try.ntmps38
    go_wp2_with fail
    go_ret
    exact ⟨by rw [← HB.out, HR.out]; rfl, rfl⟩
  have d2 : decide (x < X) = false := decide_eq_false c2
  by_cases c3 : x = X
  · have HR := Lib.hid (show betX X Y x y = decide (y < Y) by simp [betX, c1, c3])
    have d3 : (x == X) = true := by simpa using c3
    clear c1 c2 c3
    go_enter Try.func38, Try.ntmps38
    go_wp2_with fail
    go_ret
    exact ⟨by rw [← HB.out, HR.out]; rfl, rfl⟩
  have HR := Lib.hid (show betX X Y x y = false by simp [betX, c1, c2, c3])
  have d3 : (x == X) = false := by simpa using c3
  clear c1 c2 c3
  go_enter Try.func38, Try.ntmps38
  go_wp2_with fail
  go_ret
  exact ⟨by rw [← HB.out, HR.out]; rfl, rfl⟩
end Go.Proofs.Ytfafecgnjjkagaa
