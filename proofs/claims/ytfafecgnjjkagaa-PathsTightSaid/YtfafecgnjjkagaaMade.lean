/-
  Single operations, run: what a region that makes things is made of. Plain lemmas over any program.
-/
import Derived.Test.YtfafecgnjjkagaaMix3
import Derived.Test.YtfafecgnjjkagaaRec
namespace Go.Mem
open Go Go.RowKit
section
variable {P : Program} {w w0 : World} {L : List Thing} {ρ : Operand → Value}
theorem madeCells_one (z : Value) (hz : z.cells = #[z]) (n : Nat) : madeCells z.cells (n * 1) = Array.replicate n z := by
  apply Array.ext'
  simp only [madeCells, hz, Nat.mul_one]
  apply List.ext_getElem
  · simp
  · intro i h1 h2
    simp [Nat.mod_one]
/-- 'make([]E, n)' of elements of one cell. -/
theorem exec_make1 (o : Oper) (t : TypeId) (x y : Operand) (ho : o.op = .makeSlice t x y) (e : TypeId) (i : TypeInfo) (z : Value) (bytes : Nat) (ht : P.underlying t = some (.slice e)) (hi : P.info? e = some i) (hz : i.zero = some z) (hz1 : z.cells = #[z])
    (hsize : i.size = 1) (hby : i.bytes = bytes) (n : Nat) (kl kc : IntKind) (hx : ρ x = .int kl n) (hy : ρ y = .int kc n) (hsep : Sep w0 w L) (h63 : n ≤ maxLen) (hbytes : bytes * n ≤ 281474976710656) :
    ∃ g w', (execOp ρ o).run P w = .ok (.value (.slice (some ⟨g, 0, none⟩) n n)) w' ∧ Sep w0 w' (cellsT g (Array.replicate n z) e :: L) := by
  have hb : (i.bytes : Int) * (n : Int) ≤ 281474976710656 := by
    rw [hby]
    have : ((bytes * n : Nat) : Int) ≤ 281474976710656 := by omega
    rwa [Int.natCast_mul] at this
  have h63' := h63
  simp only [maxLen] at h63'
  have hr := run_make (P := P) w t e i z ht hi hz kl kc (n : Int) (n : Int) (by omega) (Int.le_refl _) hb (by omega)
  simp only [Int.toNat_natCast, hsize, madeCells_one z hz1] at hr
  refine ⟨w.heap.size, _, ?_, hsep.newCells (Array.replicate n z) e⟩
  unfold execOp
  simp only [ho, hx, hy, Sem.run_bind, Sem.run_pure, Result.andThen_ok, hr]
/-- 'make([]int, n)'. -/
theorem exec_makeInts (o : Oper) (t : TypeId) (x y : Operand) (ho : o.op = .makeSlice t x y) (e : TypeId) (i : TypeInfo) (k : IntKind) (bytes : Nat) (ht : P.underlying t = some (.slice e)) (hi : P.info? e = some i) (hz : i.zero = some (.int k 0))
    (hsize : i.size = 1) (hby : i.bytes = bytes) (n : Nat) (kl kc : IntKind) (hx : ρ x = .int kl n) (hy : ρ y = .int kc n) (hsep : Sep w0 w L) (h63 : n ≤ maxLen) (hbytes : bytes * n ≤ 281474976710656) :
    ∃ g w', (execOp ρ o).run P w = .ok (.value (.slice (some ⟨g, 0, none⟩) n n)) w' ∧ Sep w0 w' (intsT k e (.slice (some ⟨g, 0, none⟩) n n) (List.replicate n 0) :: L) := by
  have hb : (i.bytes : Int) * (n : Int) ≤ 281474976710656 := by
    rw [hby]
    have : ((bytes * n : Nat) : Int) ≤ 281474976710656 := by omega
    rwa [Int.natCast_mul] at this
  have h63' := h63
  simp only [maxLen] at h63'
  have hr := run_make (P := P) w t e i (.int k 0) ht hi hz kl kc (n : Int) (n : Int) (by omega) (Int.le_refl _) hb (by omega)
  simp only [Int.toNat_natCast, hsize, madeCells_int] at hr
  have hs := hsep.litInts k e (List.replicate n 0) (by simpa using h63)
  simp only [List.length_replicate] at hs
  refine ⟨w.heap.size, _, ?_, hs⟩
  unfold execOp
  simp only [ho, hx, hy, Sem.run_bind, Sem.run_pure, Result.andThen_ok, hr]
end
end Go.Mem
