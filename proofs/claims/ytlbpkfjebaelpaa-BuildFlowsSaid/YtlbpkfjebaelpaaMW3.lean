/-
  Package money, walked: Shift.
-/
import Derived.Test.YtlbpkfjebaelpaaMW2
namespace Go.Proofs.Ytlbpkfjebaelpaa
open Go Go.RowKit Go.Mem Go.MoneyP

theorem nn {a b : Nat} (h : a = b) : ((a : Int) != (b : Int)) = false := by rw [h]; simp
theorem nn' {a b : Nat} (h : a ≠ b) : ((a : Int) != (b : Int)) = true := by rw [bne_iff_ne]; omega
theorem nb {a b : Nat} (h : a ≠ b) : ((a : Int) == (b : Int)) = false := by rw [beq_eq_false_iff_ne]; omega
theorem snoc_take {m : List Int} {i : Nat} (h : i < m.length) : m.take i ++ [m.getD i 0] = m.take (i + 1) := (take_snoc h).symm

end Go.Proofs.Ytlbpkfjebaelpaa
