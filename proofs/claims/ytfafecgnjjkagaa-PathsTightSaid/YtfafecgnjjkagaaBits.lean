/-
  The last bit of an integer. Plain lemmas.
-/
import Derived.Laws.BitsLemmas
namespace Go.Mem
open Go
theorem wraps_i64 (n : Int) (h₀ : 0 ≤ n) (h₁ : n < 2 ^ 63) : IntKind.i64.wrap n = n := by rw [IntKind.wrap_i64]; omega
theorem and1_i64 (a : Nat) (h : a < 9223372036854775808) : bits .and .i64 (a : Int) 1 = (a : Int) % 2 := bits_mask .i64 63 (by decide) wraps_i64 1 (by decide) (a : Int) (by omega) (by omega)
theorem xor_i64 (a b : Nat) (ha : a < 9223372036854775808) (hb : b < 9223372036854775808) : bits .xor .i64 (a : Int) (b : Int) = ((a ^^^ b : Nat) : Int) := by
  have ha' : a % 2 ^ 64 = a := Nat.mod_eq_of_lt (by omega)
  have hb' : b % 2 ^ 64 = b := Nat.mod_eq_of_lt (by omega)
  have hx : a ^^^ b < 2 ^ 63 := Nat.xor_lt_two_pow (by omega) (by omega)
  simp only [bits, BitVec.ofInt_natCast, BitVec.toNat_xor, BitVec.toNat_ofNat, show IntKind.i64.bits = 64 from rfl, ha', hb']
  exact wraps_i64 _ (Int.natCast_nonneg _) (by omega)
/-- The other one of two. -/
def flip (a : Nat) : Nat := if a % 2 = 0 then a + 1 else a - 1
theorem xor1 (a : Nat) : a ^^^ 1 = flip a := by
  unfold flip
  have h1 : (a ^^^ 1) % 2 = 1 ↔ ¬ (a % 2 = 1 ↔ 1 % 2 = 1) := Nat.xor_mod_two_eq_one
  have h2 : (a ^^^ 1) / 2 = a / 2 := by
    have := Nat.shiftRight_xor_distrib (a := a) (b := 1) (i := 1)
    simpa [Nat.shiftRight_eq_div_pow] using this
  split <;> omega
theorem xor1_i64 (a : Nat) (ha : a < 9223372036854775808) : bits .xor .i64 (a : Int) 1 = (flip a : Int) := by
  have := xor_i64 a 1 ha (by decide)
  rw [xor1] at this
  exact this
end Go.Mem
