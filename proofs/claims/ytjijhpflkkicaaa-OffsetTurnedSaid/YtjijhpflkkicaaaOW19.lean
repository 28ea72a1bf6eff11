/-
  Package offset: Rings, walked.
-/
import Derived.Test.YtjijhpflkkicaaaOW18
set_option linter.unusedVariables false
set_option linter.unusedSimpArgs false
namespace Go.Mem
open Go Go.RowKit
section
variable {P : Program} {w0 w : World} {L : List Thing}
/-- 'make([]int, 0, n)'. -/
theorem wpList_makeInts0 {ops : Array Oper} {rest : List Oper} {o : Oper} {a : Act} {Q : Exit → Act → World → Prop} (hgd : o.guard = none) (x y : Operand) (t : TypeId)
    (ho : o.op = .makeSlice t x y) (e : TypeId) (i : TypeInfo) (k : IntKind) (bytes : Nat) (ht : P.underlying t = some (.slice e)) (hi : P.info? e = some i) (hz : i.zero = some (.int k 0))
    (hsize : i.size = 1) (hby : i.bytes = bytes) (n : Nat) (kl kc : IntKind) (hx : a.eval x = .int kl 0) (hy : a.eval y = .int kc n) (hsep : Sep w0 w L)
    (h63 : n ≤ maxLen) (hbytes : bytes * n ≤ 281474976710656)
    (h : ∀ w' g, Sep w0 w' (intsT k e (.slice (some ⟨g, 0, none⟩) 0 n) [] :: L) → wpList P ops Q rest (a.put o.dst (.slice (some ⟨g, 0, none⟩) 0 n)) w') :
    wpList P ops Q (o :: rest) a w := by
  refine wpList_plain hgd fun K hK => ?_
  have hb : (i.bytes : Int) * (n : Int) ≤ 281474976710656 := by
    rw [hby]
    have : ((bytes * n : Nat) : Int) ≤ 281474976710656 := by omega
    rwa [Int.natCast_mul] at this
  have h63' := h63
  simp only [maxLen] at h63'
  have hr := run_make (P := P) w t e i (.int k 0) ht hi hz kl kc (0 : Int) (n : Int) (by omega) (by omega) hb (by omega)
  simp only [Int.toNat_natCast, Int.toNat_zero, hsize, madeCells_int] at hr
  have hs := (hsep.litInts k e (List.replicate n 0) (by simpa using h63)).shortInts 0 rfl 0 (Nat.zero_le _)
  simp only [List.length_replicate, List.take_zero, List.set_cons_zero] at hs
  unfold Oper.wp execOp
  simp only [ho, hx, hy, Sem.run_bind, Sem.run_pure, Result.andThen_ok, hr]
  exact hK _ _ (h _ _ hs)
end
end Go.Mem
namespace Go.Proofs.Ytjijhpflkkicaaa
open Go Go.RowKit Go.Mem Go.MoneyP Go.NetP Go.BuildP Go.OffP Go.Shelf
/-- What Rings answers. -/
def RingsD (n : Int) (l : List Du) (w : World) (en : Ending) (w' : World) : Prop :=
  (netsE n l ≠ 0 ∧ en = .returned (.tuple #[.slice none 0 0, .int .i64 0, .int .i64 (netsE n l)]) ∧ Below w.heap.size w w') ∨
  (netsE n l = 0 ∧ ∃ (v : Value) (ps : List Int) (r : Nat), en = .returned (.tuple #[v, .int .i64 r, .int .i64 0]) ∧ RingsR (openL l) ps r ∧ Sep w w' [intsT .i64 2 v ps])
end Go.Proofs.Ytjijhpflkkicaaa
