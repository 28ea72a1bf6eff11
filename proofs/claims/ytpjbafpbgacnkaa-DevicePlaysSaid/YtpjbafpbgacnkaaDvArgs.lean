/-
  Pairs of bytes that come in.
-/
import Derived.Test.YtpjbafpbgacnkaaDvKeepW
import Derived.Test.YtpjbafpbgacnkaaDvArmsW
set_option linter.unusedVariables false
set_option linter.unusedSimpArgs false
namespace Go.Mem
open Go Go.ChangeShapes Go.WideShapes
theorem okWide_cap {P : Program} {w : World} {r : Reach} {base : Nat} {t e : TypeId} {a : Option Addr} {len cap : Nat} (ht : P.underlying t = some (.slice e)) (h : Value.okWide P w r base t (.slice a len cap)) : len ≤ cap := by
  simp only [Value.okWide, ht, Cell.okWide] at h
  cases a with
  | none =>
    unfold Cell.ok at h
    rw [ht] at h
    split at h <;> simp_all
  | some a =>
    unfold Cell.ok at h
    rw [ht] at h
    simp at h
    exact h.1
end Go.Mem
namespace Go.DevP
/-- What a pair's cells hold. -/
def PrOk (y : Int × Int) : Prop := (0 ≤ y.1 ∧ y.1 ≤ 255) ∧ 0 ≤ y.2 ∧ y.2 ≤ 255
end Go.DevP
namespace Go.Proofs.Ytpjbafpbgacnkaa
open Go Go.RowKit Go.Mem Go.DevP Go.ChangeShapes Go.WideShapes
theorem open_pr {H : Type} {enc : TypeId × Value → H} {w : World} {base : Nat} {held : Bool} (n : Nat) (cs : List Value) (y : DataW H × List MemPlace)
    (h : DataW.trod enc Try.prog w base (fun _ => true) held n 46 cs = some y) : ∃ p : Int × Int, cs = prR.cells p ∧ PrOk p := by
  obtain ⟨f, hl, hf⟩ := Mem.leaves_array (m := 2) (k := .u8) Try.underlying46 Try.underlying5 (by kernel_rfl) (by kernel_rfl) h
  have h0 := hf 0 .u8 rfl
  have h1 := hf 1 .u8 rfl
  match cs, hl with
  | [c0, c1], _ =>
    obtain ⟨e0, q0⟩ := h0
    obtain ⟨e1, q1⟩ := h1
    injection e0 with e0
    injection e1 with e1
    subst e0
    subst e1
    exact ⟨(f 0, f 1), rfl, u8_wf q0, u8_wf q1⟩
end Go.Proofs.Ytpjbafpbgacnkaa
