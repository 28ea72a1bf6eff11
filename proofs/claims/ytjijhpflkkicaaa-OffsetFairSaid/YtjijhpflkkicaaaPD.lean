/-
  The reference of paths, walked.
-/
import Derived.Test.YtjijhpflkkicaaaRA
import Derived.Test.YtjijhpflkkicaaaPA
import Derived.Test.YtjijhpflkkicaaaPC
set_option linter.unusedVariables false
set_option linter.unusedSimpArgs false
namespace Go.PathP
open Go Go.Mem Go.NetP Go.RestP Go.CertP
theorem RS.start (n : Nat) (zs : List Int) {D : List Int} (hl : D.length = n) (h : ∀ v, v < n → g D v = -1) : RS n zs 0 D := ⟨hl, fun z hz => by simp at hz, fun v hv => .inr ⟨by simp, h v hv⟩⟩
end Go.PathP
namespace Go.Proofs.Ytjijhpflkkicaaa
open Go Go.RowKit Go.Mem Go.NetP Go.RestP Go.CertP Go.PathP Go.Shelf
/-- The reference's numbers. -/
def refL (b1 b2 b3 N nb : Nat) (cs : Array Value) (D H B : List Int) : List Thing :=
  [intsT .i64 3 (.slice (some ⟨b3, 0, none⟩) N N) B, intsT .i64 3 (.slice (some ⟨b2, 0, none⟩) N N) H, intsT .i64 2 (.slice (some ⟨b1, 0, none⟩) N N) D, cellsT nb cs 48]
end Go.Proofs.Ytjijhpflkkicaaa
namespace Go.Proofs.Ytjijhpflkkicaaa
open Go Go.RowKit Go.Mem Go.NetP Go.RestP Go.CertP Go.PathP Go.Shelf
/-- What Ways answers, as numbers. -/
def WD (nn : Int) (es : List Ed) (fl pot zs D B : List Int) (er : Int) : Prop :=
  ((fitsB nn es fl pot && fromB nn.toNat zs) = false ∧ D = [] ∧ B = [] ∧ er = 1) ∨
  ((fitsB nn es fl pot && fromB nn.toNat zs) = true ∧ er = 0 ∧ WS (arcsL es fl pot) (· ∈ fromN zs) nn.toNat maxL D B)
theorem WD.len {nn : Int} {es : List Ed} {fl pot zs D B : List Int} {er : Int} (h : WD nn es fl pot zs D B er) : B.length = D.length ∧ D.length ≤ 40 := by
  rcases h with ⟨_, rfl, rfl, _⟩ | ⟨h1, _, h2⟩
  · simp
  · rw [h2.lD, h2.lB]
    simp only [Bool.and_eq_true] at h1
    have := right_cap (fits_parts h1.1).2.1
    exact ⟨rfl, by omega⟩
/-- The same, as a call's answer. -/
def WaysU (nn : Int) (es : List Ed) (fl pot zs : List Int) (w : World) (en : Ending) (w' : World) : Prop :=
  ∃ D B er ad cd ab cb, WD nn es fl pot zs D B er ∧ en = .returned (.tuple #[.slice ad D.length cd, .slice ab D.length cb, .int .i64 er]) ∧ Sep w w' [intsT .i64 2 (.slice ad D.length cd) D, intsT .i64 3 (.slice ab D.length cb) B]
end Go.Proofs.Ytjijhpflkkicaaa
