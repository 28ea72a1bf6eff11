/-
  The reference of paths, walked.
-/
import Derived.Test.YtlbpkfjebaelpaaRA
import Derived.Test.YtlbpkfjebaelpaaPA
import Derived.Test.YtlbpkfjebaelpaaPC
set_option linter.unusedVariables false
set_option linter.unusedSimpArgs false
namespace Go.PathP
open Go Go.Mem Go.NetP Go.RestP Go.CertP
theorem RS.start (n : Nat) (zs : List Int) {D : List Int} (hl : D.length = n) (h : ∀ v, v < n → g D v = -1) : RS n zs 0 D := ⟨hl, fun z hz => by simp at hz, fun v hv => .inr ⟨by simp, h v hv⟩⟩
theorem from_no {n : Nat} {zs : List Int} {k : Nat} (hk : k < zs.length) (h : zs.getD k 0 < 0 ∨ (n : Int) ≤ zs.getD k 0) : fromB n zs = false := by
  have e : zs.getD k 0 = zs[k] := by rw [List.getD_eq_getElem?_getD, List.getElem?_eq_getElem hk]; rfl
  rw [Bool.eq_false_iff]; intro q
  simp only [fromB, Bool.and_eq_true] at q
  have := nodeI_iff.1 (List.all_eq_true.1 q.1 _ (List.getElem_mem hk))
  omega
theorem RS.isB {n : Nat} {zs : List Int} {D : List Int} (h : RS n zs zs.length D) (hz : 0 < zs.length) : fromB n zs = true := by
  have ha := h.all_
  rw [List.take_length] at ha
  simp only [fromB, Bool.and_eq_true]
  refine ⟨List.all_eq_true.2 fun z hz => nodeI_iff.2 (ha z hz), decide_eq_true fun e => ?_⟩
  subst e; simp at hz
theorem RS.at_end {n : Nat} {zs : List Int} {D : List Int} (h : RS n zs zs.length D) : ∀ v, v < n → (v ∈ fromN zs ∧ g D v = 0) ∨ (¬ v ∈ fromN zs ∧ g D v = -1) := by
  have := h.at_
  rw [List.take_length] at this
  exact this
end Go.PathP
namespace Go.Proofs.Ytlbpkfjebaelpaa
open Go Go.RowKit Go.Mem Go.NetP Go.RestP Go.CertP Go.PathP Go.Shelf
/-- The reference's numbers. -/
def refL (b1 b2 b3 N nb : Nat) (cs : Array Value) (D H B : List Int) : List Thing :=
  [intsT .i64 3 (.slice (some ⟨b3, 0, none⟩) N N) B, intsT .i64 3 (.slice (some ⟨b2, 0, none⟩) N N) H, intsT .i64 2 (.slice (some ⟨b1, 0, none⟩) N N) D, cellsT nb cs 28]
end Go.Proofs.Ytlbpkfjebaelpaa
namespace Go.Proofs.Ytlbpkfjebaelpaa
open Go Go.RowKit Go.Mem Go.NetP Go.RestP Go.CertP Go.PathP Go.Shelf
theorem nameL {w0 w : World} {L : List Thing} (h : Sep w0 w L) : ∃ L', L' = L ∧ Sep w0 w L' := ⟨L, rfl, h⟩
/-- What Ways answers, as numbers. -/
def WD (nn : Int) (es : List Ed) (fl pot zs D B : List Int) (er : Int) : Prop :=
  ((fitsB nn es fl pot && fromB nn.toNat zs) = false ∧ D = [] ∧ B = [] ∧ er = 1) ∨
  ((fitsB nn es fl pot && fromB nn.toNat zs) = true ∧ er = 0 ∧ WS (arcsL es fl pot) (· ∈ fromN zs) nn.toNat maxL D B)
theorem WD.eq {nn : Int} {es : List Ed} {fl pot zs D B D' B' : List Int} {er er' : Int} (h : WD nn es fl pot zs D B er) (h' : WD nn es fl pot zs D' B' er') : D' = D ∧ B' = B ∧ er' = er := by
  rcases h with ⟨h1, rfl, rfl, rfl⟩ | ⟨h1, rfl, h2⟩ <;> rcases h' with ⟨k1, rfl, rfl, rfl⟩ | ⟨k1, rfl, k2⟩
  · exact ⟨rfl, rfl, rfl⟩
  · rw [h1] at k1; cases k1
  · rw [h1] at k1; cases k1
  · obtain ⟨q1, q2⟩ := k2.eq h2
    exact ⟨q1, q2, rfl⟩
theorem WD.len {nn : Int} {es : List Ed} {fl pot zs D B : List Int} {er : Int} (h : WD nn es fl pot zs D B er) : B.length = D.length ∧ D.length ≤ 40 := by
  rcases h with ⟨_, rfl, rfl, _⟩ | ⟨h1, _, h2⟩
  · simp
  · rw [h2.lD, h2.lB]
    simp only [Bool.and_eq_true] at h1
    have := right_cap (fits_parts h1.1).2.1
    exact ⟨rfl, by omega⟩
/-- The same, as a call's answer. -/
def WaysU (nn : Int) (es : List Ed) (fl pot zs : List Int) (w : World) (en : Ending) (w' : World) : Prop :=
  ∃ D B er ad cd ab cb, WD nn es fl pot zs D B er ∧ en = .returned (.tuple #[.slice ad D.length cd, .slice ab D.length cb, .int .i64 er]) ∧ Sep w w' [intsT .i64 2 (.slice ad D.length cd) D, intsT .i64 3 (.slice ab D.length cb) B]
theorem WaysP.uni {nn : Int} {es : List Ed} {fl pot zs : List Int} {w w' : World} {en : Ending} (h : WaysP nn es fl pot zs w en w') : WaysU nn es fl pot zs w en w' := by
  rcases h with ⟨h1, rfl, h2⟩ | ⟨h1, D, B, vd, vb, h2, rfl, h3⟩
  · exact ⟨[], [], 1, none, 0, none, 0, .inl ⟨h1, rfl, rfl, rfl⟩, rfl, ((Sep.ofBelow h2).nilInts .i64 _).nilInts .i64 _⟩
  · obtain ⟨ad, cd, rfl⟩ := (h3.rdInts 0 rfl).shape
    obtain ⟨ab, cb, rfl⟩ := (h3.rdInts 1 rfl).shape
    have e : B.length = D.length := by rw [h2.lD, h2.lB]
    rw [e] at h3 ⊢
    exact ⟨D, B, 0, ad, cd, ab, cb, .inr ⟨h1, rfl, h2⟩, rfl, h3⟩
end Go.Proofs.Ytlbpkfjebaelpaa
