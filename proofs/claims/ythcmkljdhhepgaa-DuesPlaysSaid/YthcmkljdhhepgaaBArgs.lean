/-
  Dues that come in.
-/
import Derived.Test.YthcmkljdhhepgaaBA
import Derived.Test.YthcmkljdhhepgaaLA
set_option linter.unusedVariables false
set_option linter.unusedSimpArgs false
namespace Go.Mem
open Go Go.ChangeShapes Go.WideShapes
theorem okWide_cap {P : Program} {w : World} {r : Reach} {base : Nat} {t e : TypeId} {a : Option Addr} {len cap : Nat} (ht : P.underlying t = some (.slice e)) (h : Value.okWide P w r base t (.slice a len cap)) : len ≤ cap := by
  simp only [Value.okWide, ht, Cell.okWide] at h
  cases a with
  | none =>
    unfold Cell.ok at h
    rw [ht] at h
    split at h <;> simp_all
  | some a =>
    unfold Cell.ok at h
    rw [ht] at h
    simp at h
    exact h.1
end Go.Mem
namespace Go.BuildP
open Go
/-- What a due's cells hold. -/
structure Du.Wf (d : Du) : Prop where
  id : (Lit.int .u64 d.id).wf = true
  f : (Lit.int .i64 d.f).wf = true
  t : (Lit.int .i64 d.t).wf = true
  x : (Lit.int .i64 d.x).wf = true
  w : (Lit.int .i64 d.w).wf = true
  u : (Lit.int .i64 d.u).wf = true
end Go.BuildP
namespace Go.Proofs.Ythcmkljdhhepgaa
open Go Go.RowKit Go.Mem Go.BuildP Go.ChangeShapes Go.WideShapes
set_option maxRecDepth 100000 in
set_option maxHeartbeats 1000000 in
theorem open_du {H : Type} {enc : TypeId × Value → H} {w : World} {base : Nat} {held : Bool} (n : Nat) (cs : List Value) (y : DataW H × List MemPlace)
    (h : DataW.trod enc Try.prog w base (fun _ => true) held n 36 cs = some y) : ∃ d : Du, cs = duR.cells d ∧ d.Wf := by
  obtain ⟨hl, hf⟩ := field_cells Try.underlying36 h
  have hl7 : cs.length = 7 := by rw [hl]; kernel_rfl
  match cs, hl7 with
  | [c0, c1, c2, c3, c4, c5, c6], _ =>
    obtain ⟨m0, y0, f0⟩ := hf 0 _ rfl
    change DataW.trod enc Try.prog w base (fun _ => true) held m0 28 (([c0, c1, c2, c3, c4, c5, c6].drop 0).take (Try.prog.cellsOf 28)) = some y0 at f0
    rw [show Try.prog.cellsOf 28 = 1 by kernel_rfl] at f0
    obtain ⟨m1, y1, f1⟩ := hf 1 _ rfl
    change DataW.trod enc Try.prog w base (fun _ => true) held m1 3 (([c0, c1, c2, c3, c4, c5, c6].drop 1).take (Try.prog.cellsOf 3)) = some y1 at f1
    rw [show Try.prog.cellsOf 3 = 1 by kernel_rfl] at f1
    obtain ⟨m2, y2, f2⟩ := hf 2 _ rfl
    change DataW.trod enc Try.prog w base (fun _ => true) held m2 3 (([c0, c1, c2, c3, c4, c5, c6].drop 2).take (Try.prog.cellsOf 3)) = some y2 at f2
    rw [show Try.prog.cellsOf 3 = 1 by kernel_rfl] at f2
    obtain ⟨m3, y3, f3⟩ := hf 3 _ rfl
    change DataW.trod enc Try.prog w base (fun _ => true) held m3 2 (([c0, c1, c2, c3, c4, c5, c6].drop 3).take (Try.prog.cellsOf 2)) = some y3 at f3
    rw [show Try.prog.cellsOf 2 = 1 by kernel_rfl] at f3
    obtain ⟨m4, y4, f4⟩ := hf 4 _ rfl
    change DataW.trod enc Try.prog w base (fun _ => true) held m4 2 (([c0, c1, c2, c3, c4, c5, c6].drop 4).take (Try.prog.cellsOf 2)) = some y4 at f4
    rw [show Try.prog.cellsOf 2 = 1 by kernel_rfl] at f4
    obtain ⟨m5, y5, f5⟩ := hf 5 _ rfl
    change DataW.trod enc Try.prog w base (fun _ => true) held m5 2 (([c0, c1, c2, c3, c4, c5, c6].drop 5).take (Try.prog.cellsOf 2)) = some y5 at f5
    rw [show Try.prog.cellsOf 2 = 1 by kernel_rfl] at f5
    obtain ⟨m6, y6, f6⟩ := hf 6 _ rfl
    change DataW.trod enc Try.prog w base (fun _ => true) held m6 4 (([c0, c1, c2, c3, c4, c5, c6].drop 6).take (Try.prog.cellsOf 4)) = some y6 at f6
    rw [show Try.prog.cellsOf 4 = 1 by kernel_rfl] at f6
    obtain ⟨id, rfl, g0⟩ := int_cell Try.underlying28 f0
    obtain ⟨a, rfl, g1⟩ := int_cell Try.underlying3 f1
    obtain ⟨b, rfl, g2⟩ := int_cell Try.underlying3 f2
    obtain ⟨x, rfl, g3⟩ := int_cell Try.underlying2 f3
    obtain ⟨we, rfl, g4⟩ := int_cell Try.underlying2 f4
    obtain ⟨u, rfl, g5⟩ := int_cell Try.underlying2 f5
    obtain ⟨hh, rfl⟩ := bool_cell Try.underlying4 f6
    exact ⟨⟨id, a, b, x, we, u, hh⟩, rfl, ⟨g0, g1, g2, g3, g4, g5⟩⟩
end Go.Proofs.Ythcmkljdhhepgaa
