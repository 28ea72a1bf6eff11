/-
  Steps that come in.
-/
import Derived.Test.YtpjbafpbgacnkaaDvPlayW2
import Derived.Test.YtpjbafpbgacnkaaDvArgs
set_option linter.unusedVariables false
set_option linter.unusedSimpArgs false
namespace Go.Proofs.Ytpjbafpbgacnkaa
open Go Go.RowKit Go.Mem Go.DevP Go.ChangeShapes Go.WideShapes
theorem i64_wf {z : Int} (h : (Lit.int .i64 z).wf = true) : -9223372036854775808 ≤ z ∧ z ≤ 9223372036854775807 := by
  simp [Lit.wf, IntKind.min, IntKind.max, IntKind.signed, IntKind.bits] at h
  omega
set_option maxRecDepth 100000 in
set_option maxHeartbeats 1000000 in
theorem open_step {H : Type} {enc : TypeId × Value → H} {w : World} {base : Nat} {held : Bool} (n : Nat) (cs : List Value) (y : DataW H × List MemPlace)
    (h : DataW.trod enc Try.prog w base (fun _ => true) held n 35 cs = some y) : ∃ s : St, cs = stR.cells s ∧ s.Ok w := by
  obtain ⟨hl, hf⟩ := field_cells Try.underlying35 h
  have hl7 : cs.length = 7 := by rw [hl]; kernel_rfl
  match cs, hl7 with
  | [c0, c1, c2, c3, c4, c5, c6], _ =>
    obtain ⟨m0, y0, f0⟩ := hf 0 _ rfl
    change DataW.trod enc Try.prog w base (fun _ => true) held m0 3 (([c0, c1, c2, c3, c4, c5, c6].drop 0).take (Try.prog.cellsOf 3)) = some y0 at f0
    rw [show Try.prog.cellsOf 3 = 1 by kernel_rfl] at f0
    obtain ⟨m1, y1, f1⟩ := hf 1 _ rfl
    change DataW.trod enc Try.prog w base (fun _ => true) held m1 3 (([c0, c1, c2, c3, c4, c5, c6].drop 1).take (Try.prog.cellsOf 3)) = some y1 at f1
    rw [show Try.prog.cellsOf 3 = 1 by kernel_rfl] at f1
    obtain ⟨m2, y2, f2⟩ := hf 2 _ rfl
    change DataW.trod enc Try.prog w base (fun _ => true) held m2 3 (([c0, c1, c2, c3, c4, c5, c6].drop 2).take (Try.prog.cellsOf 3)) = some y2 at f2
    rw [show Try.prog.cellsOf 3 = 1 by kernel_rfl] at f2
    obtain ⟨m3, y3, f3⟩ := hf 3 _ rfl
    change DataW.trod enc Try.prog w base (fun _ => true) held m3 5 (([c0, c1, c2, c3, c4, c5, c6].drop 3).take (Try.prog.cellsOf 5)) = some y3 at f3
    rw [show Try.prog.cellsOf 5 = 1 by kernel_rfl] at f3
    obtain ⟨m4, y4, f4⟩ := hf 4 _ rfl
    change DataW.trod enc Try.prog w base (fun _ => true) held m4 5 (([c0, c1, c2, c3, c4, c5, c6].drop 4).take (Try.prog.cellsOf 5)) = some y4 at f4
    rw [show Try.prog.cellsOf 5 = 1 by kernel_rfl] at f4
    obtain ⟨m5, y5, f5⟩ := hf 5 _ rfl
    change DataW.trod enc Try.prog w base (fun _ => true) held m5 4 (([c0, c1, c2, c3, c4, c5, c6].drop 5).take (Try.prog.cellsOf 4)) = some y5 at f5
    rw [show Try.prog.cellsOf 4 = 1 by kernel_rfl] at f5
    obtain ⟨m6, y6, f6⟩ := hf 6 _ rfl
    change DataW.trod enc Try.prog w base (fun _ => true) held m6 33 (([c0, c1, c2, c3, c4, c5, c6].drop 6).take (Try.prog.cellsOf 33)) = some y6 at f6
    rw [show Try.prog.cellsOf 33 = 1 by kernel_rfl] at f6
    obtain ⟨q, rfl, g0⟩ := int_cell Try.underlying3 f0
    obtain ⟨k, rfl, g1⟩ := int_cell Try.underlying3 f1
    obtain ⟨n', rfl, g2⟩ := int_cell Try.underlying3 f2
    obtain ⟨c', rfl, g3⟩ := int_cell Try.underlying5 f3
    obtain ⟨e', rfl, g4⟩ := int_cell Try.underlying5 f4
    obtain ⟨hh, rfl⟩ := bool_cell Try.underlying4 f5
    obtain ⟨a, len, c, rfl⟩ := slice_cell Try.underlying33 f6
    obtain ⟨zs, hr, _⟩ := open_row Try.underlying33 Try.underlying3 (by kernel_rfl) f6
    have e := hr.len
    subst e
    exact ⟨⟨q, k, n', c', e', hh, a, c, zs⟩, rfl, hr, (i64_wf g2).2⟩
end Go.Proofs.Ytpjbafpbgacnkaa
