/-
  Steps that come in.
-/
import Derived.Test.YthcmkljdhhepgaaUdStep
import Derived.Test.YthcmkljdhhepgaaBArgs
set_option linter.unusedVariables false
set_option linter.unusedSimpArgs false
namespace Go.Proofs.Ythcmkljdhhepgaa
open Go Go.RowKit Go.Mem Go.DuesP Go.ChangeShapes Go.WideShapes
theorem u64_wf {z : Int} (h : (Lit.int .u64 z).wf = true) : 0 ≤ z ∧ z ≤ 18446744073709551615 := by
  simp [Lit.wf, IntKind.min, IntKind.max, IntKind.signed, IntKind.bits] at h
  omega
theorem u16_wf {z : Int} (h : (Lit.int .u16 z).wf = true) : 0 ≤ z ∧ z ≤ 65535 := by
  simp [Lit.wf, IntKind.min, IntKind.max, IntKind.signed, IntKind.bits] at h
  omega
theorem u8_wf {z : Int} (h : (Lit.int .u8 z).wf = true) : 0 ≤ z ∧ z ≤ 255 := by
  simp [Lit.wf, IntKind.min, IntKind.max, IntKind.signed, IntKind.bits] at h
  omega
set_option maxRecDepth 100000 in
set_option maxHeartbeats 1000000 in
theorem open_step {H : Type} {enc : TypeId × Value → H} {w : World} {base : Nat} {held : Bool} (n : Nat) (cs : List Value) (y : DataW H × List MemPlace)
    (h : DataW.trod enc Try.prog w base (fun _ => true) held n 48 cs = some y) : ∃ s : St, cs = stR.cells s ∧ s.Ok := by
  obtain ⟨hl, hf⟩ := field_cells Try.underlying48 h
  have hl7 : cs.length = 7 := by rw [hl]; kernel_rfl
  match cs, hl7 with
  | [c0, c1, c2, c3, c4, c5, c6], _ =>
    obtain ⟨m0, y0, f0⟩ := hf 0 _ rfl
    change DataW.trod enc Try.prog w base (fun _ => true) held m0 3 (([c0, c1, c2, c3, c4, c5, c6].drop 0).take (Try.prog.cellsOf 3)) = some y0 at f0
    rw [show Try.prog.cellsOf 3 = 1 by kernel_rfl] at f0
    obtain ⟨m1, y1, f1⟩ := hf 1 _ rfl
    change DataW.trod enc Try.prog w base (fun _ => true) held m1 28 (([c0, c1, c2, c3, c4, c5, c6].drop 1).take (Try.prog.cellsOf 28)) = some y1 at f1
    rw [show Try.prog.cellsOf 28 = 1 by kernel_rfl] at f1
    obtain ⟨m2, y2, f2⟩ := hf 2 _ rfl
    change DataW.trod enc Try.prog w base (fun _ => true) held m2 3 (([c0, c1, c2, c3, c4, c5, c6].drop 2).take (Try.prog.cellsOf 3)) = some y2 at f2
    rw [show Try.prog.cellsOf 3 = 1 by kernel_rfl] at f2
    obtain ⟨m3, y3, f3⟩ := hf 3 _ rfl
    change DataW.trod enc Try.prog w base (fun _ => true) held m3 3 (([c0, c1, c2, c3, c4, c5, c6].drop 3).take (Try.prog.cellsOf 3)) = some y3 at f3
    rw [show Try.prog.cellsOf 3 = 1 by kernel_rfl] at f3
    obtain ⟨m4, y4, f4⟩ := hf 4 _ rfl
    change DataW.trod enc Try.prog w base (fun _ => true) held m4 2 (([c0, c1, c2, c3, c4, c5, c6].drop 4).take (Try.prog.cellsOf 2)) = some y4 at f4
    rw [show Try.prog.cellsOf 2 = 1 by kernel_rfl] at f4
    obtain ⟨m5, y5, f5⟩ := hf 5 _ rfl
    change DataW.trod enc Try.prog w base (fun _ => true) held m5 2 (([c0, c1, c2, c3, c4, c5, c6].drop 5).take (Try.prog.cellsOf 2)) = some y5 at f5
    rw [show Try.prog.cellsOf 2 = 1 by kernel_rfl] at f5
    obtain ⟨m6, y6, f6⟩ := hf 6 _ rfl
    change DataW.trod enc Try.prog w base (fun _ => true) held m6 2 (([c0, c1, c2, c3, c4, c5, c6].drop 6).take (Try.prog.cellsOf 2)) = some y6 at f6
    rw [show Try.prog.cellsOf 2 = 1 by kernel_rfl] at f6
    obtain ⟨q, rfl, g0⟩ := int_cell Try.underlying3 f0
    obtain ⟨id, rfl, g1⟩ := int_cell Try.underlying28 f1
    obtain ⟨a, rfl, g2⟩ := int_cell Try.underlying3 f2
    obtain ⟨b, rfl, g3⟩ := int_cell Try.underlying3 f3
    obtain ⟨x, rfl, g4⟩ := int_cell Try.underlying2 f4
    obtain ⟨we, rfl, g5⟩ := int_cell Try.underlying2 f5
    obtain ⟨u, rfl, g6⟩ := int_cell Try.underlying2 f6
    exact ⟨⟨q, id, a, b, x, we, u⟩, rfl, ⟨(u64_wf g1).1, (u64_wf g1).2⟩⟩
theorem bool_cells {H : Type} {enc : TypeId × Value → H} {P : Program} {w : World} {base : Nat} {spare : Nat → Bool} {held : Bool} {t : TypeId} {n : Nat} {cs : List Value} {y : DataW H × List MemPlace} (ht : P.underlying t = some .bool)
    (h : DataW.trod enc P w base spare held n t cs = some y) : ∃ x, cs = [.bool x] := by
  cases n with
  | zero => simp [DataW.trod] at h
  | succ n =>
    unfold DataW.trod at h
    rw [ht] at h
    split at h <;> simp_all
theorem open_bo {H : Type} {enc : TypeId × Value → H} {w : World} {base : Nat} {held : Bool} (n : Nat) (cs : List Value) (y : DataW H × List MemPlace)
    (h : DataW.trod enc Try.prog w base (fun _ => true) held n 4 cs = some y) : ∃ b : Bool, cs = [.bool b] ∧ True := by
  obtain ⟨b, e⟩ := bool_cells Try.underlying4 h
  exact ⟨b, e, trivial⟩
end Go.Proofs.Ythcmkljdhhepgaa
