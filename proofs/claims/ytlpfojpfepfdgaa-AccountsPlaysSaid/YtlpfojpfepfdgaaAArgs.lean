/-
  The steps that come in.
-/
import Derived.Test.YtlpfojpfepfdgaaAPlain2
import Derived.Test.YtlpfojpfepfdgaaArgs2
import Derived.Test.YtlpfojpfepfdgaaMW1
namespace Go.Proofs.Ytlpfojpfepfdgaa
open Go Go.RowKit Go.Mem Go.AcctP Go.ChangeShapes Go.WideShapes

theorem open_st {H : Type} {enc : TypeId × Value → H} {w : World} {base : Nat} {held : Bool} (n : Nat) (cs : List Value) (y : DataW H × List MemPlace)
    (h : DataW.trod enc Try.prog w base (fun _ => true) held n 44 cs = some y) : ∃ s : St, cs = stR.cells s ∧ Rd .i64 w (.slice s.a s.by_.length s.c) s.by_ := by
  obtain ⟨hl, hf⟩ := field_cells Try.underlying44 h
  have hl4 : cs.length = 4 := by rw [hl]; kernel_rfl
  match cs, hl4 with
  | [c0, c1, c2, c3], _ =>
    obtain ⟨n0, y0, f0⟩ := hf 0 _ rfl
    change DataW.trod enc Try.prog w base (fun _ => true) held n0 3 (([c0, c1, c2, c3].drop 0).take (Try.prog.cellsOf 3)) = some y0 at f0
    rw [show Try.prog.cellsOf 3 = 1 by kernel_rfl] at f0
    obtain ⟨n1, y1, f1⟩ := hf 1 _ rfl
    change DataW.trod enc Try.prog w base (fun _ => true) held n1 3 (([c0, c1, c2, c3].drop 1).take (Try.prog.cellsOf 3)) = some y1 at f1
    rw [show Try.prog.cellsOf 3 = 1 by kernel_rfl] at f1
    obtain ⟨n2, y2, f2⟩ := hf 2 _ rfl
    change DataW.trod enc Try.prog w base (fun _ => true) held n2 2 (([c0, c1, c2, c3].drop 2).take (Try.prog.cellsOf 2)) = some y2 at f2
    rw [show Try.prog.cellsOf 2 = 1 by kernel_rfl] at f2
    obtain ⟨n3, y3, f3⟩ := hf 3 _ rfl
    change DataW.trod enc Try.prog w base (fun _ => true) held n3 35 (([c0, c1, c2, c3].drop 3).take (Try.prog.cellsOf 35)) = some y3 at f3
    rw [show Try.prog.cellsOf 35 = 1 by kernel_rfl] at f3
    obtain ⟨d, rfl, _⟩ := int_cell Try.underlying3 f0
    obtain ⟨k, rfl, _⟩ := int_cell Try.underlying3 f1
    obtain ⟨x, rfl, _⟩ := int_cell Try.underlying2 f2
    obtain ⟨a, len, c, rfl⟩ := slice_cell Try.underlying35 f3
    obtain ⟨zs, hr, _⟩ := open_row Try.underlying35 Try.underlying2 (by kernel_rfl) f3
    have e := hr.len
    subst e
    exact ⟨⟨d, k, x, a, c, zs⟩, rfl, hr⟩
instance : Inhabited Ac := ⟨⟨0, 0⟩⟩
theorem open_ac {H : Type} {enc : TypeId × Value → H} {w : World} {base : Nat} {held : Bool} (n : Nat) (cs : List Value) (y : DataW H × List MemPlace)
    (h : DataW.trod enc Try.prog w base (fun _ => true) held n 27 cs = some y) : ∃ s : Ac, cs = acR.cells s ∧ True := by
  obtain ⟨hl, hf⟩ := field_cells Try.underlying27 h
  have hl2 : cs.length = 2 := by rw [hl]; kernel_rfl
  match cs, hl2 with
  | [c0, c1], _ =>
    obtain ⟨n0, y0, f0⟩ := hf 0 _ rfl
    obtain ⟨n1, y1, f1⟩ := hf 1 _ rfl
    change DataW.trod enc Try.prog w base (fun _ => true) held n0 2 (([c0, c1].drop 0).take (Try.prog.cellsOf 2)) = some y0 at f0
    change DataW.trod enc Try.prog w base (fun _ => true) held n1 2 (([c0, c1].drop 1).take (Try.prog.cellsOf 2)) = some y1 at f1
    rw [show Try.prog.cellsOf 2 = 1 by kernel_rfl] at f0 f1
    obtain ⟨d, rfl, _⟩ := int_cell Try.underlying2 f0
    obtain ⟨k, rfl, _⟩ := int_cell Try.underlying2 f1
    exact ⟨⟨d, k⟩, rfl, trivial⟩
end Go.Proofs.Ytlpfojpfepfdgaa
