/-
  Rounds that come in.
-/
import Derived.Test.YtfnkmkfkomhhnaaVA
import Derived.Test.YtfnkmkfkomhhnaaArgs2
import Derived.Test.YtfnkmkfkomhhnaaNArgs
namespace Go.Proofs.Ytfnkmkfkomhhnaa
open Go Go.RowKit Go.Mem Go.NetP Go.CertP Go.ArchP Go.ChangeShapes Go.WideShapes

set_option maxHeartbeats 1000000 in
theorem open_ro {H : Type} {enc : TypeId × Value → H} {w : World} {base : Nat} {held : Bool} (n : Nat) (cs : List Value) (y : DataW H × List MemPlace)
    (h : DataW.trod enc Try.prog w base (fun _ => true) held n 39 cs = some y) : ∃ r : Ro, cs = roR.cells r ∧ r.Ok w ∧ (Lit.int .u64 r.no).wf = true := by
  obtain ⟨hl, hf⟩ := field_cells Try.underlying39 h
  have hl8 : cs.length = 8 := by rw [hl]; kernel_rfl
  match cs, hl8 with
  | [c0, c1, c2, c3, c4, c5, c6, c7], _ =>
    obtain ⟨m0, y0, f0⟩ := hf 0 _ rfl
    change DataW.trod enc Try.prog w base (fun _ => true) held m0 27 (([c0, c1, c2, c3, c4, c5, c6, c7].drop 0).take (Try.prog.cellsOf 27)) = some y0 at f0
    rw [show Try.prog.cellsOf 27 = 1 by kernel_rfl] at f0
    obtain ⟨m1, y1, f1⟩ := hf 1 _ rfl
    change DataW.trod enc Try.prog w base (fun _ => true) held m1 2 (([c0, c1, c2, c3, c4, c5, c6, c7].drop 1).take (Try.prog.cellsOf 2)) = some y1 at f1
    rw [show Try.prog.cellsOf 2 = 1 by kernel_rfl] at f1
    obtain ⟨m2, y2, f2⟩ := hf 2 _ rfl
    change DataW.trod enc Try.prog w base (fun _ => true) held m2 4 (([c0, c1, c2, c3, c4, c5, c6, c7].drop 2).take (Try.prog.cellsOf 4)) = some y2 at f2
    rw [show Try.prog.cellsOf 4 = 1 by kernel_rfl] at f2
    obtain ⟨m3, y3, f3⟩ := hf 3 _ rfl
    change DataW.trod enc Try.prog w base (fun _ => true) held m3 31 (([c0, c1, c2, c3, c4, c5, c6, c7].drop 3).take (Try.prog.cellsOf 31)) = some y3 at f3
    rw [show Try.prog.cellsOf 31 = 1 by kernel_rfl] at f3
    obtain ⟨m4, y4, f4⟩ := hf 4 _ rfl
    change DataW.trod enc Try.prog w base (fun _ => true) held m4 34 (([c0, c1, c2, c3, c4, c5, c6, c7].drop 4).take (Try.prog.cellsOf 34)) = some y4 at f4
    rw [show Try.prog.cellsOf 34 = 2 by kernel_rfl] at f4
    obtain ⟨m5, y5, f5⟩ := hf 5 _ rfl
    change DataW.trod enc Try.prog w base (fun _ => true) held m5 37 (([c0, c1, c2, c3, c4, c5, c6, c7].drop 6).take (Try.prog.cellsOf 37)) = some y5 at f5
    rw [show Try.prog.cellsOf 37 = 2 by kernel_rfl] at f5
    obtain ⟨_, hg⟩ := field_cells Try.underlying34 f4
    obtain ⟨_, hc⟩ := field_cells Try.underlying37 f5
    obtain ⟨m6, y6, f6⟩ := hg 0 _ rfl
    change DataW.trod enc Try.prog w base (fun _ => true) held m6 3 (([c4, c5].drop 0).take (Try.prog.cellsOf 3)) = some y6 at f6
    rw [show Try.prog.cellsOf 3 = 1 by kernel_rfl] at f6
    obtain ⟨m7, y7, f7⟩ := hg 1 _ rfl
    change DataW.trod enc Try.prog w base (fun _ => true) held m7 32 (([c4, c5].drop 1).take (Try.prog.cellsOf 32)) = some y7 at f7
    rw [show Try.prog.cellsOf 32 = 1 by kernel_rfl] at f7
    obtain ⟨m8, y8, f8⟩ := hc 0 _ rfl
    change DataW.trod enc Try.prog w base (fun _ => true) held m8 35 (([c6, c7].drop 0).take (Try.prog.cellsOf 35)) = some y8 at f8
    rw [show Try.prog.cellsOf 35 = 1 by kernel_rfl] at f8
    obtain ⟨m9, y9, f9⟩ := hc 1 _ rfl
    change DataW.trod enc Try.prog w base (fun _ => true) held m9 35 (([c6, c7].drop 1).take (Try.prog.cellsOf 35)) = some y9 at f9
    rw [show Try.prog.cellsOf 35 = 1 by kernel_rfl] at f9
    obtain ⟨no, rfl, wno⟩ := int_cell Try.underlying27 f0
    obtain ⟨day, rfl, _⟩ := int_cell Try.underlying2 f1
    obtain ⟨comp, rfl⟩ := bool_cell Try.underlying4 f2
    obtain ⟨ai, li, ci, rfl⟩ := slice_cell Try.underlying31 f3
    obtain ⟨ids, hr3, _⟩ := open_row Try.underlying31 Try.underlying27 (by kernel_rfl) f3
    have e3 := hr3.len
    subst e3
    obtain ⟨kn, rfl, _⟩ := int_cell Try.underlying3 f6
    obtain ⟨ae, le, ce, rfl⟩ := slice_cell Try.underlying32 f7
    obtain ⟨zz, wr⟩ := open_recs (ks := [.i64, .i64, .i64, .i64]) Try.underlying32 (by kernel_rfl) (fun n cs y h => leaves_struct Try.underlying70 (by kernel_rfl) (by kernel_rfl) (by kernel_rfl) h) f7
    obtain ⟨es, rfl, hr7, _⟩ := IsRec.rdG edR edMk rfl edMk_cells wr
    obtain ⟨af, lf, cf, rfl⟩ := slice_cell Try.underlying35 f8
    obtain ⟨fl, hr8, _⟩ := open_row Try.underlying35 Try.underlying2 (by kernel_rfl) f8
    have e8 := hr8.len
    subst e8
    obtain ⟨ap, lp, cp, rfl⟩ := slice_cell Try.underlying35 f9
    obtain ⟨pot, hr9, _⟩ := open_row Try.underlying35 Try.underlying2 (by kernel_rfl) f9
    have e9 := hr9.len
    subst e9
    exact ⟨⟨no, day, comp, ai, ci, ids, kn, ae, ce, es, af, cf, fl, ap, cp, pot⟩, rfl, ⟨hr3, hr7, hr8, hr9⟩, wno⟩
end Go.Proofs.Ytfnkmkfkomhhnaa
