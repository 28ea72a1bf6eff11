/-
  SolveLeast: whatever its arguments are, the call returns true, and each argument reads behind it as it read before. No condition.
-/
import Derived.Test.YtacbfpgijmpilaaSLstW
import Derived.Test.YtacbfpgijmpilaaNArgs
import Derived.Test.YtacbfpgijmpilaaLA
import Derived.ProofKit
import Derived.OpenShut
import Derived.ChangeOld
set_option linter.unusedVariables false
set_option linter.unusedSimpArgs false
namespace Go.Proofs.Ytacbfpgijmpilaa.solveLeast
open Go Go.ChangeShapes Go.WideShapes Go.ChangeAt Go.RowKit Go.CertP Go.NetP Go.PathP Go.RestP Go.SolveP

theorem own : ownKnob Try.prog.godebug = none := by kernel_rfl
theorem laidOut : laidOutB Try.prog = true := by kernel_rfl

set_option maxRecDepth 100000 in
set_option maxHeartbeats 1000000 in
theorem lifted (os : Os) (started : os.Started) (H : Type) (enc : TypeId × Value → H) :
    ReturnsInHanded {} Try.checked os 4 .any (Rows.solveLeastSpec.pre6 enc Try.prog Try.f4 Rows.solveLeastRow.domain false) (Rows.solveLeastSpec.post enc Try.prog Try.f4 false true false false) := by
  refine returnsInHanded_of_change (C := Try.checked) own started (by kernel_rfl) Try.func4
    (ChangeSpec.witness6 (enc := enc) (C := Try.checked) false ⟨#[], #[.agg #[.int .i64 0, .slice none 0 0]], []⟩ 8 (by kernel_rfl) (by kernel_rfl) (by kernel_rfl) (by kernel_rfl)) ?_
  intro W base args ds gs before hval0 hW _ _
  have hval : ∀ (j : Nat) t v, Try.f4.params[j]? = some t → args[j]? = some v → Value.okWide Try.prog W .any base t v := hval0
  have hW' := hW
  obtain ⟨p, q, hA0, hV, rfl, _, _⟩ := hW
  have hA : DataW.TrodAll enc Try.prog W 0 (fun _ => true) true Try.f4.params.toList args.toList ds p := hA0
  rw [Try.params4] at hA hval
  obtain ⟨v0, vs0, d0, ds0, p0, q0, hargs, rfl, rfl, h0, r0⟩ := trodAll_cons hA
  obtain ⟨rfl, rfl, rfl⟩ := trodAll_nil r0
  obtain rfl : args = #[v0] := by cases args; simp_all
  obtain ⟨rfl, rfl⟩ := trodVars_none hV
  have k0 := h0
  have lt0 : ∀ x ∈ p0, x.block < W.heap.size := by obtain ⟨m, hm⟩ := k0; exact DataW.trod_lt m _ _ _ hm
  obtain ⟨cc0_0, cc0_1, y0_0, y0_1, m0, rfl, _, _, hy0_0, hy0_1⟩ := Go.Joins.open_agg2 Try.underlying24 (by kernel_rfl) (by kernel_rfl) (hval 0 24 v0 rfl rfl) h0
  obtain ⟨a0_0, rfl, w0_0⟩ := Mem.int_cell Try.underlying3 hy0_0
  obtain ⟨b0_1, len0_1, c0_1, rfl⟩ := Mem.slice_cell Try.underlying22 hy0_1
  obtain ⟨zz0_1, wr0_1⟩ := Mem.open_recs (ks := [.i64, .i64, .i64, .i64]) Try.underlying22 (by kernel_rfl) (fun n cs y h => Mem.leaves_struct Try.underlying34 (by kernel_rfl) (by kernel_rfl) (by kernel_rfl) h) hy0_1
  obtain ⟨z0_1, rfl, rd0_1, we0_1⟩ := Mem.IsRec.rdG edR edMk rfl edMk_cells wr0_1
  clear hA0 hval0
  have hcall := (solveLeast_any a0_0 _ _ z0_1 W rd0_1)

  refine hcall.mono fun e W' ⟨he, bel⟩ => ?_
  subst he
  exact ⟨_, rfl, _, _, _, [], _, [], hW', trodAll_mk1 (shut_bool Try.underlying4 _), (trodAll_cons_mk (Below.trod laidOut (by kernel_rfl) (of_decide_eq_true (by kernel_rfl)) k0 bel lt0) trodAll_mk0), rfl, bel.frame _, fun h => by cases h⟩

theorem over : Rows.solveLeastRow.holds Try.pinned (OpenSpec.ofChange Rows.solveLeastSpec) :=
  OpenClaim.holds_of_wide 4 Try.f4 rfl rfl rfl rfl rfl rfl rfl ⟨rfl, rfl, rfl, rfl, rfl⟩ rfl rfl rfl rfl rfl (by kernel_rfl) Try.func4 (by kernel_rfl)
    (of_decide_eq_true (by kernel_rfl)) (by unfold Func.isWrapper; first | (rw [if_pos (by decide +kernel)]; kernel_rfl) | (rw [if_neg (by decide +kernel)]; exact ⟨rfl, rfl⟩))
    (fun os started H enc _ => lifted os started H enc)

/-- The statement. -/
theorem proved : Rows.SolveLeastSaid := over
#print axioms proved
end Go.Proofs.Ytacbfpgijmpilaa.solveLeast
