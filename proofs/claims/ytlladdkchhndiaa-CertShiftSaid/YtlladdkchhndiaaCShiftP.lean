/-
  CertShift: whatever its arguments are, the call returns true, and each argument reads behind it as it read before. No condition.
-/
import Derived.Test.YtlladdkchhndiaaCShiftW
import Derived.Test.YtlladdkchhndiaaNArgs
import Derived.Test.YtlladdkchhndiaaArgs
import Derived.ProofKit
import Derived.OpenShut
import Derived.ChangeOld
namespace Go.Proofs.Ytlladdkchhndiaa.certShift
open Go Go.ChangeShapes Go.WideShapes Go.ChangeAt Go.RowKit Go.Mem Go.NetP Go.RestP

theorem own : ownKnob Try.prog.godebug = none := by kernel_rfl
theorem laidOut : laidOutB Try.prog = true := by kernel_rfl

set_option maxRecDepth 100000 in
set_option maxHeartbeats 1000000 in
theorem lifted (os : Os) (started : os.Started) (H : Type) (enc : TypeId × Value → H) :
    ReturnsInHanded {} Try.checked os 5 .any (Rows.certShiftSpec.pre6 enc Try.prog Try.f5 Rows.certShiftRow.domain false) (Rows.certShiftSpec.post enc Try.prog Try.f5 false true false false) := by
  refine returnsInHanded_of_change (C := Try.checked) own started (by kernel_rfl) Try.func5
    (ChangeSpec.witness6 (enc := enc) (C := Try.checked) false ⟨#[], #[.agg #[.int .i64 0, .slice none 0 0], .agg #[.slice none 0 0, .slice none 0 0], .agg #[.slice none 0 0, .slice none 0 0], .int .i32 0], []⟩ 8 (by kernel_rfl) (by kernel_rfl) (by kernel_rfl) (by kernel_rfl)) ?_
  intro W base args ds gs before hval0 hW _ _
  have hval : ∀ (j : Nat) t v, Try.f5.params[j]? = some t → args[j]? = some v → Value.okWide Try.prog W .any base t v := hval0
  have hW' := hW
  obtain ⟨p, q, hA0, hV, rfl, _, _⟩ := hW
  have hA : DataW.TrodAll enc Try.prog W 0 (fun _ => true) true Try.f5.params.toList args.toList ds p := hA0
  rw [Try.params5] at hA hval
  obtain ⟨v0, vs0, d0, ds0, p0, q0, hargs, rfl, rfl, h0, r0⟩ := trodAll_cons hA
  obtain ⟨v1, vs1, d1, ds1, p1, q1, rfl, rfl, rfl, h1, r1⟩ := trodAll_cons r0
  obtain ⟨v2, vs2, d2, ds2, p2, q2, rfl, rfl, rfl, h2, r2⟩ := trodAll_cons r1
  obtain ⟨v3, vs3, d3, ds3, p3, q3, rfl, rfl, rfl, h3, r3⟩ := trodAll_cons r2
  obtain ⟨rfl, rfl, rfl⟩ := trodAll_nil r3
  obtain rfl : args = #[v0, v1, v2, v3] := by cases args; simp_all
  obtain ⟨rfl, rfl⟩ := trodVars_none hV
  have k0 := h0
  have lt0 : ∀ x ∈ p0, x.block < W.heap.size := by obtain ⟨m, hm⟩ := k0; exact DataW.trod_lt m _ _ _ hm
  obtain ⟨cc0_0, cc0_1, y0_0, y0_1, m0, rfl, _, _, hy0_0, hy0_1⟩ := Go.Joins.open_agg2 Try.underlying24 (by kernel_rfl) (by kernel_rfl) (hval 0 24 v0 rfl rfl) h0
  obtain ⟨a0_0, rfl, w0_0⟩ := Mem.int_cell Try.underlying3 hy0_0
  obtain ⟨b0_1, len0_1, c0_1, rfl⟩ := Mem.slice_cell Try.underlying22 hy0_1
  obtain ⟨zz0_1, wr0_1⟩ := Mem.open_recs (ks := [.i64, .i64, .i64, .i64]) Try.underlying22 (by kernel_rfl) (fun n cs y h => Mem.leaves_struct Try.underlying42 (by kernel_rfl) (by kernel_rfl) (by kernel_rfl) h) hy0_1
  obtain ⟨z0_1, rfl, rd0_1, we0_1⟩ := Mem.IsRec.rdG edR edMk rfl edMk_cells wr0_1
  have k1 := h1
  have lt1 : ∀ x ∈ p1, x.block < W.heap.size := by obtain ⟨m, hm⟩ := k1; exact DataW.trod_lt m _ _ _ hm
  obtain ⟨cc1_0, cc1_1, y1_0, y1_1, m1, rfl, _, _, hy1_0, hy1_1⟩ := Go.Joins.open_agg2 Try.underlying27 (by kernel_rfl) (by kernel_rfl) (hval 1 27 v1 rfl rfl) h1
  obtain ⟨b1_0, len1_0, c1_0, rfl⟩ := Mem.slice_cell Try.underlying25 hy1_0
  obtain ⟨z1_0, rd1_0, wz1_0⟩ := Mem.open_row Try.underlying25 Try.underlying2 (by kernel_rfl) hy1_0
  obtain ⟨s1_0, hs1_0⟩ : ∃ s, s = Value.slice b1_0 len1_0 c1_0 := ⟨_, rfl⟩
  rw [← hs1_0] at rd1_0
  obtain ⟨b1_1, len1_1, c1_1, rfl⟩ := Mem.slice_cell Try.underlying25 hy1_1
  obtain ⟨z1_1, rd1_1, wz1_1⟩ := Mem.open_row Try.underlying25 Try.underlying2 (by kernel_rfl) hy1_1
  obtain ⟨s1_1, hs1_1⟩ : ∃ s, s = Value.slice b1_1 len1_1 c1_1 := ⟨_, rfl⟩
  rw [← hs1_1] at rd1_1
  have k2 := h2
  have lt2 : ∀ x ∈ p2, x.block < W.heap.size := by obtain ⟨m, hm⟩ := k2; exact DataW.trod_lt m _ _ _ hm
  obtain ⟨cc2_0, cc2_1, y2_0, y2_1, m2, rfl, _, _, hy2_0, hy2_1⟩ := Go.Joins.open_agg2 Try.underlying27 (by kernel_rfl) (by kernel_rfl) (hval 2 27 v2 rfl rfl) h2
  obtain ⟨b2_0, len2_0, c2_0, rfl⟩ := Mem.slice_cell Try.underlying25 hy2_0
  obtain ⟨z2_0, rd2_0, wz2_0⟩ := Mem.open_row Try.underlying25 Try.underlying2 (by kernel_rfl) hy2_0
  obtain ⟨s2_0, hs2_0⟩ : ∃ s, s = Value.slice b2_0 len2_0 c2_0 := ⟨_, rfl⟩
  rw [← hs2_0] at rd2_0
  obtain ⟨b2_1, len2_1, c2_1, rfl⟩ := Mem.slice_cell Try.underlying25 hy2_1
  obtain ⟨z2_1, rd2_1, wz2_1⟩ := Mem.open_row Try.underlying25 Try.underlying2 (by kernel_rfl) hy2_1
  obtain ⟨s2_1, hs2_1⟩ : ∃ s, s = Value.slice b2_1 len2_1 c2_1 := ⟨_, rfl⟩
  rw [← hs2_1] at rd2_1
  obtain ⟨a3, rfl, rfl, rfl, w3⟩ := open_int Try.underlying21 (hval 3 21 v3 rfl rfl) h3
  clear hA0 hval0
  have hcall := (certShift_any a0_0 _ _ _ _ _ _ _ _ _ _ _ a3 W rd0_1 rd1_0 rd1_1 rd2_0 rd2_1 w3)
  subst hs1_0
  subst hs1_1
  subst hs2_0
  subst hs2_1
  refine hcall.mono fun e W' ⟨he, bel⟩ => ?_
  subst he
  exact ⟨_, rfl, _, _, _, [], _, [], hW', trodAll_mk1 (shut_bool Try.underlying4 _), (trodAll_cons_mk (Below.trod laidOut (by kernel_rfl) (of_decide_eq_true (by kernel_rfl)) k0 bel lt0) (trodAll_cons_mk (Below.trod laidOut (by kernel_rfl) (of_decide_eq_true (by kernel_rfl)) k1 bel lt1) (trodAll_cons_mk (Below.trod laidOut (by kernel_rfl) (of_decide_eq_true (by kernel_rfl)) k2 bel lt2) (trodAll_cons_mk (shut_int Try.underlying21 w3) trodAll_mk0)))), rfl, bel.frame _, fun h => by cases h⟩

theorem over : Rows.certShiftRow.holds Try.pinned (OpenSpec.ofChange Rows.certShiftSpec) :=
  OpenClaim.holds_of_wide 5 Try.f5 rfl rfl rfl rfl rfl rfl rfl ⟨rfl, rfl, rfl, rfl, rfl⟩ rfl rfl rfl rfl rfl (by kernel_rfl) Try.func5 (by kernel_rfl)
    (of_decide_eq_true (by kernel_rfl)) (by unfold Func.isWrapper; first | (rw [if_pos (by decide +kernel)]; kernel_rfl) | (rw [if_neg (by decide +kernel)]; exact ⟨rfl, rfl⟩))
    (fun os started H enc _ => lifted os started H enc)

/-- The statement. -/
theorem proved : Rows.CertShiftSaid := over
#print axioms proved
end Go.Proofs.Ytlladdkchhndiaa.certShift
