/-
  The filter in place of Rings, both rows: plain.
-/
import Derived.Test.YtjijhpflkkicaaaOPlain8
set_option linter.unusedVariables false
set_option linter.unusedSimpArgs false
namespace Go.OffP
open Go Go.Mem Go.MoneyP Go.BuildP
/-- What lies in both rows at the i-th round: c are kept. -/
structure FilJ (O : List Du) (Out : List Int) (P : List Nat) (i c : Nat) (Y : List Du) (Z : List Nat) : Prop where
  fy : FilP (fun d : Du => decide (0 < d.x)) (P.map (restD O Out)) Y i
  fz : FilP (posP O Out) P Z i
  cnt : c = ((P.take i).filter (posP O Out)).length
section
variable {O : List Du} {Out : List Int} {P : List Nat} {i c : Nat} {Y : List Du} {Z : List Nat}
theorem fil_cnt (O : List Du) (Out : List Int) (P : List Nat) (i : Nat) : (((P.map (restD O Out)).take i).filter fun d : Du => decide (0 < d.x)).length = ((P.take i).filter (posP O Out)).length := by
  rw [← List.map_take, map_fil, List.length_map]
theorem FilJ.start (O : List Du) (Out : List Int) (P : List Nat) : FilJ O Out P 0 0 (P.map (restD O Out)) P := ⟨FilP.start _ _, FilP.start _ _, by simp⟩
theorem FilJ.ylen (h : FilJ O Out P i c Y Z) : Y.length = P.length := by rw [h.fy.len, List.length_map]
theorem FilJ.zlen (h : FilJ O Out P i c Y Z) : Z.length = P.length := h.fz.len
theorem FilJ.le (h : FilJ O Out P i c Y Z) : c ≤ i := by rw [h.cnt]; exact fil_le _ _ h.fz.i0
theorem FilJ.i0 (h : FilJ O Out P i c Y Z) : i ≤ P.length := h.fz.i0
theorem FilJ.yget (h : FilJ O Out P i c Y Z) (hi : i < P.length) : Y[i]'(by rw [h.ylen]; exact hi) = restD O Out P[i] := by
  rw [h.fy.get (by simpa using hi), List.getElem_map]
theorem FilJ.zget (h : FilJ O Out P i c Y Z) (hi : i < P.length) : Z[i]'(by rw [h.zlen]; exact hi) = P[i] := h.fz.get hi
theorem FilJ.skip (h : FilJ O Out P i c Y Z) (hi : i < P.length) (hq : ¬ 0 < (restD O Out P[i]).x) : FilJ O Out P (i + 1) c Y Z := by
  have hp : posP O Out P[i] = false := decide_eq_false hq
  refine ⟨h.fy.skip (by simpa using hi) (by rw [List.getElem_map]; exact hp), h.fz.skip hi hp, ?_⟩
  rw [fil_skip hi hp]; exact h.cnt
theorem FilJ.put (h : FilJ O Out P i c Y Z) (hi : i < P.length) (hq : 0 < (restD O Out P[i]).x) : FilJ O Out P (i + 1) (c + 1) (Y.set c (restD O Out P[i])) (Z.set c P[i]) := by
  have hp : posP O Out P[i] = true := decide_eq_true hq
  have h1 := h.fy.put (by simpa using hi) (by rw [List.getElem_map]; exact hp)
  have h2 := h.fz.put hi hp
  rw [fil_cnt, ← h.cnt, List.getElem_map] at h1
  rw [← h.cnt] at h2
  refine ⟨h1, h2, ?_⟩
  rw [fil_put hi hp, List.length_append, ← h.cnt]; rfl
theorem FilJ.done (h : FilJ O Out P P.length c Y Z) : c = (P.filter (posP O Out)).length ∧ Y.take c = (P.filter (posP O Out)).map (restD O Out) ∧ Z.take c = P.filter (posP O Out) := by
  have h1 := h.fy.done (by simp)
  have h2 := h.fz.done rfl
  have hc := h.cnt
  rw [List.take_length] at hc
  rw [map_fil, List.length_map, ← hc] at h1
  rw [← hc] at h2
  exact ⟨hc, h1, h2⟩
end
end Go.OffP
