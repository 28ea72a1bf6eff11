/-
  maps.Keys at the dues' map, walked: the keys come in whatever order.
-/
import Derived.Test.YthcmkljdhhepgaaUsT
import Derived.Test.YthcmkljdhhepgaaDMap2
import Derived.Test.YthcmkljdhhepgaaBB
import Derived.Test.YthcmkljdhhepgaaRangeY
import Derived.Test.YthcmkljdhhepgaaDMapIn
import Derived.Test.YthcmkljdhhepgaaPack
import Derived.Sort.LoopGhostIn
import Derived.LoopIn
import Derived.LoopNIn
import Derived.TacticsIn
import Derived.TacticsInMore
import Derived.OwnWalkIn
import Derived.Shelf.Abstract
set_option linter.unusedVariables false
set_option linter.unusedSimpArgs false
namespace Go.Proofs.Ythcmkljdhhepgaa
open Go Go.RowKit Go.Mem Go.MoneyP Go.NetP Go.BuildP Go.Maps
attribute [local go_sem] Oper.semAt_some
theorem set_app_right {M X : List Thing} {j : Nat} {B : Thing} : (M ++ X).set (M.length + j) B = M ++ X.set j B := by
  rw [List.set_append_right _ _ (Nat.le_add_right _ _), Nat.add_sub_cancel_left]
theorem get_app_right {M X : List Thing} {j : Nat} : (M ++ X)[M.length + j]? = X[j]? := by
  rw [List.getElem?_append_right (Nat.le_add_right _ _), Nat.add_sub_cancel_left]
/-- What may have been yielded. -/
def OkK (xs : List Du) (l : List Int) : Prop := ∃ t, (l ++ t).Perm (xs.map Du.id)
set_option maxRecDepth 100000 in
set_option maxHeartbeats 2000000 in
theorem keys1_in (n : Nat) (hn : 1 ≤ n) (l : Nat) (w0 : World) (L : List Thing) (i j bk bm : Nat) (xs : List Du) (Mt : List Int → List Thing) (hi : L[i]? = some (cellsT bk #[.map (some bm)] 62)) (hj : L[j]? = some (dueT bm xs)) (hij : i ≠ j)
    (J : List Thing → List Int → World → Prop) (W : World) (hJx : ∀ X X' pre W W', J X pre W → (∀ w0 L, Sep w0 W (L ++ X) → Sep w0 W' (L ++ X')) → J X' pre W')
    (hJs : ∀ X pre W, J X pre W → Sep w0 W (Mt pre ++ X))
    (hJy : ∀ X pre x W, J X pre W → OkK xs (pre ++ [x]) → YieldAt Fence.wide (n - 1) Try.prog l #[.int .u64 x] W fun e W' => e = .returned (.bool true) ∧ J X (pre ++ [x]) W') (h0 : J L [] W) :
    CallsIn Fence.wide n Try.prog 52 #[.func (.yield l) #[] #[], .pointer (some ⟨bk, 0, none⟩)] W fun e W' => (∃ v, e = .returned v) ∧ ∃ X pre, (X = L ∧ pre.Perm (xs.map Du.id)) ∧ J X pre W' := by
  have hjl := (List.getElem?_eq_some_iff.1 hj).1
  have HT := Lib.hid Try.underlying62
  have hs0 := hJs _ _ _ h0
  obtain ⟨W1, hrun, hs1⟩ := hs0.rangeNewAll (P := Try.prog) (t := 62) ((Mt []).length + j) (by rw [get_app_right]; exact hj) Try.underlying62
  obtain ⟨R, hR⟩ : ∃ R, R = W.heap.size := ⟨_, rfl⟩
  have hj1 : J (L.set j (rangeT .u64 Du.id Du.val bm R xs xs)) [] W1 := hJx _ _ _ _ _ h0 fun w0' L' h => by
    have hs' := hs1 w0' (L' ++ L) (L'.length + j) h (by rw [get_app_right]; exact hj)
    rw [set_app_right] at hs'
    rw [hR]
    exact hs'
  rw [← hR] at hrun
  have HJX := Lib.hid hJx
  have HJS := Lib.hid hJs
  have HJY := Lib.hid hJy
  have HJ1 := Lib.hid hj1
  have hy0 := cell_of (hs0.cells ((Mt []).length + i) (by rw [get_app_right]; exact hi)) 0
  simp only [List.getElem?_toArray, List.getElem?_cons_zero] at hy0
  have HJL := Lib.hid hj
  have HJI := Lib.hid hjl
  clear hJx hJs hJy h0 hs0 hs1 hj1 hi hj hjl hR hij
  refine callsIn_of_wp Try.func52 rfl trivial ?_ rfl
  simp only [Try.ntmps52, List.size_toArray, List.length_cons, List.length_nil, Nat.reduceAdd, Nat.reduceSub, Array.replicate_succ, Array.replicate_zero, List.push_toArray, List.append_toArray, List.nil_append, List.cons_append]
  gi_wp2
  clear hy0 hrun
  gi_loopg [6] (xs.length + 1) (fun (k : Nat) s6 wr => ∃ (pre : List Int) (left : List Du), k = left.length + 1 ∧ Hid ((pre ++ left.map Du.id).Perm (xs.map Du.id)) ∧ Hid (J (L.set j (rangeT .u64 Du.id Du.val bm R xs left)) pre wr))
  case atStart => exact ⟨[], xs, rfl, Lib.hid (by simp), HJ1⟩
  case round =>
    clear HJ1
    obtain ⟨pre, left, rfl, HP, HJ⟩ := hrel
    have HG := Lib.hid (show ∀ Y : Thing, (L.set j Y)[j]? = some Y from fun Y => List.getElem?_set_self HJI.out)
    have hs := HJS.out _ _ _ HJ.out
    gi_wp2_with (refine wpListIn_nextD (kf := Du.id) (vf := Du.val) (kk := .u64) (i := (Mt pre).length + j) rfl (.tmp 5) rfl hs (by rw [get_app_right]; exact HG.out _) rfl ?done ?more)
    case done =>
      intro h0
      subst h0
      have HP2 := Lib.hid (show pre.Perm (xs.map Du.id) by simpa using HP.out)
      have HJ2 := Lib.hid (show J L pre wr from HJX.out _ _ _ _ _ HJ.out fun w0' L' h => by
        have h2 := h.rangeEnd (L'.length + j) (by rw [get_app_right]; exact HG.out _)
        rw [set_app_right, List.set_set, set_same HJL.out] at h2
        exact h2)
      clear hs HJ HP
      gi_wp2
      go_end0
      exact ⟨⟨_, rfl⟩, L, pre, ⟨rfl, HP2.out⟩, HJ2.out⟩
    case more =>
      intro d left' W2 hp hs2 hent
      have hj2 : J (L.set j (rangeT .u64 Du.id Du.val bm R xs left')) pre W2 := HJX.out _ _ _ _ _ HJ.out fun w0' L' h => by
        have h2 := hs2 w0' _ (L'.length + j) h (by rw [get_app_right]; exact HG.out _)
        rw [set_app_right, List.set_set] at h2
        exact h2
      have HP2 := Lib.hid (show ((pre ++ [d.id]) ++ left'.map Du.id).Perm (xs.map Du.id) from by
        refine List.Perm.trans ?_ HP.out
        rw [List.append_assoc]
        exact List.Perm.append_left _ (List.Perm.map (f := Du.id) hp).symm)
      have HLL := Lib.hid hp.length_eq
      obtain ⟨fn, tmps, assign, body, hy, hR2⟩ := HJY.out _ pre d.id _ hj2 ⟨_, HP2.out⟩
      have HR' := Lib.hid hR2
      obtain ⟨id, df, dt, dx, dw, du, dh⟩ := d
      dsimp only [Du.val] at hent hy HP2 HR' ⊢
      clear hR2 hs hs2 hp HJ HP hj2
      gi_wp2
      refine HR'.out.mono ?_
      rintro en w4 ⟨rfl, hj4⟩
      have HJ4 := Lib.hid hj4
      clear HR' hy hj4 hent
      gi_wp2
      gi_roundg (left'.length + 1)
      case measure => have := HLL.out; simp only [List.length_cons] at this; omega
      case rel => exact ⟨pre ++ [id], left', rfl, HP2, HJ4⟩
end Go.Proofs.Ythcmkljdhhepgaa
