/-
  Device's iterator, walked.
-/
import Derived.Test.YtpjbafpbgacnkaaDvW5
import Derived.Test.YtpjbafpbgacnkaaDvSort
import Derived.Test.YtpjbafpbgacnkaaRangeX
import Derived.Sort.LoopGhostIn
import Derived.LoopIn
import Derived.LoopNIn
import Derived.TacticsIn
import Derived.TacticsInMore
import Derived.OwnWalkIn
import Derived.Shelf.Abstract
set_option linter.unusedVariables false
set_option linter.unusedSimpArgs false
namespace Go.Proofs.Ytpjbafpbgacnkaa
open Go Go.RowKit Go.Mem Go.DevP Go.Shelf
attribute [local go_sem] Oper.semAt_some
/-- A block and what is loose of it, as they are told. -/
def encE (e : Ent) : Array Value := #[.int .i64 e.k, e.s.val]
theorem it_map {es : List Ent} {x : Ent} (h : x ∈ es) : ∃ j, ∃ hj : j < es.length, es[j] = x := by
  obtain ⟨j, hj, e⟩ := List.getElem_of_mem h
  exact ⟨j, hj, e⟩
set_option maxRecDepth 100000 in
set_option maxHeartbeats 2000000 in
theorem rising1_in (n : Nat) (hn : 1 ≤ n) (l : Nat) (w0 : World) (Bd b bm i0 i1 i2 : Nat) (ss : Value) (left : Int) (off : Bool) (es PL : List Ent) (Mt : List Ent → List Thing)
    (m0 : ∀ pre, (Mt pre)[i0]? = some (cellsT Bd #[.pointer (some ⟨b, 0, none⟩)] 25)) (m1 : ∀ pre, (Mt pre)[i1]? = some (dvC b ss bm left off)) (m2 : ∀ pre, (Mt pre)[i2]? = some (dmapT .i64 Ent.key Ent.val bm es))
    (hes : es.length ≤ 5000) (hPL : PL.Perm es) (hsort : (es.map Ent.key).mergeSort (fun x y => decide (x ≤ y)) = PL.map Ent.key)
    (J : List Thing → List Ent → World → Prop) (W : World) (hJx : ∀ X X' pre W W', J X pre W → (∀ w0 L, Sep w0 W (L ++ X) → Sep w0 W' (L ++ X')) → J X' pre W')
    (hJs : ∀ X pre W, J X pre W → Sep w0 W (Mt pre ++ X))
    (hJy : ∀ X pre x W, J X pre W → (pre ++ [x]) <+: PL → YieldAt Fence.wide (n - 1) Try.prog l (encE x) W fun e W' => e = .returned (.bool true) ∧ J X (pre ++ [x]) W') (h0 : J [] [] W) :
    CallsIn Fence.wide n Try.prog 37 #[.func (.yield l) #[] #[], .pointer (some ⟨Bd, 0, none⟩)] W fun e W' => (∃ v, e = .returned v) ∧ ∃ X, J X PL W' := by
  refine callsIn_of_wp Try.func37 rfl trivial ?_ rfl
  simp only [Try.ntmps37, List.size_toArray, List.length_cons, List.length_nil, Nat.reduceAdd, Nat.reduceSub, Array.replicate_succ, Array.replicate_zero, List.push_toArray, List.append_toArray, List.nil_append, List.cons_append]
  have HX := Lib.hid (show ∀ (X : List Thing) (pre : List Ent) (T : Thing), ∀ (W : World), J X pre W → ∀ i A, (Mt pre)[i]? = some A → (Mt pre ++ X)[i]? = some A from fun X pre T W _ i A h => by
    rw [List.getElem?_append_left (List.getElem?_eq_some_iff.1 h).1]; exact h)
  have hs0 := hJs _ _ _ h0
  have k0 := fun A i (h : (Mt [])[i]? = some A) => HX.out [] [] A W h0 i A h
  have y0 := cell_of (hs0.cells i0 (k0 _ _ (m0 []))) 0
  have y1 := cell_of (hs0.cells i1 (k0 _ _ (m1 []))) 1
  simp only [List.getElem?_toArray, List.getElem?_cons_zero, List.getElem?_cons_succ] at y0 y1
  have HSO := Lib.hid (sorted_dev hs0 i2 (k0 _ _ (m2 [])) (by omega))
  have HJX := Lib.hid hJx
  have HJS := Lib.hid hJs
  have HJY := Lib.hid hJy
  have M0 := Lib.hid m0
  have M1 := Lib.hid m1
  have M2 := Lib.hid m2
  have HPL := Lib.hid hPL
  have HSRT := Lib.hid hsort
  have H0 := Lib.hid h0
  clear hJx hJs hJy m0 m1 m2 hPL hsort h0 hs0 k0
  gi_wp2
  refine ⟨trivial, (callsIn_wide.2 (keys_dev _ _)).mono ?_⟩
  rintro en w1 ⟨rfl, rfl⟩
  gi_wp2
  refine ⟨trivial, (callsIn_wide.2 HSO.out).mono ?_⟩
  rintro en w2 ⟨v, rfl, hk⟩
  rw [HSRT.out] at hk
  have hj := HJX.out [] [intsT .i64 3 v (PL.map Ent.key)] [] W w2 H0.out (fun w0 L h => by rw [List.append_nil] at h; exact hk w0 L h)
  have hs := HJS.out _ _ _ hj
  have hix := hs.rdInts (k := .i64) (E := 3) (v := v) (zs := PL.map Ent.key) (Mt []).length (by rw [List.getElem?_append_right (Nat.le_refl _), Nat.sub_self]; rfl)
  obtain ⟨av, cv, rfl⟩ := hix.shape
  rw [List.length_map] at hj hs ⊢
  have hpl : PL.length ≤ 5000 := by rw [HPL.out.length_eq]; exact hes
  have HJ0 := Lib.hid hj
  clear hk hs hix hj H0 HSO y0 y1
  gi_wp2
  gi_loopg [12] (PL.length + 1) (fun (k : Nat) s12 wr => ∃ (pre P : List Ent), s12 = .int .i64 (pre.length : Nat) ∧ k = P.length + 1 ∧ Hid (PL = pre ++ P) ∧ Hid (J [intsT .i64 3 (.slice av PL.length cv) (PL.map Ent.key)] pre wr))
  case atStart => exact ⟨[], PL, rfl, rfl, Lib.hid rfl, HJ0⟩
  case round =>
    clear HJ0
    obtain ⟨pre, P, rfl, rfl, HP, HJ⟩ := hrel
    cases P with
    | nil =>
      obtain rfl : PL = pre := by rw [HP.out, List.append_nil]
      gi_wp2
      go_end0
      exact ⟨⟨_, rfl⟩, _, HJ.out⟩
    | cons x P =>
      have hs := HJS.out _ _ _ HJ.out
      have k0 := fun A i (h : (Mt pre)[i]? = some A) => HX.out _ pre A wr HJ.out i A h
      have y0 := cell_of (hs.cells i0 (k0 _ _ (M0.out pre))) 0
      have y1 := cell_of (hs.cells i1 (k0 _ _ (M1.out pre))) 1
      simp only [List.getElem?_toArray, List.getElem?_cons_zero, List.getElem?_cons_succ] at y0 y1
      have hlp : pre.length < PL.length := by rw [HP.out, List.length_append, List.length_cons]; omega
      have hix := hs.rdInts (k := .i64) (E := 3) (v := .slice av PL.length cv) (zs := PL.map Ent.key) (Mt pre).length (by rw [List.getElem?_append_right (Nat.le_refl _), Nat.sub_self]; rfl)
      obtain ⟨bq, oq, eq, _, z0⟩ := hix.at pre.length (by rw [List.length_map]; exact hlp)
      have hgk : (PL.map Ent.key).getD pre.length 0 = (x.k : Int) := by
        rw [List.getD_eq_getElem?_getD, List.getElem?_map, HP.out, List.getElem?_append_right (Nat.le_refl _), Nat.sub_self]; rfl
      rw [hgk] at z0
      have hxe : x ∈ es := HPL.out.mem_iff.1 (by rw [HP.out]; simp)
      obtain ⟨jx, hjx, hjx2⟩ := it_map hxe
      have hlk : (Instr.lookup 56 (.map (some bm)) (.int .i64 x.k) false).run Try.prog wr = .ok x.s.val wr := by
        have := hs.lookYes (P := Try.prog) (e := 55) i2 (k0 _ _ (M2.out pre)) keyedI Try.underlying3 Try.underlying56 false hjx
        rw [show es[jx] = x from hjx2] at this
        exact this
      have hpI : (pre.length : Int) < PL.length := by omega
      clear hgk hix hs k0 hjx2 hxe
      subst eq
      obtain ⟨fn, tmps, assign, body, hy, hR⟩ := HJY.out _ pre x _ HJ.out (by rw [HP.out]; exact ⟨P, by simp⟩)
      have HR' := Lib.hid hR
      clear hR
      dsimp only [encE] at hy
      gi_wp2
      refine HR'.out.mono ?_
      rintro en w4 ⟨rfl, hj4⟩
      have HJ4 := Lib.hid hj4
      clear HR' hy y0 y1 z0 HJ hlk hj4
      gi_wp2
      gi_roundg (P.length + 1)
      case measure => simp
      case rel => exact ⟨pre ++ [x], P, by rw [List.length_append, List.length_singleton]; go_num, rfl, Lib.hid (by rw [HP.out]; simp), HJ4⟩
end Go.Proofs.Ytpjbafpbgacnkaa
