/-
  Two appends in place, in any order: what stays so.
-/
import Derived.Test.YtjijhpflkkicaaaOW17
import Derived.Test.YtjijhpflkkicaaaOPlain9
set_option linter.unusedVariables false
set_option linter.unusedSimpArgs false
namespace Go.Proofs.Ytjijhpflkkicaaa
open Go Go.RowKit Go.Mem Go.MoneyP Go.NetP Go.BuildP Go.OffP Go.Shelf
def slcB : Value → Nat
  | .slice (some a) _ _ => a.block
  | _ => 0
theorem outR_skpo {P : Program} {K : Value → World → Prop} {r : Result Next} {w' : World} (h : r = .ok .skip w') (hk : K undef w') : Mix4.outR P K r := by rw [h]; exact hk
/-- The region's numbers: two rows, how many are kept, what is put. -/
structure RZ where
  g : Nat
  g' : Nat
  n : Nat
  cap : Nat
  cap' : Nat
  c : Nat
  i : Nat
  Y : List Du
  Z : List Int
  d : Du
  z : Int
section
variable (R : RZ)
def FR (v : Nat → Value) : Nat → Prop
  | 0 => v 0 = .slice (some ⟨R.g, 0, none⟩) R.c R.cap
  | 1 => v 1 = R.d.val
  | 2 => ∃ b, v 2 = .slice (some ⟨b, 0, none⟩) 1 1
  | 3 => v 3 = .slice (some ⟨R.g, 0, none⟩) (R.c + 1) R.cap
  | 4 => v 4 = .slice (some ⟨R.g', 0, none⟩) R.c R.cap'
  | 5 => v 5 = .slice (some ⟨R.g', 0, none⟩) R.n R.cap'
  | 6 => v 6 = .int .i64 R.i
  | 7 => v 7 = .pointer (some ⟨R.g', R.i, none⟩)
  | 8 => v 8 = .int .i64 R.z
  | 9 => ∃ b, v 9 = .slice (some ⟨b, 0, none⟩) 1 1
  | 10 => v 10 = .slice (some ⟨R.g', 0, none⟩) (R.c + 1) R.cap'
  | _ => True
def r2 (dn : Nat → Bool) (v : Nat → Value) : List Thing := if dn 2 = true then [cellsT (slcB (v 2)) (duR.cells R.d).toArray 44] else []
def r9 (dn : Nat → Bool) (v : Nat → Value) : List Thing := if dn 9 = true then [cellsT (slcB (v 9)) #[.int .i64 R.z] 3] else []
def lsR (L0 : List Thing) (dn : Nat → Bool) (v : Nat → Value) : List Thing :=
  (r2 R dn v ++ r9 R dn v) ++ (winT duR (.slice (some ⟨R.g, 0, none⟩) R.n R.cap) (if dn 3 = true then R.Y.set R.c R.d else R.Y) ::
    intsT .i64 3 (.slice (some ⟨R.g', 0, none⟩) R.n R.cap') (if dn 10 = true then R.Z.set R.c R.z else R.Z) :: L0)
theorem FR.same {v : Nat → Value} {k i : Nat} {x : Value} (h : FR R v k) (hi : i ≠ k) : FR R (Mix3.updV v i x) k := by
  have hv : ∀ j, i ≠ j → Mix3.updV v i x j = v j := fun j hj => Mix3.updV_ne v x hj
  rcases k with _ | _ | _ | _ | _ | _ | _ | _ | _ | _ | _ | k
  all_goals first
    | (simp only [FR, Nat.zero_add, Nat.reduceAdd] at h hi ⊢; simp only [hv _ hi]; exact h)
    | trivial
structure RJ (w : World) (L0 : List Thing) (dn : Nat → Bool) (v : Nat → Value) (W : World) : Prop where
  sep : Sep w W (lsR R L0 dn v)
  fact : ∀ k, dn k = true → FR R v k
variable {R} {w W : World} {L0 : List Thing} {dn : Nat → Bool} {v : Nat → Value}
theorem RJ.facts (h : RJ R w L0 dn v W) {i : Nat} (x : Value) (hx : FR R (Mix3.updV v i x) i) : ∀ k, Mix3.more dn i k = true → FR R (Mix3.updV v i x) k := by
  intro k hk
  by_cases e : k = i
  · subst e; exact hx
  · have hk' : dn k = true := by simpa [Mix3.more, e] using hk
    exact (h.fact k hk').same R (fun q => e q.symm)
theorem RJ.pure (h : RJ R w L0 dn v W) {i : Nat} (hn : i ∉ [2, 3, 9, 10]) (x : Value) (hx : FR R (Mix3.updV v i x) i) : RJ R w L0 (Mix3.more dn i) (Mix3.updV v i x) W := by
  simp only [List.mem_cons, List.not_mem_nil, or_false, not_or] at hn
  obtain ⟨n2, n3, n9, n10⟩ := hn
  refine ⟨?_, h.facts x hx⟩
  have e : lsR R L0 (Mix3.more dn i) (Mix3.updV v i x) = lsR R L0 dn v := by
    unfold lsR r2 r9 Mix3.more Mix3.updV
    simp [n2, n3, n9, n10, Ne.symm n2, Ne.symm n3, Ne.symm n9, Ne.symm n10]
  rw [e]; exact h.sep
theorem RJ.lit2 (h : RJ R w L0 dn v W) (hi : dn 2 = false) : RJ R w L0 (Mix3.more dn 2) (Mix3.updV v 2 (.slice (some ⟨W.heap.size, 0, none⟩) 1 1)) (W.alloc (.cells (duR.cells R.d).toArray 44)) := by
  refine ⟨?_, h.facts _ ⟨_, by rw [Mix3.updV_same]⟩⟩
  have h2 := h.sep.newCells (duR.cells R.d).toArray 44
  have e : lsR R L0 (Mix3.more dn 2) (Mix3.updV v 2 (.slice (some ⟨W.heap.size, 0, none⟩) 1 1)) = cellsT W.heap.size (duR.cells R.d).toArray 44 :: lsR R L0 dn v := by
    unfold lsR r2 r9 Mix3.more Mix3.updV
    simp [hi, slcB]
  rw [e]; exact h2
theorem RJ.lit9 (h : RJ R w L0 dn v W) (hi : dn 9 = false) : RJ R w L0 (Mix3.more dn 9) (Mix3.updV v 9 (.slice (some ⟨W.heap.size, 0, none⟩) 1 1)) (W.alloc (.cells #[.int .i64 R.z] 3)) := by
  refine ⟨?_, h.facts _ ⟨_, by rw [Mix3.updV_same]⟩⟩
  have h2 := h.sep.newCells #[.int .i64 R.z] 3
  refine h2.perm ?_
  have e : lsR R L0 (Mix3.more dn 9) (Mix3.updV v 9 (.slice (some ⟨W.heap.size, 0, none⟩) 1 1)) = r2 R dn v ++ (cellsT W.heap.size #[.int .i64 R.z] 3 :: (lsR R L0 dn v).drop (r2 R dn v).length) := by
    unfold lsR r2 r9 Mix3.more Mix3.updV
    cases dn 2 <;> simp [hi, slcB]
  have e2 : lsR R L0 dn v = r2 R dn v ++ (lsR R L0 dn v).drop (r2 R dn v).length := by
    unfold lsR r9
    simp [hi]
  rw [e]
  conv => lhs; rw [e2]
  exact List.perm_middle.symm
theorem RJ.atW (R : RZ) (L0 : List Thing) (dn : Nat → Bool) (v : Nat → Value) : (lsR R L0 dn v)[(r2 R dn v ++ r9 R dn v).length]? = some (winT duR (.slice (some ⟨R.g, 0, none⟩) R.n R.cap) (if dn 3 = true then R.Y.set R.c R.d else R.Y)) := by
  unfold lsR
  rw [List.getElem?_append_right (Nat.le_refl _), Nat.sub_self]; rfl
theorem RJ.atI (R : RZ) (L0 : List Thing) (dn : Nat → Bool) (v : Nat → Value) : (lsR R L0 dn v)[(r2 R dn v ++ r9 R dn v).length + 1]? = some (intsT .i64 3 (.slice (some ⟨R.g', 0, none⟩) R.n R.cap') (if dn 10 = true then R.Z.set R.c R.z else R.Z)) := by
  unfold lsR
  rw [List.getElem?_append_right (Nat.le_add_right _ _), Nat.add_sub_cancel_left]; rfl
theorem RJ.at2 (h : RJ R w L0 dn v W) (d2 : dn 2 = true) {b : Nat} (hb : v 2 = .slice (some ⟨b, 0, none⟩) 1 1) : W.heap[b]? = some (.cells (duR.cells R.d).toArray 44 (0, 0)) := by
  refine h.sep.cells 0 ?_
  unfold lsR r2
  simp [d2, hb, slcB]
theorem RJ.at9 (h : RJ R w L0 dn v W) (d9 : dn 9 = true) {b : Nat} (hb : v 9 = .slice (some ⟨b, 0, none⟩) 1 1) : W.heap[b]? = some (.cells #[.int .i64 R.z] 3 (0, 0)) := by
  refine h.sep.cells (r2 R dn v).length ?_
  unfold lsR r9
  rw [List.append_assoc, List.getElem?_append_right (Nat.le_refl _), Nat.sub_self]
  simp [d9, hb, slcB]
theorem RJ.app3 (h : RJ R w L0 dn v W) (d3 : dn 3 = false) {W' : World} (hs : Sep w W' ((lsR R L0 dn v).set (r2 R dn v ++ r9 R dn v).length (winT duR (.slice (some ⟨R.g, 0, none⟩) R.n R.cap) (R.Y.set R.c R.d)))) :
    RJ R w L0 (Mix3.more dn 3) (Mix3.updV v 3 (.slice (some ⟨R.g, 0, none⟩) (R.c + 1) R.cap)) W' := by
  refine ⟨?_, h.facts _ (show Mix3.updV v 3 _ 3 = _ by rw [Mix3.updV_same])⟩
  have e : lsR R L0 (Mix3.more dn 3) (Mix3.updV v 3 (.slice (some ⟨R.g, 0, none⟩) (R.c + 1) R.cap)) = (lsR R L0 dn v).set (r2 R dn v ++ r9 R dn v).length (winT duR (.slice (some ⟨R.g, 0, none⟩) R.n R.cap) (R.Y.set R.c R.d)) := by
    unfold lsR
    rw [List.set_append_right _ _ (Nat.le_refl _), Nat.sub_self, List.set_cons_zero]
    unfold r2 r9 Mix3.more Mix3.updV
    simp
  rw [e]; exact hs
theorem RJ.app10 (h : RJ R w L0 dn v W) (d10 : dn 10 = false) {W' : World} (hs : Sep w W' ((lsR R L0 dn v).set ((r2 R dn v ++ r9 R dn v).length + 1) (intsT .i64 3 (.slice (some ⟨R.g', 0, none⟩) R.n R.cap') (R.Z.set R.c R.z)))) :
    RJ R w L0 (Mix3.more dn 10) (Mix3.updV v 10 (.slice (some ⟨R.g', 0, none⟩) (R.c + 1) R.cap')) W' := by
  refine ⟨?_, h.facts _ (show Mix3.updV v 10 _ 10 = _ by rw [Mix3.updV_same])⟩
  have e : lsR R L0 (Mix3.more dn 10) (Mix3.updV v 10 (.slice (some ⟨R.g', 0, none⟩) (R.c + 1) R.cap')) = (lsR R L0 dn v).set ((r2 R dn v ++ r9 R dn v).length + 1) (intsT .i64 3 (.slice (some ⟨R.g', 0, none⟩) R.n R.cap') (R.Z.set R.c R.z)) := by
    unfold lsR
    rw [List.set_append_right _ _ (Nat.le_add_right _ _), Nat.add_sub_cancel_left, List.set_cons_succ, List.set_cons_zero]
    unfold r2 r9 Mix3.more Mix3.updV
    simp
  rw [e]; exact hs
/-- A block that lies about the region. -/
theorem RJ.at0 (h : RJ R w L0 dn v W) (i : Nat) {b : Nat} {cs : Array Value} {E : TypeId} (hi : L0[i]? = some (cellsT b cs E)) : W.heap[b]? = some (.cells cs E (0, 0)) := by
  refine h.sep.cells ((r2 R dn v ++ r9 R dn v).length + 2 + i) ?_
  unfold lsR
  rw [List.getElem?_append_right (by omega), show (r2 R dn v ++ r9 R dn v).length + 2 + i - (r2 R dn v ++ r9 R dn v).length = i + 2 by omega]
  exact hi
end
end Go.Proofs.Ytjijhpflkkicaaa
