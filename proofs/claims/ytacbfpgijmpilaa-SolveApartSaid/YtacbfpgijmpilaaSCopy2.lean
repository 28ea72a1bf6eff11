/-
  A region that lays a net of two nets' nodes, with a copy of the one's edges: what stays so, whatever the order.
-/
import Derived.Test.YtacbfpgijmpilaaSCopy
set_option linter.unusedVariables false
set_option linter.unusedSimpArgs false
namespace Go.Proofs.Ytacbfpgijmpilaa
open Go Go.RowKit Go.Mem Go.NetP
/-- What the values are. -/
def FE (B1 B2 : Nat) (n m : Int) (l c : Nat) (a : Option Addr) (v : Nat → Value) : Nat → Prop
  | 0 => v 0 = .pointer (some ⟨B1, 0, none⟩)
  | 1 => v 1 = .int .i64 n
  | 2 => v 2 = .pointer (some ⟨B2, 0, none⟩)
  | 3 => v 3 = .int .i64 m
  | 4 => v 4 = .int .i64 (n + m)
  | 5 => ∃ g, v 5 = .slice (some ⟨g, 0, none⟩) 0 0
  | 6 => v 6 = .pointer (some ⟨B1, 1, none⟩)
  | 7 => v 7 = .slice a l c
  | 8 => ∃ g c', v 8 = .slice (some ⟨g, 0, none⟩) l c'
  | 9 => v 9 = .agg #[.int .i64 (n + m), v 8]
  | 10 => ∃ g, v 10 = .pointer (some ⟨g, 0, none⟩)
  | _ => True
def useD : Nat → List Nat
  | 9 => [8]
  | 11 => [8, 9, 10]
  | _ => []
def r8 (es : List Ed) (dn : Nat → Bool) (v : Nat → Value) : List Thing := if dn 8 = true then [recT edR 34 (v 8) es] else if dn 5 = true then [recT edR 34 (v 5) []] else []
def r10 (N : Int) (dn : Nat → Bool) (v : Nat → Value) : List Thing := if dn 10 = true then [cellsT (ptrB (v 10)) (if dn 11 = true then #[.int .i64 N, v 8] else #[.int .i64 0, .slice none 0 0]) 24] else []
def lsD (N : Int) (es : List Ed) (L0 : List Thing) (dn : Nat → Bool) (v : Nat → Value) : List Thing := r8 es dn v ++ (r10 N dn v ++ L0)
theorem FE.same {B1 B2 l c : Nat} {n m : Int} {a : Option Addr} {v : Nat → Value} {k i : Nat} {x : Value} (h : FE B1 B2 n m l c a v k) (hi : i ≠ k) (hu : ∀ j ∈ useD k, i ≠ j) : FE B1 B2 n m l c a (Mix3.updV v i x) k := by
  have hv : ∀ j, i ≠ j → Mix3.updV v i x j = v j := fun j hj => Mix3.updV_ne v x hj
  rcases k with _ | _ | _ | _ | _ | _ | _ | _ | _ | _ | _ | k
  all_goals first
    | (simp only [FE, useD, List.mem_cons, List.not_mem_nil, or_false, forall_eq_or_imp, forall_eq, Nat.zero_add, Nat.reduceAdd] at h hi hu ⊢; rw [hv _ hi]; simp only [hv _ hu]; exact h)
    | (simp only [FE, Nat.zero_add, Nat.reduceAdd] at h hi ⊢; simp only [hv _ hi]; exact h)
    | trivial
structure CK (B1 B2 : Nat) (n m : Int) (c : Nat) (a : Option Addr) (es : List Ed) (w : World) (L0 : List Thing) (dn : Nat → Bool) (v : Nat → Value) (W : World) : Prop where
  sep : Sep w W (lsD (n + m) es L0 dn v)
  fact : ∀ k, dn k = true → FE B1 B2 n m es.length c a v k
  use_ : ∀ k, dn k = true → ∀ j ∈ useD k, dn j = true
section
variable {B1 B2 c : Nat} {n m N : Int} {a : Option Addr} {es : List Ed} {w W : World} {L0 : List Thing} {dn : Nat → Bool} {v : Nat → Value}
theorem CK.facts (h : CK B1 B2 n m c a es w L0 dn v W) {i : Nat} (hi : dn i = false) (x : Value) (hx : FE B1 B2 n m es.length c a (Mix3.updV v i x) i) : ∀ k, Mix3.more dn i k = true → FE B1 B2 n m es.length c a (Mix3.updV v i x) k := by
  intro k hk
  by_cases e : k = i
  · subst e; exact hx
  · have hk' : dn k = true := by simpa [Mix3.more, e] using hk
    exact (h.fact k hk').same (fun q => e q.symm) (fun j hj q => by have := h.use_ k hk' j hj; rw [← q, hi] at this; cases this)
theorem CK.uses (h : CK B1 B2 n m c a es w L0 dn v W) {i : Nat} (hu : ∀ j ∈ useD i, dn j = true) : ∀ k, Mix3.more dn i k = true → ∀ j ∈ useD k, Mix3.more dn i j = true := by
  intro k hk j hj
  by_cases e : k = i
  · subst e; simp [Mix3.more, hu j hj]
  · have hk' : dn k = true := by simpa [Mix3.more, e] using hk
    simp [Mix3.more, h.use_ k hk' j hj]
theorem CK.no8 (h : CK B1 B2 n m c a es w L0 dn v W) {i : Nat} (hi : dn i = false) (hm : i ∈ [8, 9, 10]) : dn 11 = false := by
  cases hq : dn 11
  · rfl
  · have := h.use_ 11 hq i hm
    rw [hi] at this; cases this
theorem CK.pure (h : CK B1 B2 n m c a es w L0 dn v W) {i : Nat} (hi : dn i = false) (hn : i ∉ [5, 8, 10, 11]) (hu : ∀ j ∈ useD i, dn j = true) (x : Value) (hx : FE B1 B2 n m es.length c a (Mix3.updV v i x) i) : CK B1 B2 n m c a es w L0 (Mix3.more dn i) (Mix3.updV v i x) W := by
  simp only [List.mem_cons, List.not_mem_nil, or_false, not_or] at hn
  obtain ⟨n2, n5, n7, n8⟩ := hn
  refine ⟨?_, h.facts hi x hx, h.uses hu⟩
  have e : lsD (n + m) es L0 (Mix3.more dn i) (Mix3.updV v i x) = lsD (n + m) es L0 dn v := by
    unfold lsD r8 r10 Mix3.more Mix3.updV
    simp [n2, n5, n7, Ne.symm n2, Ne.symm n5, Ne.symm n7, Ne.symm n8]
  rw [e]; exact h.sep
theorem CK.lit (h : CK B1 B2 n m c a es w L0 dn v W) (hi : dn 5 = false) (h5 : dn 8 = false) : CK B1 B2 n m c a es w L0 (Mix3.more dn 5) (Mix3.updV v 5 (.slice (some ⟨W.heap.size, 0, none⟩) 0 0)) (W.alloc (.cells #[] 34)) := by
  refine ⟨?_, h.facts hi _ ⟨_, by rw [Mix3.updV_same]⟩, h.uses (by intro j hj; cases hj)⟩
  have h2 := h.sep.litRecs edR 34 [] (by simp [maxLen])
  have e : lsD (n + m) es L0 (Mix3.more dn 5) (Mix3.updV v 5 (.slice (some ⟨W.heap.size, 0, none⟩) 0 0)) = recT edR 34 (.slice (some ⟨W.heap.size, 0, none⟩) 0 0) [] :: lsD (n + m) es L0 dn v := by
    unfold lsD r8 r10 Mix3.more Mix3.updV
    simp [hi, h5]
  rw [e]; exact h2
theorem CK.at5 (d2 : dn 5 = true) (d5 : dn 8 = false) {g : Nat} (hg : v 5 = .slice (some ⟨g, 0, none⟩) 0 0) : (lsD N es L0 dn v)[0]? = some (recT edR 34 (.slice (some ⟨g, 0, none⟩) 0 0) []) := by
  unfold lsD r8
  simp [d2, d5, hg]
theorem CK.app (h : CK B1 B2 n m c a es w L0 dn v W) (d2 : dn 5 = true) (d5 : dn 8 = false) {W' : World} {g c' : Nat} (hs : Sep w W' ((lsD (n + m) es L0 dn v).set 0 (recT edR 34 (.slice (some ⟨g, 0, none⟩) es.length c') es))) :
    CK B1 B2 n m c a es w L0 (Mix3.more dn 8) (Mix3.updV v 8 (.slice (some ⟨g, 0, none⟩) es.length c')) W' := by
  have d8 := h.no8 d5 (by decide)
  refine ⟨?_, h.facts d5 _ ⟨_, _, by rw [Mix3.updV_same]⟩, h.uses (by intro j hj; cases hj)⟩
  have e : lsD (n + m) es L0 (Mix3.more dn 8) (Mix3.updV v 8 (.slice (some ⟨g, 0, none⟩) es.length c')) = (lsD (n + m) es L0 dn v).set 0 (recT edR 34 (.slice (some ⟨g, 0, none⟩) es.length c') es) := by
    unfold lsD r8 r10 Mix3.more Mix3.updV
    simp [d2, d5, d8]
  rw [e]; exact hs
theorem CK.net (h : CK B1 B2 n m c a es w L0 dn v W) (d : dn 10 = false) :
    CK B1 B2 n m c a es w L0 (Mix3.more dn 10) (Mix3.updV v 10 (.pointer (some ⟨W.heap.size, 0, none⟩))) (W.alloc (.cells #[.int .i64 0, .slice none 0 0] 24)) := by
  have d8 := h.no8 d (by decide)
  have hs := h.sep.newCells #[.int .i64 0, .slice none 0 0] 24
  refine ⟨hs.perm ?_, h.facts d _ ⟨_, by rw [Mix3.updV_same]⟩, h.uses (by intro j hj; cases hj)⟩
  have e : lsD (n + m) es L0 (Mix3.more dn 10) (Mix3.updV v 10 (.pointer (some ⟨W.heap.size, 0, none⟩))) = r8 es dn v ++ (cellsT W.heap.size #[.int .i64 0, .slice none 0 0] 24 :: L0) := by
    unfold lsD r8 r10 Mix3.more Mix3.updV
    simp [d8, ptrB]
  have e2 : lsD (n + m) es L0 dn v = r8 es dn v ++ L0 := by
    unfold lsD r10; simp [d]
  rw [e, e2]
  exact List.perm_middle.symm
theorem CK.at7 (d7 : dn 10 = true) (d8 : dn 11 = false) (d5 : dn 8 = true) {g : Nat} (hg : v 10 = .pointer (some ⟨g, 0, none⟩)) : (lsD N es L0 dn v)[1]? = some (cellsT g #[.int .i64 0, .slice none 0 0] 24) := by
  unfold lsD r8 r10
  simp [d7, d8, d5, hg, ptrB]
theorem CK.store (h : CK B1 B2 n m c a es w L0 dn v W) (d5 : dn 8 = true) (d6 : dn 9 = true) (d7 : dn 10 = true) (d8 : dn 11 = false) {g : Nat} (hg : v 10 = .pointer (some ⟨g, 0, none⟩)) :
    CK B1 B2 n m c a es w L0 (Mix3.more dn 11) (Mix3.updV v 11 undef) ((W.setCell ⟨g, 0, none⟩ (.int .i64 (n + m))).setCell ⟨g, 1, none⟩ (v 8)) := by
  have h1 := h.sep.setCells 1 (CK.at7 d7 d8 d5 hg) 0 (.int .i64 (n + m)) #[.int .i64 (n + m), .slice none 0 0] rfl
  have h2 := h1.setCells 1 (by rw [List.getElem?_set_self (by have := CK.at7 (N := n + m) (es := es) (L0 := L0) d7 d8 d5 hg; exact (List.getElem?_eq_some_iff.1 this).1)]) 1 (v 8) #[.int .i64 (n + m), v 8] rfl
  rw [List.set_set] at h2
  refine ⟨?_, h.facts d8 _ trivial, h.uses (by intro j hj; simp only [useD, List.mem_cons, List.not_mem_nil, or_false] at hj; rcases hj with rfl | rfl | rfl <;> assumption)⟩
  have e : lsD (n + m) es L0 (Mix3.more dn 11) (Mix3.updV v 11 undef) = (lsD (n + m) es L0 dn v).set 1 (cellsT g #[.int .i64 (n + m), v 8] 24) := by
    unfold lsD r8 r10 Mix3.more Mix3.updV
    simp [d5, d7, hg, ptrB]
  rw [e]; exact h2
theorem CK.at0 (h : CK B1 B2 n m c a es w L0 dn v W) (i : Nat) {b : Nat} {cs : Array Value} {E : TypeId} (hi : L0[i]? = some (cellsT b cs E)) : W.heap[b]? = some (.cells cs E (0, 0)) := by
  refine h.sep.cells ((r8 es dn v ++ r10 (n + m) dn v).length + i) ?_
  unfold lsD
  rw [← List.append_assoc, List.getElem?_append_right (Nat.le_add_right _ _), Nat.add_sub_cancel_left]
  exact hi
end
end Go.Proofs.Ytacbfpgijmpilaa
