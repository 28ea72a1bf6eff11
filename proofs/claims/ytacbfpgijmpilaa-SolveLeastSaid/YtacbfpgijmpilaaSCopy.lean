/-
  A region that lays a net with a copy of another's edges: what stays so, whatever the order.
-/
import Derived.Test.YtacbfpgijmpilaaLE
import Derived.Test.YtacbfpgijmpilaaNA
set_option linter.unusedVariables false
set_option linter.unusedSimpArgs false
namespace Go.Proofs.Ytacbfpgijmpilaa
open Go Go.RowKit Go.Mem Go.NetP
theorem outR_skp {P : Program} {K : Value → World → Prop} {r : Result Next} {w' : World} (h : r = .ok .skip w') (hk : K undef w') : Mix4.outR P K r := by rw [h]; exact hk
def ptrB : Value → Nat
  | .pointer (some a) => a.block
  | _ => 0
/-- What the values are. -/
def FC (B1 : Nat) (N : Int) (l c : Nat) (a : Option Addr) (v : Nat → Value) : Nat → Prop
  | 0 => v 0 = .pointer (some ⟨B1, 0, none⟩)
  | 1 => v 1 = .int .i64 N
  | 2 => ∃ g, v 2 = .slice (some ⟨g, 0, none⟩) 0 0
  | 3 => v 3 = .pointer (some ⟨B1, 1, none⟩)
  | 4 => v 4 = .slice a l c
  | 5 => ∃ g c', v 5 = .slice (some ⟨g, 0, none⟩) l c'
  | 6 => v 6 = .agg #[.int .i64 N, v 5]
  | 7 => ∃ g, v 7 = .pointer (some ⟨g, 0, none⟩)
  | _ => True
def useC : Nat → List Nat
  | 6 => [5]
  | 8 => [5, 6, 7]
  | _ => []
def q5 (es : List Ed) (dn : Nat → Bool) (v : Nat → Value) : List Thing := if dn 5 = true then [recT edR 34 (v 5) es] else if dn 2 = true then [recT edR 34 (v 2) []] else []
def q7 (N : Int) (dn : Nat → Bool) (v : Nat → Value) : List Thing := if dn 7 = true then [cellsT (ptrB (v 7)) (if dn 8 = true then #[.int .i64 N, v 5] else #[.int .i64 0, .slice none 0 0]) 24] else []
def lsC (N : Int) (es : List Ed) (L0 : List Thing) (dn : Nat → Bool) (v : Nat → Value) : List Thing := q5 es dn v ++ (q7 N dn v ++ L0)
theorem FC.same {B1 l c : Nat} {N : Int} {a : Option Addr} {v : Nat → Value} {k i : Nat} {x : Value} (h : FC B1 N l c a v k) (hi : i ≠ k) (hu : ∀ j ∈ useC k, i ≠ j) : FC B1 N l c a (Mix3.updV v i x) k := by
  have hv : ∀ j, i ≠ j → Mix3.updV v i x j = v j := fun j hj => Mix3.updV_ne v x hj
  rcases k with _ | _ | _ | _ | _ | _ | _ | _ | k
  all_goals first
    | (simp only [FC, useC, List.mem_cons, List.not_mem_nil, or_false, forall_eq_or_imp, forall_eq, Nat.zero_add, Nat.reduceAdd] at h hi hu ⊢; rw [hv _ hi]; simp only [hv _ hu]; exact h)
    | (simp only [FC, Nat.zero_add, Nat.reduceAdd] at h hi ⊢; simp only [hv _ hi]; exact h)
    | trivial
structure CJ (B1 : Nat) (N : Int) (c : Nat) (a : Option Addr) (es : List Ed) (w : World) (L0 : List Thing) (dn : Nat → Bool) (v : Nat → Value) (W : World) : Prop where
  sep : Sep w W (lsC N es L0 dn v)
  fact : ∀ k, dn k = true → FC B1 N es.length c a v k
  use_ : ∀ k, dn k = true → ∀ j ∈ useC k, dn j = true
section
variable {B1 c : Nat} {N : Int} {a : Option Addr} {es : List Ed} {w W : World} {L0 : List Thing} {dn : Nat → Bool} {v : Nat → Value}
theorem CJ.facts (h : CJ B1 N c a es w L0 dn v W) {i : Nat} (hi : dn i = false) (x : Value) (hx : FC B1 N es.length c a (Mix3.updV v i x) i) : ∀ k, Mix3.more dn i k = true → FC B1 N es.length c a (Mix3.updV v i x) k := by
  intro k hk
  by_cases e : k = i
  · subst e; exact hx
  · have hk' : dn k = true := by simpa [Mix3.more, e] using hk
    exact (h.fact k hk').same (fun q => e q.symm) (fun j hj q => by have := h.use_ k hk' j hj; rw [← q, hi] at this; cases this)
theorem CJ.uses (h : CJ B1 N c a es w L0 dn v W) {i : Nat} (hu : ∀ j ∈ useC i, dn j = true) : ∀ k, Mix3.more dn i k = true → ∀ j ∈ useC k, Mix3.more dn i j = true := by
  intro k hk j hj
  by_cases e : k = i
  · subst e; simp [Mix3.more, hu j hj]
  · have hk' : dn k = true := by simpa [Mix3.more, e] using hk
    simp [Mix3.more, h.use_ k hk' j hj]
theorem CJ.no8 (h : CJ B1 N c a es w L0 dn v W) {i : Nat} (hi : dn i = false) (hm : i ∈ [5, 6, 7]) : dn 8 = false := by
  cases hq : dn 8
  · rfl
  · have := h.use_ 8 hq i hm
    rw [hi] at this; cases this
theorem CJ.pure (h : CJ B1 N c a es w L0 dn v W) {i : Nat} (hi : dn i = false) (hn : i ∉ [2, 5, 7, 8]) (hu : ∀ j ∈ useC i, dn j = true) (x : Value) (hx : FC B1 N es.length c a (Mix3.updV v i x) i) : CJ B1 N c a es w L0 (Mix3.more dn i) (Mix3.updV v i x) W := by
  simp only [List.mem_cons, List.not_mem_nil, or_false, not_or] at hn
  obtain ⟨n2, n5, n7, n8⟩ := hn
  refine ⟨?_, h.facts hi x hx, h.uses hu⟩
  have e : lsC N es L0 (Mix3.more dn i) (Mix3.updV v i x) = lsC N es L0 dn v := by
    unfold lsC q5 q7 Mix3.more Mix3.updV
    simp [n2, n5, n7, Ne.symm n2, Ne.symm n5, Ne.symm n7, Ne.symm n8]
  rw [e]; exact h.sep
theorem CJ.lit (h : CJ B1 N c a es w L0 dn v W) (hi : dn 2 = false) (h5 : dn 5 = false) : CJ B1 N c a es w L0 (Mix3.more dn 2) (Mix3.updV v 2 (.slice (some ⟨W.heap.size, 0, none⟩) 0 0)) (W.alloc (.cells #[] 34)) := by
  refine ⟨?_, h.facts hi _ ⟨_, by rw [Mix3.updV_same]⟩, h.uses (by intro j hj; cases hj)⟩
  have h2 := h.sep.litRecs edR 34 [] (by simp [maxLen])
  have e : lsC N es L0 (Mix3.more dn 2) (Mix3.updV v 2 (.slice (some ⟨W.heap.size, 0, none⟩) 0 0)) = recT edR 34 (.slice (some ⟨W.heap.size, 0, none⟩) 0 0) [] :: lsC N es L0 dn v := by
    unfold lsC q5 q7 Mix3.more Mix3.updV
    simp [hi, h5]
  rw [e]; exact h2
theorem CJ.at5 (d2 : dn 2 = true) (d5 : dn 5 = false) {g : Nat} (hg : v 2 = .slice (some ⟨g, 0, none⟩) 0 0) : (lsC N es L0 dn v)[0]? = some (recT edR 34 (.slice (some ⟨g, 0, none⟩) 0 0) []) := by
  unfold lsC q5
  simp [d2, d5, hg]
theorem CJ.app (h : CJ B1 N c a es w L0 dn v W) (d2 : dn 2 = true) (d5 : dn 5 = false) {W' : World} {g c' : Nat} (hs : Sep w W' ((lsC N es L0 dn v).set 0 (recT edR 34 (.slice (some ⟨g, 0, none⟩) es.length c') es))) :
    CJ B1 N c a es w L0 (Mix3.more dn 5) (Mix3.updV v 5 (.slice (some ⟨g, 0, none⟩) es.length c')) W' := by
  have d8 := h.no8 d5 (by decide)
  refine ⟨?_, h.facts d5 _ ⟨_, _, by rw [Mix3.updV_same]⟩, h.uses (by intro j hj; cases hj)⟩
  have e : lsC N es L0 (Mix3.more dn 5) (Mix3.updV v 5 (.slice (some ⟨g, 0, none⟩) es.length c')) = (lsC N es L0 dn v).set 0 (recT edR 34 (.slice (some ⟨g, 0, none⟩) es.length c') es) := by
    unfold lsC q5 q7 Mix3.more Mix3.updV
    simp [d2, d5, d8]
  rw [e]; exact hs
theorem CJ.net (h : CJ B1 N c a es w L0 dn v W) (d : dn 7 = false) :
    CJ B1 N c a es w L0 (Mix3.more dn 7) (Mix3.updV v 7 (.pointer (some ⟨W.heap.size, 0, none⟩))) (W.alloc (.cells #[.int .i64 0, .slice none 0 0] 24)) := by
  have d8 := h.no8 d (by decide)
  have hs := h.sep.newCells #[.int .i64 0, .slice none 0 0] 24
  refine ⟨hs.perm ?_, h.facts d _ ⟨_, by rw [Mix3.updV_same]⟩, h.uses (by intro j hj; cases hj)⟩
  have e : lsC N es L0 (Mix3.more dn 7) (Mix3.updV v 7 (.pointer (some ⟨W.heap.size, 0, none⟩))) = q5 es dn v ++ (cellsT W.heap.size #[.int .i64 0, .slice none 0 0] 24 :: L0) := by
    unfold lsC q5 q7 Mix3.more Mix3.updV
    simp [d8, ptrB]
  have e2 : lsC N es L0 dn v = q5 es dn v ++ L0 := by
    unfold lsC q7; simp [d]
  rw [e, e2]
  exact List.perm_middle.symm
theorem CJ.at7 (d7 : dn 7 = true) (d8 : dn 8 = false) (d5 : dn 5 = true) {g : Nat} (hg : v 7 = .pointer (some ⟨g, 0, none⟩)) : (lsC N es L0 dn v)[1]? = some (cellsT g #[.int .i64 0, .slice none 0 0] 24) := by
  unfold lsC q5 q7
  simp [d7, d8, d5, hg, ptrB]
theorem CJ.store (h : CJ B1 N c a es w L0 dn v W) (d5 : dn 5 = true) (d6 : dn 6 = true) (d7 : dn 7 = true) (d8 : dn 8 = false) {g : Nat} (hg : v 7 = .pointer (some ⟨g, 0, none⟩)) :
    CJ B1 N c a es w L0 (Mix3.more dn 8) (Mix3.updV v 8 undef) ((W.setCell ⟨g, 0, none⟩ (.int .i64 N)).setCell ⟨g, 1, none⟩ (v 5)) := by
  have h1 := h.sep.setCells 1 (CJ.at7 d7 d8 d5 hg) 0 (.int .i64 N) #[.int .i64 N, .slice none 0 0] rfl
  have h2 := h1.setCells 1 (by rw [List.getElem?_set_self (by have := CJ.at7 (N := N) (es := es) (L0 := L0) d7 d8 d5 hg; exact (List.getElem?_eq_some_iff.1 this).1)]) 1 (v 5) #[.int .i64 N, v 5] rfl
  rw [List.set_set] at h2
  refine ⟨?_, h.facts d8 _ trivial, h.uses (by intro j hj; simp only [useC, List.mem_cons, List.not_mem_nil, or_false] at hj; rcases hj with rfl | rfl | rfl <;> assumption)⟩
  have e : lsC N es L0 (Mix3.more dn 8) (Mix3.updV v 8 undef) = (lsC N es L0 dn v).set 1 (cellsT g #[.int .i64 N, v 5] 24) := by
    unfold lsC q5 q7 Mix3.more Mix3.updV
    simp [d5, d7, hg, ptrB]
  rw [e]; exact h2
theorem CJ.at0 (h : CJ B1 N c a es w L0 dn v W) (i : Nat) {b : Nat} {cs : Array Value} {E : TypeId} (hi : L0[i]? = some (cellsT b cs E)) : W.heap[b]? = some (.cells cs E (0, 0)) := by
  refine h.sep.cells ((q5 es dn v ++ q7 N dn v).length + i) ?_
  unfold lsC
  rw [← List.append_assoc, List.getElem?_append_right (Nat.le_add_right _ _), Nat.add_sub_cancel_left]
  exact hi
end
end Go.Proofs.Ytacbfpgijmpilaa
