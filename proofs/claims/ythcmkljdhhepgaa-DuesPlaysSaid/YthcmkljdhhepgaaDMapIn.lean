/-
  A range over a map from numbers to records, inside a fence. Plain lemmas.
-/
import Derived.Test.YthcmkljdhhepgaaDMap
import Derived.OwnWalkIn
import Derived.Sort.MapsRangeIn
set_option linter.unusedVariables false
set_option linter.unusedSimpArgs false
namespace Go.Mem
open Go Go.RowKit Go.Maps
section
variable {α : Type} {kk : IntKind} {kf : α → Int} {vf : α → Value} {P : Program} {w0 w : World} {L : List Thing} {xs left : List α} {b r : Nat}
/-- 'range', for whoever looks. -/
theorem Sep.rangeNewAll {t k e : TypeId} (h : Sep w0 w L) (i : Nat) (hi : L[i]? = some (dmapT kk kf vf b xs)) (ht : P.underlying t = some (.map k e)) :
    ∃ w', (Instr.range t (.map (some b))).run P w = .ok (.pointer (some ⟨w.heap.size, 0, none⟩)) w' ∧ ∀ (w0' : World) (L' : List Thing) (i' : Nat), Sep w0' w L' → L'[i']? = some (dmapT kk kf vf b xs) → Sep w0' w' (L'.set i' (rangeT kk kf vf b w.heap.size xs xs)) := by
  obtain ⟨W1, hrun, _, hs1⟩ := h.rangeNew (P := P) i hi ht
  refine ⟨W1, hrun, fun w0' L' i' h' hi' => ?_⟩
  obtain ⟨W2, hrun2, _, hs2⟩ := h'.rangeNew (P := P) i' hi' ht
  rw [hrun] at hrun2
  injection hrun2 with _ e1
  subst e1
  exact hs2
/-- 'next', for whoever looks. -/
theorem Sep.rangeNextAll (h : Sep w0 w L) (i : Nat) (hi : L[i]? = some (rangeT kk kf vf b r xs left)) (ty : TypeId) :
    (left = [] ∧ (Instr.next (.pointer (some ⟨r, 0, none⟩)) false ty).run P w = .ok (.tuple #[.bool false]) w) ∨
    ∃ d left' w', left.Perm (d :: left') ∧ (Instr.next (.pointer (some ⟨r, 0, none⟩)) false ty).run P w = .ok (.tuple #[.bool true, .int kk (kf d), vf d]) w' ∧
      (Instr.entry (.pointer (some ⟨r, 0, none⟩))).run P w' = .ok (.tuple #[.int kk (kf d), vf d]) w' ∧ ∀ (w0' : World) (L' : List Thing) (i' : Nat), Sep w0' w L' → L'[i']? = some (rangeT kk kf vf b r xs left) → Sep w0' w' (L'.set i' (rangeT kk kf vf b r xs left')) := by
  rcases h.rangeNext (P := P) i hi ty with h1 | ⟨d, left', w', hp, hrun, _, hent, hs⟩
  · exact .inl h1
  · refine .inr ⟨d, left', w', hp, hrun, hent, fun w0' L' i' h' hi' => ?_⟩
    obtain ⟨S1, hS1⟩ := hs.at i (List.getElem?_set_self (List.getElem?_eq_some_iff.1 hi).1)
    rcases h'.rangeNext (P := P) i' hi' ty with ⟨_, hrun2⟩ | ⟨d2, left2, w2, hp2, hrun2, _, hent2, hs2⟩
    · rw [hrun] at hrun2
      injection hrun2 with e1 _
      injection e1 with e1
      have := congrArg Array.size e1
      simp at this
    · rw [hrun] at hrun2
      injection hrun2 with _ e1
      subst e1
      have h3 := hs2.swap i' (B := rangeT kk kf vf b r xs left') (List.getElem?_set_self (List.getElem?_eq_some_iff.1 hi').1) fun S hS => ⟨S, by
        obtain ⟨hSe, hne, es, clock, since, seen, c0, hb, q1, q2, q3, hr, q4, q5, q6, hl⟩ := hS
        obtain ⟨_, _, es', clock', since', seen', c0', hb', _, _, _, hr', _, _, _, hl'⟩ := hS1
        rw [hb] at hb'
        rw [hr] at hr'
        injection hb' with hb'
        injection hb' with e2 e3
        injection hr' with hr'
        injection hr' with e4 e5 e6 e7
        subst e2
        subst e6
        exact ⟨hSe, hne, es, clock, since, seen, c0, hb, q1, q2, q3, hr, q4, q5, q6, hl'⟩, fun _ hk => hk⟩
      rw [List.set_set] at h3
      exact h3
end
section
variable {α : Type} {kk : IntKind} {kf : α → Int} {vf : α → Value} {P : Program} {F : Fence} {n : Nat} {w : World}
variable {ops : Array Oper} {rest : List Oper} {o : Oper} {a : Act} {Q : Exit → Act → World → Prop}
theorem wpListIn_rangeD (hg : o.guard = none) (m : Operand) (t : TypeId) (hop : o.op = Op.range t m) {bm : Nat} (hm : a.eval m = .map (some bm)) {p : Value} {w' : World} (hrun : (Instr.range t (.map (some bm))).run P w = .ok p w')
    (hK : wpListIn F n P ops Q rest (a.put o.dst p) w') : wpListIn F n P ops Q (o :: rest) a w := by
  refine wpListIn_plain hg fun K' hK' => ?_
  unfold Oper.wpIn
  refine ⟨by simp [Oper.about, hop], ?_⟩
  rw [Oper.semAt_plain F _ _ (by rw [hop]; intro c hc'; cases hc')]
  simp [execOp, hop, hm, hrun, Result.andThen]
  exact hK' _ _ hK
theorem wpListIn_nextD {w0 : World} {L : List Thing} {xs left : List α} {b r i : Nat} (hg : o.guard = none) (it : Operand) (hop : o.op = Op.next it false) (hs : Sep w0 w L) (hi : L[i]? = some (rangeT kk kf vf b r xs left)) (hit : a.eval it = .pointer (some ⟨r, 0, none⟩))
    (hDone : left = [] → wpListIn F n P ops Q rest (a.put o.dst (.tuple #[.bool false])) w)
    (hMore : ∀ d left' w', left.Perm (d :: left') → (∀ (w0' : World) (L' : List Thing) (i' : Nat), Sep w0' w L' → L'[i']? = some (rangeT kk kf vf b r xs left) → Sep w0' w' (L'.set i' (rangeT kk kf vf b r xs left'))) → (Instr.entry (.pointer (some ⟨r, 0, none⟩))).run P w' = .ok (.tuple #[.int kk (kf d), vf d]) w' → wpListIn F n P ops Q rest (a.put o.dst (.tuple #[.bool true, .int kk (kf d), vf d])) w') :
    wpListIn F n P ops Q (o :: rest) a w := by
  refine wpListIn_plain hg fun K' hK' => ?_
  unfold Oper.wpIn
  refine ⟨by simp [Oper.about, hop], ?_⟩
  rw [Oper.semAt_plain F _ _ (by rw [hop]; intro c hc'; cases hc')]
  rcases hs.rangeNextAll i hi (P := P) o.type with ⟨h0, hrun⟩ | ⟨d, left', w', hp, hrun, hen, hs'⟩
  · simp [execOp, hop, hit, hrun, Result.andThen]
    exact hK' _ _ (hDone h0)
  · simp [execOp, hop, hit, hrun, Result.andThen]
    exact hK' _ _ (hMore d left' w' hp hs' hen)
end
end Go.Mem
