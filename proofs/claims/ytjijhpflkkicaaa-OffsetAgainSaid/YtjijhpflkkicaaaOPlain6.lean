/-
  Rings, due by due: plain.
-/
import Derived.Test.YtjijhpflkkicaaaOPlain5
set_option linter.unusedVariables false
set_option linter.unusedSimpArgs false
namespace Go.OffP
open Go Go.Mem Go.MoneyP Go.BuildP
def tK (l : List Du) (k : Nat) : Int := (l.getD k default).t
def xK (l : List Du) (k : Nat) : Int := (l.getD k default).x
theorem getDu {l : List Du} {k : Nat} (h : k < l.length) : l.getD k default = l[k] := by
  rw [List.getD_eq_getElem?_getD, List.getElem?_eq_getElem h]; rfl
theorem EdgeD.tK {l : List Du} {k : Nat} {a b : Int} (h : EdgeD l k a b) : tK l k = b := by
  unfold OffP.tK
  rw [getDu h.lt]
  exact h.to
theorem Way.edge {l : List Du} : ∀ {p : List Nat} {a b : Int} (i : Nat) (hi : i < p.length), Way l a p b → EdgeD l p[i] (fK l p[i]) (tK l p[i])
  | _ :: _, _, _, 0, _, ⟨m, e, h⟩ => by
    rw [List.getElem_cons_zero, e.fK, e.tK]; exact e
  | _ :: _, _, _, i + 1, hi, ⟨m, e, h⟩ => by
    simp only [List.getElem_cons_succ]
    exact Way.edge i (by simpa using hi) h
theorem Way.head {l : List Du} : ∀ {p : List Nat} {a b : Int} (hi : 0 < p.length), Way l a p b → fK l p[0] = a
  | _ :: _, _, _, _, ⟨m, e, h⟩ => by rw [List.getElem_cons_zero, e.fK]
theorem Way.step {l : List Du} : ∀ {p : List Nat} {a b : Int} (i : Nat) (hi : i + 1 < p.length), Way l a p b → tK l p[i] = fK l p[i + 1]
  | _ :: q, _, _, 0, hi, ⟨m, e, h⟩ => by
    simp only [List.getElem_cons_zero, List.getElem_cons_succ]
    rw [e.tK, Way.head (p := q) (by simp at hi; omega) h]
  | _ :: q, _, _, i + 1, hi, ⟨m, e, h⟩ => by
    simp only [List.getElem_cons_succ]
    exact Way.step (p := q) i (by simp at hi; omega) h
theorem Way.endT {l : List Du} : ∀ {p : List Nat} {a b : Int} (hi : p.length - 1 < p.length), Way l a p b → tK l p[p.length - 1] = b
  | [k], _, _, _, ⟨m, e, h⟩ => by
    cases h
    simp only [List.length_singleton, Nat.sub_self, List.getElem_cons_zero]
    exact e.tK
  | _ :: k :: q, _, _, hi, ⟨m, e, h⟩ => by
    have := Way.endT (p := k :: q) (by simp) h
    simp only [List.length_cons, Nat.add_sub_cancel, List.getElem_cons_succ] at this ⊢
    exact this
theorem RingD.edge {l : List Du} {q : List Nat} (h : RingD l q) (i : Nat) (hi : i < q.length) : EdgeD l q[i] (fK l q[i]) (tK l q[i]) := by
  obtain ⟨a, hw⟩ := h.way
  exact hw.edge i hi
theorem RingD.step {l : List Du} {q : List Nat} (h : RingD l q) (i : Nat) (hi : i + 1 < q.length) : tK l q[i] = fK l q[i + 1] := by
  obtain ⟨a, hw⟩ := h.way
  exact hw.step i hi
theorem RingD.pos {l : List Du} {q : List Nat} (h : RingD l q) : 0 < q.length := List.length_pos_iff.2 h.ne
theorem RingD.round {l : List Du} {q : List Nat} (h : RingD l q) : tK l (q[q.length - 1]'(by have := h.pos; omega)) = fK l (q[0]'h.pos) := by
  obtain ⟨a, hw⟩ := h.way
  rw [hw.head h.pos, hw.endT (by have := h.pos; omega)]
/-- Which banks the first i dues of a ring come from. -/
def cntR (l : List Du) (q : List Nat) (i : Nat) (x : Int) : Int := if x ∈ (q.take i).map (fK l) then 1 else 0
theorem cntR_zero (l : List Du) (q : List Nat) (x : Int) : cntR l q 0 x = 0 := by simp [cntR]
theorem cntR_new {l : List Du} {q : List Nat} (h : (q.map (fK l)).Nodup) {i : Nat} (hi : i < q.length) : cntR l q i (fK l q[i]) = 0 := by
  unfold cntR
  refine if_neg fun hm => ?_
  rw [List.map_take] at hm
  have h2 : (q.map (fK l)) = (q.map (fK l)).take i ++ (q.map (fK l)).drop i := (List.take_append_drop _ _).symm
  rw [h2, List.nodup_append] at h
  refine h.2.2 _ hm _ (?_ : fK l q[i] ∈ _) rfl
  rw [List.drop_eq_getElem_cons (by simpa using hi), List.getElem_map]
  exact List.mem_cons_self
theorem cntR_same {l : List Du} {q : List Nat} {i : Nat} (hi : i < q.length) : cntR l q (i + 1) (fK l q[i]) = 1 := by
  unfold cntR
  exact if_pos (List.mem_map.2 ⟨q[i], by rw [List.take_succ_eq_append_getElem hi]; exact List.mem_append_right _ (List.mem_singleton.2 rfl), rfl⟩)
theorem cntR_other {l : List Du} {q : List Nat} {i : Nat} (hi : i < q.length) {x : Int} (hx : x ≠ fK l q[i]) : cntR l q (i + 1) x = cntR l q i x := by
  have e : (x ∈ (q.take (i + 1)).map (fK l)) = (x ∈ (q.take i).map (fK l)) := propext (by
    rw [List.take_succ_eq_append_getElem hi, List.map_append, List.mem_append]
    refine ⟨fun h => h.elim id fun h => absurd ?_ hx, .inl⟩
    rw [List.map_singleton, List.mem_singleton] at h
    exact h)
  unfold cntR
  simp only [e]
/-- The least amount of a ring. -/
def leastI (l : List Du) (q : List Nat) (i : Nat) : Int := (q.take i).foldl (fun x k => min x (xK l k)) (xK l (q.headD 0))
def leastR (l : List Du) (q : List Nat) : Int := leastI l q q.length
theorem leastI_succ {l : List Du} {q : List Nat} {i : Nat} (hi : i < q.length) : leastI l q (i + 1) = min (leastI l q i) (xK l q[i]) := by
  unfold leastI
  rw [List.take_succ_eq_append_getElem hi, List.foldl_append]; rfl
theorem leastI_le {l : List Du} {q : List Nat} : ∀ (n i : Nat) (hi : i < q.length), i < n → n ≤ q.length → leastI l q n ≤ xK l q[i]
  | n + 1, i, hi, h1, h2 => by
    rw [leastI_succ (by omega)]
    by_cases e : i = n
    · subst e; omega
    · have := leastI_le (l := l) n i hi (by omega) (by omega)
      omega
theorem leastI_is {l : List Du} {q : List Nat} (h0 : 0 < q.length) : ∀ n, n ≤ q.length → ∃ (i : Nat) (hi : i < q.length), leastI l q n = xK l q[i]
  | 0, _ => ⟨0, h0, by
    unfold leastI
    cases q with
    | nil => simp at h0
    | cons k q => rfl⟩
  | n + 1, h => by
    obtain ⟨i, hi, e⟩ := leastI_is (l := l) h0 n (by omega)
    rw [leastI_succ (by omega), e]
    by_cases hh : xK l q[i] ≤ xK l (q[n]'(by omega))
    · exact ⟨i, hi, by omega⟩
    · exact ⟨n, by omega, by omega⟩
theorem RingD.le {l : List Du} {q : List Nat} (i : Nat) (hi : i < q.length) : leastR l q ≤ xK l q[i] := leastI_le _ i hi hi (Nat.le_refl _)
theorem RingD.is {l : List Du} {q : List Nat} (h : RingD l q) : ∃ (i : Nat) (hi : i < q.length), leastR l q = xK l q[i] := leastI_is h.pos _ (Nat.le_refl _)
theorem xK_may {l : List Du} (hl : ∀ d ∈ l, MayD d) {k : Nat} (hk : k < l.length) : 1 ≤ xK l k ∧ xK l k ≤ 4503599627370496 := by
  unfold xK
  rw [getDu hk]
  have := hl _ (List.getElem_mem hk)
  exact ⟨this.x0, this.x1⟩
theorem leastI_may {l : List Du} {q : List Nat} (hl : ∀ d ∈ l, MayD d) (h : RingD l q) {n : Nat} (hn : n ≤ q.length) : 1 ≤ leastI l q n ∧ leastI l q n ≤ 4503599627370496 := by
  obtain ⟨i, hi, e⟩ := leastI_is (l := l) h.pos n hn
  rw [e]
  exact xK_may hl (h.mem _ (List.getElem_mem hi))
end Go.OffP
