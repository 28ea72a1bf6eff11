/-
  Rings: what is left, place by place, and what is paid: plain.
-/
import Derived.Test.YtjijhpflkkicaaaOPlain6
set_option linter.unusedVariables false
set_option linter.unusedSimpArgs false
namespace Go.OffP
open Go Go.Mem Go.MoneyP Go.BuildP
/-- A due of which so much is paid. -/
def payD (d : Du) (x : Int) : Du := { d with x := d.x - x }
def restD (O : List Du) (Out : List Int) (m : Nat) : Du := payD (O.getD m default) (Out.getD m 0)
def posP (O : List Du) (Out : List Int) (m : Nat) : Bool := decide (0 < (restD O Out m).x)
/-- Where what is left stands .. -/
def leftP (O : List Du) (Out : List Int) : List Nat := (List.range O.length).filter (posP O Out)
/-- .. and what it is. -/
def leftS (O : List Du) (Out : List Int) : List Du := (leftP O Out).map (restD O Out)
/-- So much is paid to each of a ring. -/
def payO (P : List Nat) (x : Int) (ks : List Nat) (Out : List Int) : List Int := ks.foldl (fun Z k => Z.set (P.getD k 0) (Z.getD (P.getD k 0) 0 + x)) Out
theorem payO_len (P : List Nat) (x : Int) : ∀ (ks : List Nat) (Out : List Int), (payO P x ks Out).length = Out.length
  | [], _ => rfl
  | k :: ks, Out => by
    unfold payO
    rw [List.foldl_cons]
    exact (payO_len P x ks _).trans (by simp)
theorem payO_take {P : List Nat} {x : Int} {q : List Nat} {Out : List Int} {i : Nat} (h : i < q.length) :
    payO P x (q.take (i + 1)) Out = (payO P x (q.take i) Out).set (P.getD q[i] 0) ((payO P x (q.take i) Out).getD (P.getD q[i] 0) 0 + x) := by
  unfold payO
  rw [List.take_succ_eq_append_getElem h, List.foldl_append]; rfl
theorem leftP_nodup (O : List Du) (Out : List Int) : (leftP O Out).Nodup := List.nodup_range.filter _
theorem leftP_lt {O : List Du} {Out : List Int} {m : Nat} (h : m ∈ leftP O Out) : m < O.length := by
  unfold leftP at h
  rw [List.mem_filter, List.mem_range] at h
  exact h.1
theorem getN {P : List Nat} {k : Nat} (h : k < P.length) : P.getD k 0 = P[k] := by
  rw [List.getD_eq_getElem?_getD, List.getElem?_eq_getElem h]; rfl
theorem getI {P : List Int} {k : Nat} (h : k < P.length) : P.getD k 0 = P[k] := by
  rw [List.getD_eq_getElem?_getD, List.getElem?_eq_getElem h]; rfl
theorem set_getD (Z : List Int) (m n : Nat) (x : Int) (h : m < Z.length) : (Z.set m x).getD n 0 = if m = n then x else Z.getD n 0 := by
  rw [List.getD_eq_getElem?_getD, List.getD_eq_getElem?_getD, List.getElem?_set]
  by_cases e : m = n
  · subst e
    rw [if_pos rfl, if_pos rfl, if_pos h]; rfl
  · rw [if_neg e, if_neg e]
/-- One due of the ring is paid. -/
theorem pay_step {O : List Du} {Out : List Int} {P : List Nat} (hnd : P.Nodup) (hl : Out.length = O.length) (hP : ∀ m ∈ P, m < O.length) {k : Nat} (hk : k < P.length) (x : Int) :
    (P.map (restD O Out)).set k (payD (restD O Out P[k]) x) = P.map (restD O (Out.set P[k] (Out.getD P[k] 0 + x))) := by
  refine List.ext_getElem (by simp) fun j h1 h2 => ?_
  have hj : j < P.length := by simpa using h2
  have hkl : P[k] < Out.length := by rw [hl]; exact hP _ (List.getElem_mem hk)
  rw [List.getElem_set, List.getElem_map, List.getElem_map]
  by_cases e : k = j
  · subst e
    rw [if_pos rfl]
    unfold restD payD
    rw [set_getD _ _ _ _ hkl, if_pos rfl]
    simp only [Du.mk.injEq, and_self, and_true, true_and]
    omega
  · rw [if_neg e]
    have hne : P[k] ≠ P[j] := fun h => e ((List.getElem_inj hnd).1 h)
    unfold restD
    rw [set_getD _ _ _ _ hkl, if_neg hne]
/-- A filter in place: what lies in the row at the i-th round. -/
structure FilP {α : Type} (q : α → Bool) (A Y : List α) (i : Nat) : Prop where
  len : Y.length = A.length
  i0 : i ≤ A.length
  kept : Y.take ((A.take i).filter q).length = (A.take i).filter q
  rest : Y.drop i = A.drop i
section
variable {α : Type} {q : α → Bool} {A Y : List α} {i : Nat}
theorem fil_le (q : α → Bool) (A : List α) {i : Nat} (hi : i ≤ A.length) : ((A.take i).filter q).length ≤ i := by
  have := List.length_filter_le q (A.take i)
  rw [List.length_take] at this
  omega
theorem FilP.start (q : α → Bool) (A : List α) : FilP q A A 0 := ⟨rfl, Nat.zero_le _, by simp, by simp⟩
theorem FilP.get (h : FilP q A Y i) (hi : i < A.length) : Y[i]'(by rw [h.len]; exact hi) = A[i] := by
  have h1 := congrArg (fun l => l[0]?) h.rest
  simp only [List.getElem?_drop, Nat.add_zero] at h1
  rw [List.getElem?_eq_getElem (by rw [h.len]; exact hi), List.getElem?_eq_getElem hi] at h1
  injection h1
theorem fil_skip (hi : i < A.length) (hq : q A[i] = false) : (A.take (i + 1)).filter q = (A.take i).filter q := by
  rw [List.take_succ_eq_append_getElem hi, List.filter_append]
  simp [hq]
theorem fil_put (hi : i < A.length) (hq : q A[i] = true) : (A.take (i + 1)).filter q = (A.take i).filter q ++ [A[i]] := by
  rw [List.take_succ_eq_append_getElem hi, List.filter_append]
  simp [hq]
theorem drop_next {A Y : List α} (h : Y.drop i = A.drop i) : Y.drop (i + 1) = A.drop (i + 1) := by
  have := congrArg (List.drop 1) h
  rwa [List.drop_drop, List.drop_drop] at this
theorem FilP.skip (h : FilP q A Y i) (hi : i < A.length) (hq : q A[i] = false) : FilP q A Y (i + 1) :=
  ⟨h.len, hi, by rw [fil_skip hi hq]; exact h.kept, drop_next h.rest⟩
theorem FilP.put (h : FilP q A Y i) (hi : i < A.length) (hq : q A[i] = true) : FilP q A (Y.set ((A.take i).filter q).length A[i]) (i + 1) := by
  have hc := fil_le q A h.i0
  refine ⟨by rw [List.length_set]; exact h.len, hi, ?_, ?_⟩
  · rw [fil_put hi hq, List.length_append, List.length_singleton, List.take_succ_eq_append_getElem (by rw [List.length_set, h.len]; omega), List.take_set_of_le (Nat.le_refl _), h.kept]
    simp
  · rw [List.drop_set_of_lt (by omega)]
    exact drop_next h.rest
theorem FilP.done (h : FilP q A Y i) (hi : i = A.length) : Y.take (A.filter q).length = A.filter q := by
  have := h.kept
  rwa [hi, List.take_length] at this
end
/-- What is filtered is what is left. -/
theorem left_next {O : List Du} {Out Out' : List Int} (h : ∀ m, m < O.length → Out.getD m 0 ≤ Out'.getD m 0) : (leftP O Out).filter (posP O Out') = leftP O Out' := by
  unfold leftP
  rw [List.filter_filter]
  refine List.filter_congr fun m hm => ?_
  have := h m (List.mem_range.1 hm)
  unfold posP restD payD
  simp only [Bool.and_eq_left_iff_imp, decide_eq_true_eq]
  omega
theorem map_fil (O : List Du) (Out : List Int) (P : List Nat) : ((P.map (restD O Out)).filter fun d => decide (0 < d.x)) = (P.filter (posP O Out)).map (restD O Out) := by
  rw [List.filter_map]
  rfl
/-- What is paid to and by a bank. -/
def flowD (a : Int) (d : Du) (x : Int) : Int := (if d.f = a then x else 0) - (if d.t = a then x else 0)
def bal (O : List Du) (Out : List Int) (a : Int) : Int := ((O.zip Out).map fun p => flowD a p.1 p.2).sum
theorem bal_set (a x : Int) : ∀ (O : List Du) (Out : List Int) (m : Nat), m < O.length → Out.length = O.length → bal O (Out.set m (Out.getD m 0 + x)) a = bal O Out a + flowD a (O.getD m default) x
  | d :: O, y :: Out, 0, _, _ => by
    unfold bal flowD
    simp only [List.getD_cons_zero, List.set_cons_zero, List.zip_cons_cons, List.map_cons, List.sum_cons]
    split <;> split <;> omega
  | d :: O, y :: Out, m + 1, h, hl => by
    have ih := bal_set a x O Out m (by simpa using h) (by simpa using hl)
    unfold bal at ih ⊢
    simp only [List.getD_cons_succ, List.set_cons_succ, List.zip_cons_cons, List.map_cons, List.sum_cons]
    rw [ih]; omega
  | [], _, m, h, _ => absurd h (Nat.not_lt_zero _)
  | d :: O, [], m, _, hl => by simp at hl
theorem flow_rest (a : Int) (O : List Du) (Out : List Int) (m : Nat) (x : Int) : flowD a (restD O Out m) x = flowD a (O.getD m default) x := rfl
def flowK (l : List Du) (a x : Int) (k : Nat) : Int := flowD a (l.getD k default) x
theorem way_flow {l : List Du} (a x : Int) : ∀ {p : List Nat} {b c : Int}, Way l b p c → (p.map (flowK l a x)).sum = (if b = a then x else 0) - (if c = a then x else 0)
  | [], _, _, h => by cases h; simp
  | k :: ks, b, c, ⟨m, e, h⟩ => by
    rw [List.map_cons, List.sum_cons, way_flow a x h]
    unfold flowK flowD
    have h1 := e.fK
    have h2 := e.tK
    unfold fK at h1
    unfold tK at h2
    rw [h1, h2]
    omega
theorem ring_flow {l : List Du} {q : List Nat} (h : RingD l q) (a x : Int) : (q.map (flowK l a x)).sum = 0 := by
  obtain ⟨b, hw⟩ := h.way
  rw [way_flow a x hw]
  omega
theorem bal_pay {O : List Du} {P : List Nat} (hP : ∀ m ∈ P, m < O.length) (a x : Int) (l : List Du) (hl : ∀ k, k < P.length → ∃ y, l.getD k default = payD (O.getD (P.getD k 0) default) y) : ∀ (q : List Nat) (Out : List Int), Out.length = O.length → (∀ k ∈ q, k < P.length) → bal O (payO P x q Out) a = bal O Out a + (q.map (flowK l a x)).sum
  | [], Out, _, _ => by simp [payO]
  | k :: q, Out, h1, h2 => by
    have hk := h2 k List.mem_cons_self
    have hm : P.getD k 0 < O.length := by rw [getN hk]; exact hP _ (List.getElem_mem hk)
    unfold payO
    rw [List.foldl_cons]
    have ih := bal_pay hP a x l hl q (Out.set (P.getD k 0) (Out.getD (P.getD k 0) 0 + x)) (by rw [List.length_set]; exact h1) (fun j hj => h2 j (List.mem_cons_of_mem _ hj))
    unfold payO at ih
    rw [ih, bal_set a x O Out _ hm h1, List.map_cons, List.sum_cons]
    obtain ⟨y, hy⟩ := hl k hk
    have : flowK l a x k = flowD a (O.getD (P.getD k 0) default) x := by
      unfold flowK
      rw [hy]; rfl
    rw [this]; omega
end Go.OffP
